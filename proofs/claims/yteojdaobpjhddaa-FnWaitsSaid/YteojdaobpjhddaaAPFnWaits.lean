/- What the functions that FnWaits runs come to, and that the law's own run comes to true. -/
import Derived.Test.YteojdaobpjhddaaAC
import Derived.KernelRfl
import Derived.Test.YteojdaobpjhddaaAMFnWaits0
import Derived.Test.YteojdaobpjhddaaAMFnWaits1
import Derived.Test.YteojdaobpjhddaaAMFnWaits2
namespace Go.Proofs.Yteojdaobpjhddaa.Pure
open Go Go.AM Go.AMx Go.Proofs.Yteojdaobpjhddaa.XFnWaits
set_option linter.unusedVariables false
set_option linter.unusedSimpArgs false
/-! Words. -/
def wok (x : Int) : Bool := decide (-2147483648 ≤ x ∧ x ≤ 2147483647)
theorem spec_in (k : Nat) (x lo hi : Int) : spec_l1In k x lo hi = some (decide (lo ≤ x ∧ x ≤ hi)) := by rw [spec_l1In_e, in_ge]
theorem impl_in (k : Nat) (x lo hi : Int) : impl_within k x lo hi = some (decide (lo ≤ x ∧ x ≤ hi)) := by rw [impl_within_e, in_ge]
theorem spec_wok (k : Nat) (x : Int) : spec_WordOk k x = some (wok x) := by rw [spec_WordOk_e, spec_in, bindO_some]; rfl
theorem impl_wok (k : Nat) (x : Int) : impl_WordOk k x = some (wok x) := by rw [impl_WordOk_e, impl_in, bindO_some]; rfl

theorem ite_and {b c : Bool} : iteB b (some c) (some false) = some (b && c) := by cases b <;> rfl
def allI {α : Type} (p : Int → α → Bool) : List α → Int → Bool
  | [], _ => true
  | x :: r, i => p i x && allI p r (i + 1)
theorem all_idx {α : Type} (xs : List α) (d : α) {F : Nat → α → Prop} {p : Int → α → Bool} {L : Nat → Nat → Int → Option Bool} {e : Nat → Option Bool} {b : Bool} (hF : ∀ x ∈ xs, Ev fun k => F k x) (he : Ev fun k => e k = some b)
    (hL : ∀ k n i, (∀ x ∈ xs, F k x) → 0 ≤ i → i < (xs.length : Int) → L k (n + 1) i = iteB (p i (xs.getD i.toNat d)) (L k n (i + 1)) (some false))
    (hE : ∀ k n i, (xs.length : Int) ≤ i → L k (n + 1) i = e k) : Ev fun k => L k k 0 = some (allI p xs 0 && b) := by
  refine ((Ev.all hF).and he).two (Ev.gt xs.length) fun k h1 h2 => ?_
  have key : ∀ (m : Nat) (i : Int) (q : Nat), 0 ≤ i → (xs.length : Int) - i = m → m < q → L k q i = some (allI p (xs.drop i.toNat) i && b) := by
    intro m
    induction m with
    | zero =>
      intro i q hi hm hq
      obtain ⟨q, rfl⟩ : ∃ p, q = p + 1 := ⟨q - 1, by omega⟩
      rw [hE k q i (by omega), h1.2, List.drop_eq_nil_of_le (by omega)]; rfl
    | succ m ih =>
      intro i q hi hm hq
      obtain ⟨q, rfl⟩ : ∃ p, q = p + 1 := ⟨q - 1, by omega⟩
      have hlt : i < (xs.length : Int) := by omega
      rw [hL k q i h1.1 hi hlt, ih (i + 1) q (by omega) (by omega) (by omega), drop_at xs d i hi hlt]
      show _ = some (p i (xs.getD i.toNat d) && allI p (xs.drop (i + 1).toNat) (i + 1) && b)
      cases p i (xs.getD i.toNat d) <;> rfl
  have := key xs.length 0 k (by omega) (by omega) h2
  simpa using this
theorem index_at {α : Type} (xs : List α) (d : α) {p : α → Bool} (k : Nat) {L : Nat → Int → Option Int} (hk : xs.length < k)
    (hL : ∀ n i, 0 ≤ i → i < (xs.length : Int) → L (n + 1) i = iteB (p (xs.getD i.toNat d)) (some i) (L n (i + 1)))
    (hE : ∀ n i, (xs.length : Int) ≤ i → L (n + 1) i = some (-1)) : L k 0 = some (firstOf p xs 0) := by
  rw [loop_all xs d (fun n i => L n i) (fun i x r => bif p x then some i else r) (some (-1)) (fun n i g0 g1 => by
    show L (n + 1) i = _
    rw [hL n i g0 g1]
    cases p (xs.getD i.toNat d) <;> rfl) (fun n i g => hE n i g) k hk, run_firstOf]
/-- The rounds inside, all of them. -/
theorem rounds_all {α : Type} (xs : List α) (d : α) {p : α → Bool} {L : Nat → Int → Option Bool} {e : Option Bool}
    (hL : ∀ n i, 0 ≤ i → i < (xs.length : Int) → L (n + 1) i = iteB (p (xs.getD i.toNat d)) (L n (i + 1)) (some false))
    (hE : ∀ n i, (xs.length : Int) ≤ i → L (n + 1) i = e) (k : Nat) (hk : xs.length < k) : L k 0 = iteB (xs.all p) e (some false) := by
  have key : ∀ (m : Nat) (i : Int) (q : Nat), 0 ≤ i → (xs.length : Int) - i = m → m < q → L q i = iteB ((xs.drop i.toNat).all p) e (some false) := by
    intro m
    induction m with
    | zero =>
      intro i q hi hm hq
      obtain ⟨q, rfl⟩ : ∃ p, q = p + 1 := ⟨q - 1, by omega⟩
      rw [hE q i (by omega), List.drop_eq_nil_of_le (by omega)]; rfl
    | succ m ih =>
      intro i q hi hm hq
      obtain ⟨q, rfl⟩ : ∃ p, q = p + 1 := ⟨q - 1, by omega⟩
      have hlt : i < (xs.length : Int) := by omega
      rw [hL q i hi hlt, ih (i + 1) q (by omega) (by omega) (by omega), drop_at xs d i hi hlt, List.all_cons]
      cases p (xs.getD i.toNat d) <;> rfl
  have := key xs.length 0 k (by omega) (by omega) hk
  simpa using this
/-! Words, waits, channels. -/
theorem spec_words (l : List Int) (hl : l.length ≤ 1048576) : Ev fun k => spec_l3Words k l = some (l.all wok) := by
  refine (all_rounds l 0 (f := spec_WordOk) (p := wok) (L := fun k n i => spec_l3Words.l2 k n l i) (e := fun _ => some true) (fun x _ => Ev.of fun k => spec_wok k x) (Ev.of fun _ => rfl) (fun k n i h0 h1 => ?_) (fun k n i h => ?_)).mono fun k h => ?_
  · show spec_l3Words.l2 k (n + 1) l i = _
    rw [spec_l3Words.l2_s, iteB_pos h1, iteB_pos h0, iteB_pos h1, next_i h0 h1 (by omega)]
  · show spec_l3Words.l2 k (n + 1) l i = _
    rw [spec_l3Words.l2_s, iteB_neg (by omega)]
  · rw [spec_l3Words_e]; simpa using h
theorem impl_ww (k : Nat) (x : Int) : impl_wordsOk_1 k x = some (!wok x) := by rw [impl_wordsOk_1_e, impl_wok, bindO_some]
theorem impl_words (l : List Int) (h : l.length ≤ 1048576) (most : Int) : Ev fun k => impl_wordsOk k l most = some (bif decide ((l.length : Int) ≤ most) then l.all wok else false) := by
  refine (contains_of slices_IndexFunc_int__impl_wordsOk_1.l2_s slices_IndexFunc_int__impl_wordsOk_1_e slices_ContainsFunc_int__impl_wordsOk_1_e l h (p := fun x => !wok x) (fun y _ => Ev.of fun k => impl_ww k y)).mono fun k hk => ?_
  rw [impl_wordsOk_e, hk, bindO_some, iteB_ss, any_not, Bool.not_not]
abbrev TW : Type := Int × Int × Int × Int × Unit
abbrev dW : TW := Ty.dflt (.pair (.int .i64) (.pair (.int .i64) (.pair (.int .i64) (.pair (.int .i64) .unit))))
theorem take_getD {α : Type} (l : List α) (d : α) {i j : Int} (h0 : 0 ≤ j) (h : j < i) : (l.take i.toNat).getD j.toNat d = l.getD j.toNat d := by
  simp only [List.getD, List.getElem?_take]
  rw [if_pos (by omega)]
def waitB (l : List TW) (i : Int) (x : TW) : Bool := decide (0 ≤ x.1 ∧ x.1 ≤ 5) && (wok x.2.2.1 && (!(decide (x.2.1 < 0)) && (!(decide (x.2.2.2.1 < 0)) && (l.take i.toNat).all (fun y => !(y.1 == x.1)))))
def waitsV (l : List TW) : Bool := allI (waitB l) l 0 && decide ((l.length : Int) ≤ 6)
theorem spec_waits (l : List TW) (hl : l.length ≤ 1048576) : Ev fun k => spec_l12Waits k l = some (waitsV l) := by
  refine (all_idx l dW (F := fun k _ => l.length < k) (p := waitB l) (L := fun k n i => spec_l12Waits.l2 k n l i) (e := fun _ => some (decide ((l.length : Int) ≤ 6))) (fun _ _ => Ev.gt _) (Ev.of fun _ => rfl) (fun k n i hF g0 g1 => ?_) (fun k n i hi => ?_)).mono fun k h => ?_
  · show spec_l12Waits.l2 k (n + 1) l i = _
    have hk := hF _ (getD_mem l dW g0 g1)
    have hlen : (l.take i.toNat).length = i.toNat := by rw [List.length_take]; omega
    have inner := rounds_all (l.take i.toNat) dW (p := fun y => !(y.1 == (l.getD i.toNat dW).1)) (L := fun q j => spec_l12Waits.l8 k n q l i j (l.getD i.toNat dW)) (e := spec_l12Waits.l2 k n l (i + 1)) (fun q j h0 h1 => by
      show spec_l12Waits.l8 k n (q + 1) l i j _ = _
      rw [hlen] at h1
      rw [spec_l12Waits.l8_s, iteB_pos (by omega), iteB_pos h0, iteB_pos (by omega), take_getD l dW h0 (by omega), next_i h0 (show j < (l.length : Int) by omega) (by omega)]
      show iteB ((l.getD j.toNat dW).1 == (l.getD i.toNat dW).1) _ _ = _
      cases ((l.getD j.toNat dW).1 == (l.getD i.toNat dW).1) <;> rfl) (fun q j hj => by
      show spec_l12Waits.l8 k n (q + 1) l i j _ = _
      rw [hlen] at hj
      rw [spec_l12Waits.l8_s, iteB_neg (by omega), next_i g0 g1 (by omega)]) k (by omega)
    rw [spec_l12Waits.l2_s, iteB_pos g1, iteB_pos g0, iteB_pos g1, spec_in, bindO_some, spec_wok, bindO_some, gate_pos (by omega), spec_l12Waits.j7_e]
    show iteB _ (iteB _ (iteB _ (iteB _ _ (spec_l12Waits.l8 k n k l i 0 (l.getD i.toNat dW))) _) _) _ = _
    rw [inner]
    unfold waitB
    show iteB (!(!(decide (0 ≤ (l.getD i.toNat dW).1 ∧ (l.getD i.toNat dW).1 ≤ 5)))) (iteB (!(!(wok (l.getD i.toNat dW).2.2.1))) (iteB (!(decide ((l.getD i.toNat dW).2.1 < 0))) (iteB (decide ((l.getD i.toNat dW).2.2.2.1 < 0)) _ _) _) _) _ = _
    generalize decide (0 ≤ (l.getD i.toNat dW).1 ∧ (l.getD i.toNat dW).1 ≤ 5) = A
    generalize wok (l.getD i.toNat dW).2.2.1 = B
    generalize decide ((l.getD i.toNat dW).2.1 < 0) = C
    generalize decide ((l.getD i.toNat dW).2.2.2.1 < 0) = D
    generalize (l.take i.toNat).all (fun y => !(y.1 == (l.getD i.toNat dW).1)) = E
    cases A <;> cases B <;> cases C <;> cases D <;> cases E <;> rfl
  · show spec_l12Waits.l2 k (n + 1) l i = _
    rw [spec_l12Waits.l2_s, iteB_neg (by omega)]
  · rw [spec_l12Waits_e]; exact h
theorem impl_before (xs : List TW) (hl : xs.length ≤ 1048576) (b c d e : Int) (k : Nat) (hk : xs.length < k) : slices_ContainsFunc_impl_Wait__impl_waitsOk_1 k xs b c d e = some (xs.any (fun y => y.1 == b)) := by
  rw [slices_ContainsFunc_impl_Wait__impl_waitsOk_1_e, slices_IndexFunc_impl_Wait__impl_waitsOk_1_e, index_at xs dW k (p := fun y => y.1 == b) (L := fun n i => slices_IndexFunc_impl_Wait__impl_waitsOk_1.l2 k n xs b c d e (xs.length : Int) i) hk (fun n i h0 h1 => by
    show slices_IndexFunc_impl_Wait__impl_waitsOk_1.l2 k (n + 1) xs b c d e _ i = _
    rw [slices_IndexFunc_impl_Wait__impl_waitsOk_1.l2_s, iteB_pos h1, iteB_pos h0, iteB_pos h1, next_i h0 h1 (by omega), impl_waitsOk_1_vbp_e, bindO_some]) (fun n i h => by
    show slices_IndexFunc_impl_Wait__impl_waitsOk_1.l2 k (n + 1) xs b c d e _ i = _
    rw [slices_IndexFunc_impl_Wait__impl_waitsOk_1.l2_s, iteB_neg (by omega)]), bindO_some, firstOf_any _ _ 0 (by omega)]
theorem all_not {α : Type} (p : α → Bool) (l : List α) : (l.all fun x => !p x) = !l.any p := by
  induction l with
  | nil => rfl
  | cons x r ih => rw [List.any_cons, List.all_cons, ih]; cases p x <;> simp
theorem impl_waits (l : List TW) (hl : l.length ≤ 1048576) : Ev fun k => impl_waitsOk k l = some (waitsV l) := by
  refine (all_idx l dW (F := fun k _ => l.length < k) (p := waitB l) (L := fun k n i => impl_waitsOk.l2 k n l l (l.length : Int) i) (e := fun _ => some (decide ((l.length : Int) ≤ 6))) (fun _ _ => Ev.gt _) (Ev.of fun _ => rfl) (fun k n i hF g0 g1 => ?_) (fun k n i hi => ?_)).mono fun k h => ?_
  · show impl_waitsOk.l2 k (n + 1) l l _ i = _
    have hk := hF _ (getD_mem l dW g0 g1)
    have hlen : (l.take i.toNat).length ≤ l.length := by rw [List.length_take]; omega
    rw [impl_waitsOk.l2_s, iteB_pos g1, iteB_pos g0, iteB_pos g1, impl_in, bindO_some, iteB_pos g0, iteB_pos (show i ≤ (l.length : Int) by omega), List.drop_zero, impl_before (l.take i.toNat) (by omega) _ _ _ _ k (by omega), bindO_some, impl_wok, bindO_some, next_i g0 g1 (by omega)]
    unfold waitB
    show iteB (!(!(decide (0 ≤ (l.getD i.toNat dW).1 ∧ (l.getD i.toNat dW).1 ≤ 5)))) (iteB (!((l.take i.toNat).any (fun y => y.1 == (l.getD i.toNat dW).1))) (iteB (!(!(wok (l.getD i.toNat dW).2.2.1))) (iteB (!(decide ((l.getD i.toNat dW).2.1 < 0))) (iteB (decide ((l.getD i.toNat dW).2.2.2.1 < 0)) _ _) _) _) _) _ = _
    rw [all_not]
    generalize decide (0 ≤ (l.getD i.toNat dW).1 ∧ (l.getD i.toNat dW).1 ≤ 5) = A
    generalize wok (l.getD i.toNat dW).2.2.1 = B
    generalize decide ((l.getD i.toNat dW).2.1 < 0) = C
    generalize decide ((l.getD i.toNat dW).2.2.2.1 < 0) = D
    generalize (l.take i.toNat).any (fun y => y.1 == (l.getD i.toNat dW).1) = E
    cases A <;> cases B <;> cases C <;> cases D <;> cases E <;> rfl
  · show impl_waitsOk.l2 k (n + 1) l l _ i = _
    rw [impl_waitsOk.l2_s, iteB_neg (by omega)]
  · rw [impl_waitsOk_e]; exact h
abbrev TCh : Type := Int × Bool × (List Int) × (List TW) × (List TW) × Unit
structure FitCh (c : TCh) : Prop where
  a : c.2.2.1.length ≤ 1048576
  b : c.2.2.2.1.length ≤ 1048576
  c : c.2.2.2.2.1.length ≤ 1048576
def chanV (c : TCh) : Bool := decide (0 ≤ c.1 ∧ c.1 ≤ 8) && (decide ((c.2.2.1.length : Int) ≤ c.1) && (c.2.2.1.all wok && (waitsV c.2.2.2.1 && waitsV c.2.2.2.2.1)))
theorem spec_chan (c : TCh) (h : FitCh c) : Ev fun k => spec_ChanOk k c = some (chanV c) := by
  refine ((spec_words _ h.a).and ((spec_waits _ h.b).and (spec_waits _ h.c))).mono fun k hk => ?_
  obtain ⟨h1, h2, h3⟩ := hk
  rw [spec_ChanOk_e]
  simp only [spec_in, h1, h2, h3, bindO_some, ite_and]
  rfl
theorem impl_chan (c : TCh) (h : FitCh c) : Ev fun k => impl_ChanOk k c = some (chanV c) := by
  refine ((impl_words _ h.a c.1).and ((impl_waits _ h.b).and (impl_waits _ h.c))).mono fun k hk => ?_
  obtain ⟨h1, h2, h3⟩ := hk
  rw [impl_ChanOk_e]
  simp only [impl_in, h1, h2, h3, bindO_some, ite_and]
  unfold chanV
  cases decide (0 ≤ c.1 ∧ c.1 ≤ 8) <;> cases decide ((c.2.2.1.length : Int) ≤ c.1) <;> rfl
/-! Frames, bodies, worlds. -/

/-! Who waits. -/
def hasW (l : List TW) (w : TW) : Bool := l.any fun x => x.1 == w.1 && x.2.1 == w.2.1
def addV (l : List TW) (w : TW) : List TW := bif hasW l w then l else (l.filter fun x => !(x.1 == w.1)) ++ [w]
theorem add_rounds (l : List TW) (w : TW) (hl : l.length ≤ 1000) (L : Nat → Int → List TW → Option (List TW))
    (hS : ∀ (n : Nat) (i : Int) (acc : List TW), 0 ≤ i → i < (l.length : Int) → acc.length ≤ 1000 → L (n + 1) i acc = bif (l.getD i.toNat dW).1 == w.1 then (bif (l.getD i.toNat dW).2.1 == w.2.1 then some l else L n (i + 1) acc) else L n (i + 1) (acc ++ [l.getD i.toNat dW]))
    (hE : ∀ (n : Nat) (i : Int) (acc : List TW), (l.length : Int) ≤ i → acc.length ≤ 1000 → L (n + 1) i acc = some (acc ++ [w])) (n : Nat) (hn : l.length < n) : L n 0 [] = some (addV l w) := by
  have key : ∀ (m : Nat) (i : Int) (n : Nat) (acc : List TW), 0 ≤ i → (l.length : Int) - i = m → m < n → (acc.length : Int) ≤ i → L n i acc = some (bif hasW (l.drop i.toNat) w then l else acc ++ (((l.drop i.toNat).filter fun x => !(x.1 == w.1)) ++ [w])) := by
    intro m
    induction m with
    | zero =>
      intro i n acc h0 h1 h2 h3
      obtain ⟨n, rfl⟩ : ∃ p, n = p + 1 := ⟨n - 1, by omega⟩
      rw [hE n i acc (by omega) (by omega), List.drop_eq_nil_of_le (by omega)]
      rfl
    | succ m ih =>
      intro i n acc h0 h1 h2 h3
      obtain ⟨n, rfl⟩ : ∃ p, n = p + 1 := ⟨n - 1, by omega⟩
      have hd := drop_at l dW i h0 (by omega)
      rw [hS n i acc h0 (by omega) (by omega), hd]
      cases e1 : (l.getD i.toNat dW).1 == w.1 with
      | true =>
        rw [cond_true]
        cases e2 : (l.getD i.toNat dW).2.1 == w.2.1 with
        | true => rw [cond_true, hasW, List.any_cons, e1, e2]; rfl
        | false =>
          rw [cond_false, ih (i + 1) n acc (by omega) (by omega) (by omega) (by omega)]
          simp only [hasW, List.any_cons, e1, e2, Bool.and_false, Bool.false_or, List.filter_cons, Bool.not_true, Bool.false_eq_true, if_false]
      | false =>
        rw [cond_false, ih (i + 1) n _ (by omega) (by omega) (by omega) (by rw [List.length_append]; simp only [List.length_cons, List.length_nil]; omega)]
        simp only [hasW, List.any_cons, e1, Bool.false_and, Bool.false_or, List.filter_cons, Bool.not_false, if_true, List.append_assoc, List.cons_append, List.nil_append]
  have := key l.length 0 n [] (Int.le_refl _) (by omega) hn (Int.le_refl _)
  rw [this]; rfl
theorem lim32 {l : List TW} (h : l.length ≤ 2000) : decide ((List.length l) * 32 ≤ lim) = true := decide_eq_true (by simp [lim]; omega)
theorem spec_add_l3 (k : Nat) (l : List TW) (w : TW) : ∀ (n : Nat) (i : Int), spec_AddWait.l3 k n l i w = spec_AddWait.l3b k n l i w [] := by
  intro n
  induction n with
  | zero => intro i; rw [spec_AddWait.l3_0, spec_AddWait.l3b_0]
  | succ n ih => intro i; rw [spec_AddWait.l3_s, spec_AddWait.l3b_s, spec_AddWait.j7_e, spec_AddWait.j7b_e]; simp only [ih]
theorem impl_add_l3 (k : Nat) (l x9 : List TW) (x10 : Int) (w : TW) : ∀ (n : Nat) (i : Int), impl_AddWait.l3 k n l x9 x10 i w = impl_AddWait.l3b k n l x9 x10 i w [] := by
  intro n
  induction n with
  | zero => intro i; rw [impl_AddWait.l3_0, impl_AddWait.l3b_0]
  | succ n ih => intro i; rw [impl_AddWait.l3_s, impl_AddWait.l3b_s]; simp only [impl_AddWait.j7_e, impl_AddWait.j7b_e, ih]
theorem spec_add (l : List TW) (w : TW) (hl : l.length ≤ 1000) (k : Nat) (hk : l.length < k) : spec_AddWait k l w = some (addV l w) := by
  rw [spec_AddWait_e, spec_add_l3]
  refine add_rounds l w hl (fun n i acc => spec_AddWait.l3b k n l i w acc) (fun n i acc h0 h1 h2 => ?_) (fun n i acc h1 h2 => ?_) k hk
  · show spec_AddWait.l3b k (n + 1) l i w acc = _
    rw [spec_AddWait.l3b_s, spec_AddWait.j7b_e, decide_eq_true h1, iteB_true, decide_eq_true h0, iteB_true, iteB_true, iteB_true, iteB_true, gate_pos (by omega), next_i h0 h1 (by omega)]
    generalize l.getD i.toNat dW = x
    rw [List.nil_append, lim32 (by omega), iteB_true, lim32 (l := acc ++ [x]) (by rw [List.length_append]; show acc.length + 1 ≤ 2000; omega), iteB_true]
    simp only [iteB_true]
    cases e1 : x.1 == w.1
    · simp only [bne, e1, iteB_false, Bool.not_false, iteB_true, cond_false]
    · cases e2 : x.2.1 == w.2.1 <;> simp only [bne, e1, iteB_true, Bool.not_true, iteB_false, cond_true, cond_false]
  · show spec_AddWait.l3b k (n + 1) l i w acc = _
    rw [spec_AddWait.l3b_s, decide_eq_false (by omega), iteB_false, lim32 (by rw [List.length_append]; show acc.length + 1 ≤ 2000; omega), iteB_true]
theorem impl_add (l : List TW) (w : TW) (hl : l.length ≤ 1000) (k : Nat) (hk : l.length < k) : impl_AddWait k l w = some (addV l w) := by
  rw [impl_AddWait_e, impl_add_l3]
  refine add_rounds l w hl (fun n i acc => impl_AddWait.l3b k n l l (l.length : Int) i w acc) (fun n i acc h0 h1 h2 => ?_) (fun n i acc h1 h2 => ?_) k hk
  · show impl_AddWait.l3b k (n + 1) l l (l.length : Int) i w acc = _
    rw [impl_AddWait.l3b_s, impl_AddWait.j7b_e, decide_eq_true h1, iteB_true, decide_eq_true h0, iteB_true, iteB_true, gate_pos (by omega), next_i h0 h1 (by omega), slices_Clone_impl_Wait_e, lim32 (by omega), iteB_true, bindO_some]
    generalize l.getD i.toNat dW = x
    rw [lim32 (l := acc ++ [x]) (by rw [List.length_append]; show acc.length + 1 ≤ 2000; omega), iteB_true]
    cases e1 : x.1 == w.1
    · simp only [bne, e1, iteB_false, Bool.not_false, iteB_true, cond_false]
    · cases e2 : x.2.1 == w.2.1 <;> simp only [bne, e1, iteB_true, Bool.not_true, iteB_false, cond_true, cond_false]
  · show impl_AddWait.l3b k (n + 1) l l (l.length : Int) i w acc = _
    rw [impl_AddWait.l3b_s, decide_eq_false (by omega), iteB_false, lim32 (by rw [List.length_append]; show acc.length + 1 ≤ 2000; omega), iteB_true]
/-! Each body once. -/
def Dist (l : List TW) : Prop := l.Pairwise fun x y => x.1 ≠ y.1
theorem addV_len (l : List TW) (w : TW) : (addV l w).length ≤ l.length + 1 := by
  unfold addV
  cases hasW l w
  · rw [cond_false, List.length_append]
    have := List.length_filter_le (fun x : TW => !(x.1 == w.1)) l
    simp only [List.length_cons, List.length_nil]; omega
  · rw [cond_true]; omega
theorem addV_dist {l : List TW} (h : Dist l) (w : TW) : Dist (addV l w) := by
  unfold addV
  cases hasW l w
  · rw [cond_false]
    refine List.pairwise_append.2 ⟨h.filter _, by simp, fun x hx y hy => ?_⟩
    rw [List.mem_singleton.1 hy]
    have := (List.mem_filter.1 hx).2
    simpa using this
  · rw [cond_true]; exact h
theorem dist_count {l : List TW} (b : Int) : Dist l → (l.any fun x => x.1 == b) = true → l.countP (fun x => x.1 == b) = 1 := by
  induction l with
  | nil => intro _ h; cases h
  | cons x r ih =>
    intro hd h
    obtain ⟨h1, h2⟩ := List.pairwise_cons.1 hd
    rw [List.countP_cons]
    cases e : x.1 == b with
    | true =>
      have hb := eq_of_beq e
      have : r.countP (fun x => x.1 == b) = 0 := List.countP_eq_zero.2 fun y hy => by
        have := h1 y hy
        rw [hb] at this
        simpa using fun e => this e.symm
      rw [this]; simp
    | false =>
      rw [List.any_cons, e, Bool.false_or] at h
      rw [ih h2 h]; simp
theorem addV_has (l : List TW) (w : TW) : hasW (addV l w) w = true := by
  unfold addV
  cases h : hasW l w
  · rw [cond_false, hasW, List.any_append]; simp
  · rw [cond_true]; exact h
theorem addV_again (l : List TW) (w : TW) : addV (addV l w) w = addV l w := by
  have := addV_has l w
  generalize addV l w = o at this
  unfold addV; rw [this]; rfl
theorem addV_once {l : List TW} (h : Dist l) (w : TW) : (addV l w).countP (fun x => x.1 == w.1) = 1 := by
  refine dist_count w.1 (addV_dist h w) ?_
  have := addV_has l w
  obtain ⟨x, hx, h1⟩ := List.any_eq_true.1 this
  simp only [Bool.and_eq_true] at h1
  exact List.any_eq_true.2 ⟨x, hx, h1.1⟩
/-! The same twice. -/
theorem same_waits (l : List TW) (hl : l.length ≤ 1000) (k : Nat) (hk : l.length < k) : laws_sameWaits k l l = some true := by
  have key : ∀ (m : Nat) (i : Int) (n : Nat), 0 ≤ i → (l.length : Int) - i = m → m < n → laws_sameWaits.l4 k n l l i = some true := by
    intro m
    induction m with
    | zero =>
      intro i n h0 h1 h2
      obtain ⟨n, rfl⟩ : ∃ p, n = p + 1 := ⟨n - 1, by omega⟩
      rw [laws_sameWaits.l4_s, decide_eq_false (by omega), iteB_false]
    | succ m ih =>
      intro i n h0 h1 h2
      obtain ⟨n, rfl⟩ : ∃ p, n = p + 1 := ⟨n - 1, by omega⟩
      have hlt : i < (l.length : Int) := by omega
      rw [laws_sameWaits.l4_s, decide_eq_true hlt, decide_eq_true h0, iteB_true, iteB_true, iteB_true, iteB_true, iteB_true, next_i h0 hlt (by omega), ih (i + 1) n (by omega) (by omega) (by omega)]
      simp only [beq_self_eq_true, Bool.and_self, Bool.not_true, iteB_false]
  have n2 : (((l.length : Int)) != (l.length : Int)) = false := by simp
  rw [laws_sameWaits_e, n2, iteB_false]
  exact key l.length 0 k (Int.le_refl _) (by omega) hk
/-! Who is live. -/
def liveV (t : List Int) (w : TW) : Bool := decide (0 ≤ w.1 ∧ w.1 ≤ (t.length : Int) - 1) && (t.getD w.1.toNat 0 == w.2.1)
theorem spec_live1 (k : Nat) (w : TW) (t : List Int) (ht : t.length ≤ 1000) : spec_l12Live k w t = some (liveV t w) := by
  rw [spec_l12Live_e, wrap_id (by omega) (by omega), spec_in, bindO_some]
  unfold liveV
  by_cases h : 0 ≤ w.1 ∧ w.1 ≤ (t.length : Int) - 1
  · rw [decide_eq_true h, iteB_true, decide_eq_true h.1, iteB_true, decide_eq_true (show w.1 < (t.length : Int) by omega), iteB_true, Bool.true_and]
  · rw [decide_eq_false h, iteB_false, Bool.false_and]
theorem impl_live1 (k : Nat) (w : TW) (t : List Int) (ht : t.length ≤ 1000) : impl_isLive k w t = some (liveV t w) := by
  rw [impl_isLive_e, wrap_id (by omega) (by omega), impl_in, bindO_some]
  unfold liveV
  by_cases h : 0 ≤ w.1 ∧ w.1 ≤ (t.length : Int) - 1
  · rw [decide_eq_true h, iteB_true, decide_eq_true h.1, iteB_true, decide_eq_true (show w.1 < (t.length : Int) by omega), iteB_true, Bool.true_and]
  · rw [decide_eq_false h, iteB_false, Bool.false_and]
theorem spec_first (l : List TW) (t : List Int) (hl : l.length ≤ 1000) (ht : t.length ≤ 1000) : Ev fun k => spec_FirstWait k l t = some (firstOf (liveV t) l 0) := by
  refine (index_rounds l dW (f := fun k x => spec_l12Live k x t) (p := liveV t) (L := fun k n i => spec_FirstWait.l2 k n l t i) (fun x _ => Ev.of fun k => spec_live1 k x t ht) (fun k n i h0 h1 => ?_) (fun k n i h => ?_)).mono fun k h => ?_
  · show spec_FirstWait.l2 k (n + 1) l t i = _
    rw [spec_FirstWait.l2_s, iteB_pos h1, iteB_pos h0, iteB_pos h1, next_i h0 h1 (by omega)]
  · show spec_FirstWait.l2 k (n + 1) l t i = _
    rw [spec_FirstWait.l2_s, iteB_neg (by omega)]
  · rw [spec_FirstWait_e]; exact h
theorem impl_first (l : List TW) (t : List Int) (hl : l.length ≤ 1000) (ht : t.length ≤ 1000) : Ev fun k => impl_FirstWait k l t = some (firstOf (liveV t) l 0) := by
  refine (index_rounds l dW (f := fun k x => impl_FirstWait_1_vbp k x t) (p := liveV t) (L := fun k n i => slices_IndexFunc_impl_Wait__impl_FirstWait_1.l2 k n l t (l.length : Int) i) (fun x _ => Ev.of fun k => by rw [impl_FirstWait_1_vbp_e, impl_live1 k x t ht, bindO_some]) (fun k n i h0 h1 => ?_) (fun k n i h => ?_)).mono fun k h => ?_
  · show slices_IndexFunc_impl_Wait__impl_FirstWait_1.l2 k (n + 1) l t (l.length : Int) i = _
    rw [slices_IndexFunc_impl_Wait__impl_FirstWait_1.l2_s, iteB_pos h1, iteB_pos h0, iteB_pos h1, next_i h0 h1 (by omega)]
  · show slices_IndexFunc_impl_Wait__impl_FirstWait_1.l2 k (n + 1) l t (l.length : Int) i = _
    rw [slices_IndexFunc_impl_Wait__impl_FirstWait_1.l2_s, iteB_neg (by omega)]
  · have h' : slices_IndexFunc_impl_Wait__impl_FirstWait_1.l2 k k l t (l.length : Int) 0 = some (firstOf (liveV t) l 0) := h
    rw [impl_FirstWait_e, slices_IndexFunc_impl_Wait__impl_FirstWait_1_e, h', bindO_some]
theorem filter_rounds {p : TW → Bool} (l : List TW) (hl : l.length ≤ 1000) (L : Nat → Int → List TW → Option (List TW))
    (hS : ∀ (n : Nat) (i : Int) (acc : List TW), 0 ≤ i → i < (l.length : Int) → acc.length ≤ 1000 → L (n + 1) i acc = bif p (l.getD i.toNat dW) then L n (i + 1) (acc ++ [l.getD i.toNat dW]) else L n (i + 1) acc)
    (hE : ∀ (n : Nat) (i : Int) (acc : List TW), (l.length : Int) ≤ i → L (n + 1) i acc = some acc) (n : Nat) (hn : l.length < n) : L n 0 [] = some (l.filter p) := by
  have key : ∀ (m : Nat) (i : Int) (n : Nat) (acc : List TW), 0 ≤ i → (l.length : Int) - i = m → m < n → (acc.length : Int) ≤ i → L n i acc = some (acc ++ (l.drop i.toNat).filter p) := by
    intro m
    induction m with
    | zero =>
      intro i n acc h0 h1 h2 h3
      obtain ⟨n, rfl⟩ : ∃ p, n = p + 1 := ⟨n - 1, by omega⟩
      rw [hE n i acc (by omega), List.drop_eq_nil_of_le (by omega)]; simp
    | succ m ih =>
      intro i n acc h0 h1 h2 h3
      obtain ⟨n, rfl⟩ : ∃ p, n = p + 1 := ⟨n - 1, by omega⟩
      have hd := drop_at l dW i h0 (by omega)
      rw [hS n i acc h0 (by omega) (by omega), hd, List.filter_cons]
      cases p (l.getD i.toNat dW) with
      | true => rw [cond_true, ih (i + 1) n _ (by omega) (by omega) (by omega) (by rw [List.length_append]; simp only [List.length_cons, List.length_nil]; omega)]; simp
      | false => rw [cond_false, ih (i + 1) n _ (by omega) (by omega) (by omega) (by omega)]; simp
  have := key l.length 0 n [] (Int.le_refl _) (by omega) hn (Int.le_refl _)
  rw [this]; rfl
theorem spec_live_l3 (k : Nat) (l : List TW) (t : List Int) : ∀ (n : Nat) (i : Int), spec_Live.l3 k n l t i = spec_Live.l3b k n l t i [] := by
  intro n
  induction n with
  | zero => intro i; rw [spec_Live.l3_0, spec_Live.l3b_0]
  | succ n ih => intro i; rw [spec_Live.l3_s, spec_Live.l3b_s]; simp only [ih]
theorem impl_live_l3 (k : Nat) (t : List Int) (x9 : List TW) (x10 : Int) : ∀ (n : Nat) (i : Int), impl_Live.l3 k n t x9 x10 i = impl_Live.l3b k n t x9 x10 i [] := by
  intro n
  induction n with
  | zero => intro i; rw [impl_Live.l3_0, impl_Live.l3b_0]
  | succ n ih => intro i; rw [impl_Live.l3_s, impl_Live.l3b_s]; simp only [ih]
theorem spec_live (l : List TW) (t : List Int) (hl : l.length ≤ 1000) (ht : t.length ≤ 1000) (k : Nat) (hk : l.length < k) : spec_Live k l t = some (l.filter (liveV t)) := by
  rw [spec_Live_e, spec_live_l3]
  refine filter_rounds l hl (fun n i acc => spec_Live.l3b k n l t i acc) (fun n i acc h0 h1 h2 => ?_) (fun n i acc h1 => ?_) k hk
  · show spec_Live.l3b k (n + 1) l t i acc = _
    rw [spec_Live.l3b_s, decide_eq_true h1, iteB_true, decide_eq_true h0, iteB_true, iteB_true, spec_live1 k _ t ht, bindO_some, next_i h0 h1 (by omega)]
    generalize l.getD i.toNat dW = x
    rw [lim32 (l := acc ++ [x]) (by rw [List.length_append]; show acc.length + 1 ≤ 2000; omega), iteB_true, iteB_true, iteB_true]
    cases liveV t x <;> rfl
  · show spec_Live.l3b k (n + 1) l t i acc = _
    rw [spec_Live.l3b_s, decide_eq_false (by omega), iteB_false]
theorem impl_live (l : List TW) (t : List Int) (hl : l.length ≤ 1000) (ht : t.length ≤ 1000) (k : Nat) (hk : l.length < k) : impl_Live k l t = some (l.filter (liveV t)) := by
  rw [impl_Live_e, impl_live_l3]
  refine filter_rounds l hl (fun n i acc => impl_Live.l3b k n t l (l.length : Int) i acc) (fun n i acc h0 h1 h2 => ?_) (fun n i acc h1 => ?_) k hk
  · show impl_Live.l3b k (n + 1) t l (l.length : Int) i acc = _
    rw [impl_Live.l3b_s, decide_eq_true h1, iteB_true, decide_eq_true h0, iteB_true, iteB_true, impl_live1 k _ t ht, bindO_some, next_i h0 h1 (by omega)]
    generalize l.getD i.toNat dW = x
    rw [lim32 (l := acc ++ [x]) (by rw [List.length_append]; show acc.length + 1 ≤ 2000; omega), iteB_true]
    cases liveV t x <;> rfl
  · show impl_Live.l3b k (n + 1) t l (l.length : Int) i acc = _
    rw [impl_Live.l3b_s, decide_eq_false (by omega), iteB_false]
theorem first_head (p : TW → Bool) : ∀ (l : List TW) (i : Int), 0 ≤ i → (firstOf p l i < 0 ∧ l.filter p = []) ∨ (i ≤ firstOf p l i ∧ firstOf p l i < i + (l.length : Int) ∧ ∃ r, l.filter p = l.getD (firstOf p l i - i).toNat dW :: r) := by
  intro l
  induction l with
  | nil => intro i _; exact .inl ⟨by show (-1 : Int) < 0; decide, rfl⟩
  | cons x r ih =>
    intro i h0
    cases hp : p x with
    | true =>
      refine .inr ?_
      have : firstOf p (x :: r) i = i := by simp [firstOf, hp]
      rw [this, List.filter_cons, hp]
      refine ⟨Int.le_refl _, by rw [List.length_cons]; omega, r.filter p, ?_⟩
      rw [show (i - i).toNat = 0 by omega]; simp
    | false =>
      have : firstOf p (x :: r) i = firstOf p r (i + 1) := by simp [firstOf, hp]
      rw [this, List.filter_cons, hp]
      rcases ih (i + 1) (by omega) with ⟨h1, h2⟩ | ⟨h1, h2, q, h3⟩
      · exact .inl ⟨h1, by simpa using h2⟩
      · refine .inr ⟨by omega, by rw [List.length_cons]; omega, q, ?_⟩
        rw [show (firstOf p r (i + 1) - i).toNat = (firstOf p r (i + 1) - (i + 1)).toNat + 1 by omega]
        simpa using h3

/-! Draws: each comes to something, whatever the bytes. -/
def TotP {α : Type} (f : Nat → Option α) (P : α → Prop) : Prop := ∃ x, P x ∧ Ev fun k => f k = some x
theorem TotP.bind {α β : Type} {f : Nat → Option α} {g : Nat → α → Option β} {P : α → Prop} {Q : β → Prop} (h : TotP f P) (hg : ∀ x, P x → TotP (fun k => g k x) Q) : TotP (fun k => bindO (f k) (g k)) Q := by
  obtain ⟨x, px, ev⟩ := h
  obtain ⟨y, qy, ev2⟩ := hg x px
  exact ⟨y, qy, ev.two ev2 fun k a b => by show bindO (f k) (g k) = some y; rw [a, bindO_some]; exact b⟩
theorem TotP.val {α : Type} {P : α → Prop} (x : α) (h : P x) : TotP (fun _ => some x) P := ⟨x, h, Ev.of fun _ => rfl⟩
theorem TotP.ite {α : Type} {f g : Nat → Option α} {P : α → Prop} (b : Bool) (h1 : b = true → TotP f P) (h2 : b = false → TotP g P) : TotP (fun k => iteB b (f k) (g k)) P := by
  cases b with
  | true => obtain ⟨x, p, e⟩ := h1 rfl; exact ⟨x, p, e.mono fun k h => by show iteB true (f k) (g k) = some x; rw [iteB_true]; exact h⟩
  | false => obtain ⟨x, p, e⟩ := h2 rfl; exact ⟨x, p, e.mono fun k h => by show iteB false (f k) (g k) = some x; rw [iteB_false]; exact h⟩
theorem TotP.gate {α : Type} {f : Nat → Option α} {P : α → Prop} (h : TotP f P) : TotP (fun k => gate k (f k)) P := by
  obtain ⟨x, p, e⟩ := h
  exact ⟨x, p, e.two (Ev.gt 0) fun k a b => by show AM.gate k (f k) = some x; rw [gate_pos b]; exact a⟩
theorem TotP.of_eq {α : Type} {f g : Nat → Option α} {P : α → Prop} (e : ∀ k, g k = f k) (h : TotP f P) : TotP g P := by
  obtain ⟨x, p, ev⟩ := h
  exact ⟨x, p, ev.mono fun k a => by rw [e]; exact a⟩
theorem TotP.imp {α : Type} {f : Nat → Option α} {P Q : α → Prop} (h : TotP f P) (i : ∀ x, P x → Q x) : TotP f Q := by
  obtain ⟨x, p, ev⟩ := h
  exact ⟨x, i x p, ev⟩
theorem and255 (x : Int) : 0 ≤ IntKind.wrap .i64 ((BitVec.ofInt (IntKind.bits .i64) x &&& BitVec.ofInt (IntKind.bits .i64) 255).toNat : Int) ∧ IntKind.wrap .i64 ((BitVec.ofInt (IntKind.bits .i64) x &&& BitVec.ofInt (IntKind.bits .i64) 255).toNat : Int) ≤ 255 := by
  have h : (BitVec.ofInt (IntKind.bits .i64) x &&& BitVec.ofInt (IntKind.bits .i64) 255).toNat ≤ 255 := by
    rw [BitVec.toNat_and]
    exact Nat.le_trans Nat.and_le_right (by decide)
  rw [wrap_id (by omega) (by omega)]
  omega
abbrev TC : Type := (List Int) × Int × Int × Unit
/-- A cursor over such bytes. -/
def CurOk (code : List Int) (c : TC) : Prop := c.1 = code ∧ 0 ≤ c.2.1 ∧ c.2.1 ≤ (code.length : Int)
section
variable {code : List Int} (hc : code.length ≤ 1048576)
include hc
theorem byte_ok (c : TC) (h : CurOk code c) : TotP (fun k => spec_l1Byte k c) fun r => (0 ≤ r.1 ∧ r.1 ≤ 255) ∧ CurOk code r.2 := by
  obtain ⟨e, h0, h1⟩ := h
  refine TotP.of_eq (fun k => spec_l1Byte_e k c) ?_
  refine TotP.ite _ (fun a => ?_) fun a => ?_
  · have a := of_decide_eq_true a
    rw [e] at a
    refine TotP.ite _ (fun _ => ?_) fun b => absurd (of_decide_eq_false b) (by omega)
    refine TotP.ite _ (fun _ => ?_) fun b => absurd (of_decide_eq_false b) (by rw [e]; omega)
    refine TotP.val _ ⟨and255 _, e, ?_⟩
    show 0 ≤ IntKind.wrap .i64 (c.2.1 + 1) ∧ IntKind.wrap .i64 (c.2.1 + 1) ≤ (code.length : Int)
    rw [wrap_id (by omega) (by omega)]
    omega
  · exact TotP.val _ ⟨and255 _, e, h0, h1⟩
theorem below_ok (c : TC) (h : CurOk code c) (n : Int) (h0 : 0 < n) (h1 : n ≤ 256) : TotP (fun k => spec_l1Below k c n) fun r => (0 ≤ r.1 ∧ r.1 < n) ∧ CurOk code r.2 := by
  refine TotP.of_eq (fun k => spec_l1Below_e k c n) ?_
  refine TotP.ite _ (fun a => absurd (of_decide_eq_true a) (by omega)) fun _ => ?_
  refine TotP.ite _ (fun _ => ?_) fun a => absurd (of_decide_eq_false a) (by omega)
  refine TotP.bind (byte_ok hc c h) fun r hr => ?_
  refine TotP.ite _ (fun a => absurd (eq_of_beq a) (by omega)) fun _ => ?_
  exact TotP.val _ ⟨⟨Int.tmod_nonneg _ hr.1.1, Int.tmod_lt_of_pos _ h0⟩, hr.2⟩
theorem below_big (c : TC) (h : CurOk code c) (n : Int) (h0 : 0 < n) (h1 : n ≤ 1000000) : TotP (fun k => spec_l1Below k c n) fun r => (0 ≤ r.1 ∧ r.1 < n) ∧ CurOk code r.2 := by
  by_cases hn : n ≤ 256
  · exact below_ok hc c h n h0 hn
  refine TotP.of_eq (fun k => spec_l1Below_e k c n) ?_
  refine TotP.ite _ (fun a => absurd (of_decide_eq_true a) (by omega)) fun _ => ?_
  refine TotP.ite _ (fun a => absurd (of_decide_eq_true a) (by omega)) fun _ => ?_
  refine TotP.bind (byte_ok hc c h) fun r hr => ?_
  refine TotP.bind (byte_ok hc _ hr.2) fun s hs => ?_
  refine TotP.bind (byte_ok hc _ hs.2) fun t ht => ?_
  refine TotP.bind (byte_ok hc _ ht.2) fun u hu => ?_
  refine TotP.ite _ (fun a => absurd (eq_of_beq a) (by omega)) fun _ => ?_
  obtain ⟨⟨r0, r1⟩, _⟩ := hr
  obtain ⟨⟨s0, s1⟩, _⟩ := hs
  obtain ⟨⟨t0, t1⟩, _⟩ := ht
  obtain ⟨⟨u0, u1⟩, hu⟩ := hu
  refine TotP.val _ ⟨?_, hu⟩
  rw [wrap_id (x := r.1 * 16777216) (by omega) (by omega), wrap_id (x := s.1 * 65536) (by omega) (by omega), wrap_id (x := t.1 * 256) (by omega) (by omega), wrap_id (x := r.1 * 16777216 + s.1 * 65536) (by omega) (by omega), wrap_id (x := r.1 * 16777216 + s.1 * 65536 + t.1 * 256) (by omega) (by omega), wrap_id (x := r.1 * 16777216 + s.1 * 65536 + t.1 * 256 + u.1) (by omega) (by omega)]
  exact ⟨Int.tmod_nonneg _ (by omega), Int.tmod_lt_of_pos _ h0⟩
theorem new_ok : TotP (fun k => spec_l1New k code) (CurOk code) := by
  have run : ∀ (m : Nat) (x3 x4 : Int), 0 ≤ x4 → x4 + (m : Int) = (code.length : Int) → ∃ h : Int, ∀ k n : Nat, 0 < k → m < n → spec_l1New.l3 k n code x3 x4 = some (code, 0, h, ()) := by
    intro m
    induction m with
    | zero =>
      intro x3 x4 h0 h1
      refine ⟨x3, fun k n hk hn => ?_⟩
      obtain ⟨n, rfl⟩ : ∃ m, n = m + 1 := ⟨n - 1, by omega⟩
      rw [spec_l1New.l3_s, decide_eq_false (by omega), iteB_false]
    | succ m ih =>
      intro x3 x4 h0 h1
      by_cases h4 : x4 < 4000
      · have hw : IntKind.wrap .i64 (x4 + 1) = x4 + 1 := wrap_id (by omega) (by omega)
        obtain ⟨h, e⟩ := ih (IntKind.wrap .i64 ((BitVec.ofInt (IntKind.bits .i64) (IntKind.wrap .i64 ((IntKind.wrap .i64 ((IntKind.wrap .i64 (x3 * 131)) + (IntKind.wrap .i64 (List.getD code (Int.toNat x4) 0)))) + 7)) &&& BitVec.ofInt (IntKind.bits .i64) 1073741823).toNat : Int)) (x4 + 1) (by omega) (by omega)
        refine ⟨h, fun k n hk hn => ?_⟩
        obtain ⟨n, rfl⟩ : ∃ m, n = m + 1 := ⟨n - 1, by omega⟩
        rw [spec_l1New.l3_s, decide_eq_true (by omega), iteB_true, decide_eq_true h4, iteB_true, gate_pos hk, spec_l1New.j5_e, decide_eq_true h0, iteB_true, decide_eq_true (by omega), iteB_true, hw]
        exact e k n hk (by omega)
      · refine ⟨x3, fun k n hk hn => ?_⟩
        obtain ⟨n, rfl⟩ : ∃ m, n = m + 1 := ⟨n - 1, by omega⟩
        rw [spec_l1New.l3_s, decide_eq_true (by omega), iteB_true, decide_eq_false h4, iteB_false]
  obtain ⟨h, e⟩ := run code.length (IntKind.wrap .i64 (20589 + ((List.length code) : Int))) 0 (by omega) (by omega)
  refine ⟨(code, 0, h, ()), ⟨rfl, by simp, by simp⟩, (Ev.gt code.length).mono fun k hk => ?_⟩
  show spec_l1New k code = _
  rw [spec_l1New_e]
  exact e k k (by omega) hk
end

/-! Drawn waits and channels. -/
theorem list_l3 (k n : Nat) (i : Int) (c : TC) : spec_l12DrawList.l3 k n i c = spec_l12DrawList.l3b k n i c [] := by
  cases n with
  | zero => rw [spec_l12DrawList.l3_0, spec_l12DrawList.l3b_0]
  | succ n => rw [spec_l12DrawList.l3_s, spec_l12DrawList.l3b_s]
theorem tick_l3 (k n : Nat) (i : Int) (c : TC) : spec_l12DrawTickets.l3 k n i c = spec_l12DrawTickets.l3b k n i c [] := by
  cases n with
  | zero => rw [spec_l12DrawTickets.l3_0, spec_l12DrawTickets.l3b_0]
  | succ n => rw [spec_l12DrawTickets.l3_s, spec_l12DrawTickets.l3b_s]
theorem lim8 {l : List Int} (h : l.length ≤ 2000) : decide ((List.length l) * 8 ≤ lim) = true := decide_eq_true (by simp [lim]; omega)
theorem chan_l4 (k n : Nat) (i a : Int) (b : Bool) (c : TC) (p : Int) (q : Bool) (u v : List TW) : spec_DrawChanOk.l4 k n i a b c p q u v = spec_DrawChanOk.l4b k n i a b c p q [] u v := by
  cases n with
  | zero => rw [spec_DrawChanOk.l4_0, spec_DrawChanOk.l4b_0]
  | succ n => rw [spec_DrawChanOk.l4_s, spec_DrawChanOk.l4b_s]
section
variable {code : List Int} (hc : code.length ≤ 1048576)
include hc
theorem onceW_ok (c : TC) (h : CurOk code c) (n : Int) (h0 : 0 < n) (h1 : n ≤ 256) : TotP (fun k => spec_l1Once k c n) fun r => CurOk code r.2 :=
  TotP.of_eq (fun k => spec_l1Once_e k c n) (TotP.bind (below_ok hc c h n h0 h1) fun r hr => TotP.val _ hr.2)
theorem pickW_ok (c : TC) (h : CurOk code c) (l : List Int) (h0 : 0 < l.length) (h1 : l.length ≤ 256) : TotP (fun k => spec_l1PickInt k c l) fun r => CurOk code r.2.1 := by
  refine TotP.of_eq (fun k => spec_l1PickInt_e k c l) ?_
  refine TotP.bind (below_ok hc c h (l.length : Int) (by omega) (by omega)) fun r hr => ?_
  refine TotP.ite _ (fun _ => ?_) fun a => absurd (of_decide_eq_false a) (by omega)
  refine TotP.ite _ (fun _ => ?_) fun a => absurd (of_decide_eq_false a) (by omega)
  exact TotP.val _ hr.2
theorem word_ok (c : TC) (h : CurOk code c) : TotP (fun k => spec_l1DrawWord k c) fun r => CurOk code r.2 :=
  TotP.of_eq (fun k => spec_l1DrawWord_e k c) (TotP.bind (pickW_ok hc c h _ (by simp) (by simp)) fun r hr => TotP.val _ hr)
theorem any_ok (c : TC) (h : CurOk code c) : TotP (fun k => spec_l1DrawAny k c) fun r => CurOk code r.2 :=
  TotP.of_eq (fun k => spec_l1DrawAny_e k c) (TotP.bind (pickW_ok hc c h _ (by simp) (by simp)) fun r hr => TotP.val _ hr)
theorem wait_ok (c : TC) (h : CurOk code c) : TotP (fun k => spec_l12DrawWait k c) fun r => CurOk code r.2 := by
  refine TotP.of_eq (fun k => spec_l12DrawWait_e k c) ?_
  refine TotP.bind (below_ok hc c h 4 (by omega) (by omega)) fun r1 h1 => ?_
  refine TotP.bind (below_ok hc _ h1.2 3 (by omega) (by omega)) fun r2 h2 => ?_
  refine TotP.bind (word_ok hc _ h2.2) fun r3 h3 => ?_
  exact TotP.bind (below_ok hc _ h3 3 (by omega) (by omega)) fun r4 h4 => TotP.val _ h4.2
theorem list_rounds : ∀ (m : Nat) (i : Int) (c : TC) (acc : List TW), 0 ≤ i → i + (m : Int) = 5 → CurOk code c → Dist acc → (acc.length : Int) ≤ i → ∃ x : List TW × TC, (Dist x.1 ∧ x.1.length ≤ 5 ∧ CurOk code x.2) ∧ Ev fun k => ∀ n, m < n → spec_l12DrawList.l3b k n i c acc = some x := by
  intro m
  induction m with
  | zero =>
    intro i c acc h0 h1 h2 h3 h4
    obtain ⟨r, hr, ev⟩ := below_ok hc c h2 5 (by omega) (by omega)
    replace ev : Ev fun k => spec_l1Below k c 5 = some r := ev
    refine ⟨(acc, r.2), ⟨h3, by show acc.length ≤ 5; omega, hr.2⟩, ev.mono fun k hk n hn => ?_⟩
    obtain ⟨n, rfl⟩ : ∃ p, n = p + 1 := ⟨n - 1, by omega⟩
    rw [spec_l12DrawList.l3b_s, hk, bindO_some, decide_eq_false (by omega), iteB_false]
  | succ m ih =>
    intro i c acc h0 h1 h2 h3 h4
    obtain ⟨r, hr, ev⟩ := below_ok hc c h2 5 (by omega) (by omega)
    replace ev : Ev fun k => spec_l1Below k c 5 = some r := ev
    by_cases hlt : i < r.1
    · obtain ⟨w, hw, ev2⟩ := wait_ok hc r.2 hr.2
      replace ev2 : Ev fun k => spec_l12DrawWait k r.2 = some w := ev2
      have hlen := addV_len acc w.1
      obtain ⟨x, hx, ev3⟩ := ih (i + 1) w.2 (addV acc w.1) (by omega) (by omega) hw (addV_dist h3 w.1) (by omega)
      refine ⟨x, hx, ((ev.and ev2).and (Ev.gt 10)).two ev3 fun k hk hk3 n hn => ?_⟩
      obtain ⟨⟨k1, k2⟩, k3⟩ := hk
      obtain ⟨n, rfl⟩ : ∃ p, n = p + 1 := ⟨n - 1, by omega⟩
      rw [spec_l12DrawList.l3b_s, k1, bindO_some, decide_eq_true hlt, iteB_true, k2, bindO_some, spec_add acc w.1 (by omega) k (by omega), bindO_some, wrap_id (by omega) (by omega)]
      exact hk3 n (by omega)
    · refine ⟨(acc, r.2), ⟨h3, by show acc.length ≤ 5; omega, hr.2⟩, ev.mono fun k hk n hn => ?_⟩
      obtain ⟨n, rfl⟩ : ∃ p, n = p + 1 := ⟨n - 1, by omega⟩
      rw [spec_l12DrawList.l3b_s, hk, bindO_some, decide_eq_false hlt, iteB_false]
theorem list_ok (c : TC) (h : CurOk code c) : TotP (fun k => spec_l12DrawList k c) fun x => Dist x.1 ∧ x.1.length ≤ 5 ∧ CurOk code x.2 := by
  obtain ⟨x, hx, ev⟩ := list_rounds hc 5 0 c [] (by omega) (by omega) h (by simp [Dist]) (by simp)
  refine ⟨x, hx, ev.two (Ev.gt 5) fun k hk h5 => ?_⟩
  show spec_l12DrawList k c = some x
  rw [spec_l12DrawList_e, list_l3]
  exact hk k h5
theorem tick_rounds : ∀ (m : Nat) (i : Int) (c : TC) (acc : List Int), 0 ≤ i → i + (m : Int) = 5 → CurOk code c → (acc.length : Int) ≤ i → ∃ x : List Int × TC, x.1.length ≤ 5 ∧ Ev fun k => ∀ n, m < n → spec_l12DrawTickets.l3b k n i c acc = some x := by
  intro m
  induction m with
  | zero =>
    intro i c acc h0 h1 h2 h4
    obtain ⟨r, hr, ev⟩ := below_ok hc c h2 3 (by omega) (by omega)
    replace ev : Ev fun k => spec_l1Below k c 3 = some r := ev
    refine ⟨(acc, r.2), by show acc.length ≤ 5; omega, ev.mono fun k hk n hn => ?_⟩
    obtain ⟨n, rfl⟩ : ∃ p, n = p + 1 := ⟨n - 1, by omega⟩
    rw [spec_l12DrawTickets.l3b_s, hk, bindO_some, wrap_id (by omega) (by omega), decide_eq_false (by omega), iteB_false]
  | succ m ih =>
    intro i c acc h0 h1 h2 h4
    obtain ⟨r, hr, ev⟩ := below_ok hc c h2 3 (by omega) (by omega)
    replace ev : Ev fun k => spec_l1Below k c 3 = some r := ev
    have hw2 : IntKind.wrap .i64 (2 + r.1) = 2 + r.1 := wrap_id (by omega) (by omega)
    by_cases hlt : i < 2 + r.1
    · obtain ⟨w, hw, ev2⟩ := below_ok hc r.2 hr.2 3 (by omega) (by omega)
      replace ev2 : Ev fun k => spec_l1Below k r.2 3 = some w := ev2
      obtain ⟨x, hx, ev3⟩ := ih (i + 1) w.2 (acc ++ [IntKind.wrap .i64 (1 + w.1)]) (by omega) (by omega) hw.2 (by rw [List.length_append]; simp only [List.length_cons, List.length_nil]; omega)
      refine ⟨x, hx, (ev.and ev2).two ev3 fun k hk hk3 n hn => ?_⟩
      obtain ⟨k1, k2⟩ := hk
      obtain ⟨n, rfl⟩ : ∃ p, n = p + 1 := ⟨n - 1, by omega⟩
      rw [spec_l12DrawTickets.l3b_s, k1, bindO_some, hw2, decide_eq_true hlt, iteB_true, k2, bindO_some, lim8 (by rw [List.length_append]; show acc.length + 1 ≤ 2000; omega), iteB_true, wrap_id (x := i + 1) (by omega) (by omega)]
      exact hk3 n (by omega)
    · refine ⟨(acc, r.2), by show acc.length ≤ 5; omega, ev.mono fun k hk n hn => ?_⟩
      obtain ⟨n, rfl⟩ : ∃ p, n = p + 1 := ⟨n - 1, by omega⟩
      rw [spec_l12DrawTickets.l3b_s, hk, bindO_some, hw2, decide_eq_false hlt, iteB_false]
theorem tick_ok (c : TC) (h : CurOk code c) : TotP (fun k => spec_l12DrawTickets k c) fun x => x.1.length ≤ 5 := by
  obtain ⟨x, hx, ev⟩ := tick_rounds hc 5 0 c [] (by omega) (by omega) h (by simp)
  refine ⟨x, hx, ev.two (Ev.gt 5) fun k hk h5 => ?_⟩
  show spec_l12DrawTickets k c = some x
  rw [spec_l12DrawTickets_e, tick_l3]
  exact hk k h5
theorem chan_end (c : TC) (h : CurOk code c) (p : Int) (q : Bool) (y : List Int) (u v : List TW) (hy : y.length ≤ 100) (hu : u.length ≤ 100) (hv : v.length ≤ 100) : TotP (fun k => bindO (spec_l1Below k c 12) fun r15 => (iteB (r15.1 == 0) (bindO (spec_l1PickInt k r15.2 [(-1), 8, 9]) fun r16 => (some (r16.1, q, y, u, v, ()))) (iteB (r15.1 == 1) (bindO (spec_l1DrawAny k r15.2) fun r17 => (iteB (decide ((List.length (y ++ [r17.1])) * 8 ≤ lim)) (some (p, q, y ++ [r17.1], u, v, ())) (none))) (iteB (r15.1 == 2) (bindO (spec_l12DrawWait k r15.2) fun r18 => (iteB (decide ((List.length (u ++ [r18.1])) * 32 ≤ lim)) (some (p, q, y, u ++ [r18.1], v, ())) (none))) (iteB (r15.1 == 3) (bindO (spec_l1PickInt k r15.2 [(-1), 6]) fun r19 => (iteB (decide ((List.length (v ++ [(r19.1, 0, 0, 0, ())])) * 32 ≤ lim)) (some (p, q, y, u, v ++ [(r19.1, 0, 0, 0, ())], ())) (none))) (some (p, q, y, u, v, ()))))))) fun x : TCh => FitCh x := by
  have fit : ∀ (p : Int) (q : Bool) (y : List Int) (u v : List TW), y.length ≤ 101 → u.length ≤ 101 → v.length ≤ 101 → FitCh (p, q, y, u, v, ()) := fun p q y u v h1 h2 h3 => ⟨by show y.length ≤ 1048576; omega, by show u.length ≤ 1048576; omega, by show v.length ≤ 1048576; omega⟩
  have one : ∀ {α : Type} (l : List α) (x : α), l.length ≤ 100 → (l ++ [x]).length ≤ 101 := fun l x h => by rw [List.length_append]; show l.length + 1 ≤ 101; omega
  refine TotP.bind (below_ok hc c h 12 (by omega) (by omega)) fun r hr => ?_
  refine TotP.ite _ (fun _ => ?_) fun _ => ?_
  · exact TotP.bind (pickW_ok hc _ hr.2 _ (by simp) (by simp)) fun s _ => TotP.val _ (fit _ _ _ _ _ (by omega) (by omega) (by omega))
  refine TotP.ite _ (fun _ => ?_) fun _ => ?_
  · refine TotP.bind (any_ok hc _ hr.2) fun s _ => ?_
    rw [lim8 (Nat.le_trans (one y s.1 hy) (by omega))]
    exact TotP.val _ (fit _ _ _ _ _ (one y s.1 hy) (by omega) (by omega))
  refine TotP.ite _ (fun _ => ?_) fun _ => ?_
  · refine TotP.bind (wait_ok hc _ hr.2) fun s _ => ?_
    rw [lim32 (Nat.le_trans (one u s.1 hu) (by omega))]
    exact TotP.val _ (fit _ _ _ _ _ (by omega) (one u s.1 hu) (by omega))
  refine TotP.ite _ (fun _ => ?_) fun _ => TotP.val _ (fit _ _ _ _ _ (by omega) (by omega) (by omega))
  refine TotP.bind (pickW_ok hc _ hr.2 _ (by simp) (by simp)) fun s _ => ?_
  rw [lim32 (Nat.le_trans (one v _ hv) (by omega))]
  exact TotP.val _ (fit _ _ _ _ _ (by omega) (by omega) (one v _ hv))
theorem chan_rounds (a : Int) (b : Bool) (p : Int) (q : Bool) (u v : List TW) (hp : 0 ≤ p ∧ p < 4) (hu : u.length ≤ 100) (hv : v.length ≤ 100) : ∀ (m : Nat) (i : Int) (c : TC) (acc : List Int), 0 ≤ i → i + (m : Int) = 5 → CurOk code c → (acc.length : Int) ≤ i → ∃ x : TCh, FitCh x ∧ Ev fun k => ∀ n, m < n → spec_DrawChanOk.l4b k n i a b c p q acc u v = some x := by
  have hw2 : IntKind.wrap .i64 (p + 1) = p + 1 := wrap_id (by omega) (by omega)
  intro m
  induction m with
  | zero =>
    intro i c acc h0 h1 h2 h4
    obtain ⟨r, hr, ev⟩ := below_ok hc c h2 (p + 1) (by omega) (by omega)
    replace ev : Ev fun k => spec_l1Below k c (p + 1) = some r := ev
    obtain ⟨x, hx, ev2⟩ := chan_end hc r.2 hr.2 p q acc u v (by omega) hu hv
    refine ⟨x, hx, ev.two ev2 fun k hk hk2 n hn => ?_⟩
    obtain ⟨n, rfl⟩ : ∃ p, n = p + 1 := ⟨n - 1, by omega⟩
    rw [spec_DrawChanOk.l4b_s, hw2, hk, bindO_some, decide_eq_false (by omega), iteB_false]
    exact hk2
  | succ m ih =>
    intro i c acc h0 h1 h2 h4
    obtain ⟨r, hr, ev⟩ := below_ok hc c h2 (p + 1) (by omega) (by omega)
    replace ev : Ev fun k => spec_l1Below k c (p + 1) = some r := ev
    by_cases hlt : i < r.1
    · obtain ⟨w, hw, ev2⟩ := word_ok hc r.2 hr.2
      replace ev2 : Ev fun k => spec_l1DrawWord k r.2 = some w := ev2
      obtain ⟨x, hx, ev3⟩ := ih (i + 1) w.2 (acc ++ [w.1]) (by omega) (by omega) hw (by rw [List.length_append]; simp only [List.length_cons, List.length_nil]; omega)
      refine ⟨x, hx, (ev.and ev2).two ev3 fun k hk hk3 n hn => ?_⟩
      obtain ⟨k1, k2⟩ := hk
      obtain ⟨n, rfl⟩ : ∃ p, n = p + 1 := ⟨n - 1, by omega⟩
      rw [spec_DrawChanOk.l4b_s, hw2, k1, bindO_some, decide_eq_true hlt, iteB_true, k2, bindO_some, lim8 (by rw [List.length_append]; show acc.length + 1 ≤ 2000; omega), iteB_true, wrap_id (x := i + 1) (by omega) (by omega)]
      exact hk3 n (by omega)
    · obtain ⟨x, hx, ev2⟩ := chan_end hc r.2 hr.2 p q acc u v (by omega) hu hv
      refine ⟨x, hx, ev.two ev2 fun k hk hk2 n hn => ?_⟩
      obtain ⟨n, rfl⟩ : ∃ p, n = p + 1 := ⟨n - 1, by omega⟩
      rw [spec_DrawChanOk.l4b_s, hw2, hk, bindO_some, decide_eq_false hlt, iteB_false]
      exact hk2
theorem drawChan_ok : TotP (fun k => spec_DrawChanOk k code) fun x : TCh => FitCh x := by
  refine TotP.of_eq (fun k => spec_DrawChanOk_e k code) ?_
  refine TotP.bind (new_ok hc) fun c h => ?_
  refine TotP.bind (below_ok hc c h 4 (by omega) (by omega)) fun r1 h1 => ?_
  refine TotP.bind (onceW_ok hc _ h1.2 3 (by omega) (by omega)) fun r2 h2 => ?_
  refine TotP.bind (list_ok hc _ h2) fun r3 h3 => ?_
  refine TotP.bind (list_ok hc _ h3.2.2) fun r4 h4 => ?_
  obtain ⟨x, hx, ev⟩ := chan_rounds hc 0 false r1.1 r2.1 r3.1 r4.1 h1.1 (by have := h3.2.1; omega) (by have := h4.2.1; omega) 5 0 r4.2 [] (by omega) (by omega) h4.2.2 (by simp)
  refine ⟨x, hx, ev.two (Ev.gt 5) fun k hk h5 => ?_⟩
  show spec_DrawChanOk.l4 k k 0 0 false r4.2 r1.1 r2.1 r3.1 r4.1 = some x
  rw [chan_l4]
  exact hk k h5
theorem drawAdd_ok : TotP (fun k => spec_DrawAddWait k code) fun x => Dist x.1 ∧ x.1.length ≤ 5 :=
  TotP.of_eq (fun k => spec_DrawAddWait_e k code) (TotP.bind (new_ok hc) fun c h => TotP.bind (list_ok hc c h) fun r hr => TotP.bind (wait_ok hc _ hr.2.2) fun s _ => TotP.val _ ⟨hr.1, hr.2.1⟩)
theorem drawFirst_ok : TotP (fun k => spec_DrawFirstWait k code) fun x => x.1.length ≤ 5 ∧ x.2.1.length ≤ 5 :=
  TotP.of_eq (fun k => spec_DrawFirstWait_e k code) (TotP.bind (new_ok hc) fun c h => TotP.bind (list_ok hc c h) fun r hr => TotP.bind (tick_ok hc _ hr.2.2) fun s hs => TotP.val _ ⟨hr.2.1, hs⟩)
end

/-! The law. -/
theorem count_l17 (k : Nat) (w : TW) (l : List TW) (hl : l.length ≤ 1000) (h1 : l.countP (fun x => x.1 == w.1) = 1) {b : Bool} (hend : (bindO (impl_AddWait k l w) fun r15 => (bindO (laws_sameWaits k r15 l) fun r16 => (some r16))) = some b) (n : Nat) (hn : l.length < n) : laws_FnWaits.l17 k n 0 0 w l = some b := by
  have key : ∀ (m : Nat) (i : Int) (c : Nat) (n : Nat), 0 ≤ i → (l.length : Int) - i = m → m < n → (c : Int) ≤ i → laws_FnWaits.l17 k n (c : Int) i w l = iteB (((c + (l.drop i.toNat).countP (fun x => x.1 == w.1) : Nat) : Int) == 1) (some b) (some false) := by
    intro m
    induction m with
    | zero =>
      intro i c n h0 h1 h2 h3
      obtain ⟨n, rfl⟩ : ∃ p, n = p + 1 := ⟨n - 1, by omega⟩
      rw [laws_FnWaits.l17_s, decide_eq_false (by omega), iteB_false, hend, List.drop_eq_nil_of_le (by omega)]; rfl
    | succ m ih =>
      intro i c n h0 h1 h2 h3
      obtain ⟨n, rfl⟩ : ∃ p, n = p + 1 := ⟨n - 1, by omega⟩
      have hlt : i < (l.length : Int) := by omega
      have hd := drop_at l dW i h0 hlt
      have hwc : IntKind.wrap .i64 ((c : Int) + 1) = ((c + 1 : Nat) : Int) := by rw [wrap_id (by omega) (by omega)]; omega
      rw [laws_FnWaits.l17_s, decide_eq_true hlt, decide_eq_true h0, iteB_true, iteB_true, iteB_true, next_i h0 hlt (by omega), hwc, ih (i + 1) (c + 1) n (by omega) (by omega) (by omega) (by omega), ih (i + 1) c n (by omega) (by omega) (by omega) (by omega), hd, List.countP_cons]
      generalize l.getD i.toNat dW = x
      cases e : x.1 == w.1 with
      | true => rw [iteB_true, if_pos rfl, show c + 1 + (l.drop (i + 1).toNat).countP (fun x => x.1 == w.1) = c + ((l.drop (i + 1).toNat).countP (fun x => x.1 == w.1) + 1) by omega]
      | false => rw [iteB_false]; simp
  have := key l.length 0 0 n (Int.le_refl _) (by omega) hn (Int.le_refl _)
  rw [show ((0 : Nat) : Int) = 0 from rfl] at this
  rw [this, show (0 : Int).toNat = 0 from rfl, List.drop_zero, h1]; rfl
theorem FnWaits : ∀ (x0 : List Int), WfT (.row (.int .u8)) x0 → ∃ k, laws_FnWaits k x0 = some true := by
  intro code _
  by_cases hbig : (List.length code : Int) > 1048576
  · exact ⟨0, by rw [laws_FnWaits_e, laws_big_e, bindO_some, decide_eq_true hbig, iteB_true]⟩
  have hc : code.length ≤ 1048576 := by omega
  refine Ev.get ?_
  obtain ⟨⟨l, w, u⟩, ⟨hD, hl⟩, d1⟩ := drawAdd_ok hc
  obtain ⟨⟨a, t, u2⟩, ⟨ha, ht⟩, d2⟩ := drawFirst_ok hc
  obtain ⟨c, hC, d3⟩ := drawChan_ok hc
  replace d1 : Ev fun k => spec_DrawAddWait k code = some (l, w, u) := d1
  replace d2 : Ev fun k => spec_DrawFirstWait k code = some (a, t, u2) := d2
  replace d3 : Ev fun k => spec_DrawChanOk k code = some c := d3
  replace hD : Dist l := hD
  replace hl : l.length ≤ 5 := hl
  replace ha : a.length ≤ 5 := ha
  replace ht : t.length ≤ 5 := ht
  refine ((d1.and d2).and (d3.and ((impl_chan c hC).and (spec_chan c hC)))).two (((spec_first a t (by omega) (by omega)).and (impl_first a t (by omega) (by omega))).and (Ev.gt 100)) fun k h1 h2 => ?_
  obtain ⟨⟨d1, d2⟩, d3, c1, c2⟩ := h1
  obtain ⟨⟨f1, f2⟩, hk⟩ := h2
  have hal := addV_len l w
  have hfl := List.length_filter_le (liveV t) a
  have s1 := same_waits (addV l w) (by omega) k (by omega)
  have s2 := same_waits (a.filter (liveV t)) (by omega) k (by omega)
  have n1 (x : Int) : (x != x) = false := by simp
  have n2 (b : Bool) : (b == b) = true := by simp
  rw [laws_FnWaits_e, laws_big_e, bindO_some, decide_eq_false hbig, iteB_false, d1, bindO_some]
  show (bindO (impl_AddWait k l w) _) = _
  rw [impl_add l w (by omega) k (by omega), bindO_some]
  show (bindO (spec_AddWait k l w) _) = _
  rw [spec_add l w (by omega) k (by omega), bindO_some, s1, bindO_some, Bool.not_true, iteB_false, d2, bindO_some]
  show (bindO (impl_FirstWait k a t) _) = _
  rw [f2, bindO_some]
  show (bindO (impl_Live k a t) _) = _
  rw [impl_live a t (by omega) (by omega) k (by omega), bindO_some, d3, bindO_some]
  show (bindO (spec_FirstWait k a t) _) = _
  rw [f1, bindO_some, n1, Bool.not_false, iteB_true]
  show (bindO (spec_Live k a t) _) = _
  rw [spec_live a t (by omega) (by omega) k (by omega), bindO_some, s2, bindO_some, Bool.not_true, Bool.not_false, iteB_true, c1, bindO_some, c2, bindO_some, n2, Bool.not_true, iteB_false, gate_pos (by omega)]
  show laws_FnWaits.j13 k a (firstOf (liveV t) a 0) (a.filter (liveV t)) w (addV l w) = some true
  have he : laws_FnWaits.j15 k w (addV l w) = some true := by
    rw [laws_FnWaits.j15_e]
    refine count_l17 k w (addV l w) (by omega) (addV_once hD w) ?_ k (by omega)
    rw [impl_add (addV l w) w (by omega) k (by omega), bindO_some, addV_again, s1, bindO_some]
  rw [laws_FnWaits.j13_e, gate_pos (by omega), he]
  rcases first_head (liveV t) a 0 (Int.le_refl _) with ⟨g1, g2⟩ | ⟨g1, g2, r, g3⟩
  · rw [g2, decide_eq_true g1, decide_eq_false (show ¬ firstOf (liveV t) a 0 ≥ 0 by omega)]; rfl
  · rw [Int.sub_zero] at g3
    have hpos : ((List.length (a.filter (liveV t)) : Int) == 0) = false := by rw [g3]; simp only [List.length_cons, beq_eq_false_iff_ne, ne_eq]; omega
    have hp2 : decide (0 < (List.length (a.filter (liveV t)) : Int)) = true := by rw [g3]; exact decide_eq_true (by simp only [List.length_cons]; omega)
    have hg : (a.filter (liveV t)).getD 0 dW = a.getD (firstOf (liveV t) a 0).toNat dW := by rw [g3]; rfl
    rw [hpos, hp2, decide_eq_false (show ¬ firstOf (liveV t) a 0 < 0 by omega), decide_eq_true (show firstOf (liveV t) a 0 ≥ 0 by omega), decide_eq_true (show firstOf (liveV t) a 0 < (a.length : Int) by omega), hg]
    simp only [iteB_true, n2, beq_self_eq_true, Bool.and_self, Bool.not_true, Bool.not_false, iteB_false]

end Go.Proofs.Yteojdaobpjhddaa.Pure
