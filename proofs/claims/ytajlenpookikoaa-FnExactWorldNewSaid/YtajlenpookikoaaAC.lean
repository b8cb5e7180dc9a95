/- An interpreter of the model's code over values that are told, and its soundness. -/
import Derived.Test.YtajlenpookikoaaAL
namespace Go.AM

/-! Conversions: what is not too large, its copy, its sameness with itself. -/
/-- Rows no longer than the bound, all the way down. -/
inductive Fit : Node → Prop
  | mk (o : Int) (s : ByteArray) (n : Int) (kids : List Node) : kids.length ≤ 1048576 → (∀ y ∈ kids, Fit y) → Fit (.mk o s n kids)
def FitT : (t : Ty) → t.C → Prop
  | .int _, _ => True
  | .bool, _ => True
  | .str, s => ByteArray.size s ≤ 1048576
  | .row e, xs => List.length xs ≤ 1048576 ∧ ∀ x : e.C, @List.Mem e.C x xs → FitT e x
  | .unit, _ => True
  | .pair a b, x => FitT a x.1 ∧ FitT b x.2
  | .node, x => Fit x

/-- An expression that counts down from 'left', and is told Q where it does not fall below zero. -/
def SzE (e : Nat → Option Int) (left : Int) (Q : Prop) : Prop := ∃ r : Int, (Ev fun k => e k = some r) ∧ r ≤ left ∧ (0 ≤ r → Q)
theorem SzE.eq {e e' : Nat → Option Int} {left : Int} {Q : Prop} (h : ∀ k, e k = e' k) (g : SzE e' left Q) : SzE e left Q := by
  obtain ⟨r, ev, l, q⟩ := g
  exact ⟨r, ev.mono fun k hk => (h k).trans hk, l, q⟩
theorem SzE.succ {e e' : Nat → Option Int} {left : Int} {Q : Prop} (h : ∀ k, e (k + 1) = e' k) (g : SzE e' left Q) : SzE e left Q := by
  obtain ⟨r, ev, l, q⟩ := g
  exact ⟨r, Ev.succ (ev.mono fun k hk => (h k).trans hk), l, q⟩
theorem SzE.to {e : Nat → Option Int} {left : Int} {Q Q' : Prop} (h : Q → Q') (g : SzE e left Q) : SzE e left Q' := by
  obtain ⟨r, ev, l, q⟩ := g
  exact ⟨r, ev, l, fun hr => h (q hr)⟩
theorem SzE.done {left r : Int} (h : r ≤ left) : SzE (fun _ => some r) left True := ⟨r, Ev.of fun _ => rfl, h, fun _ => trivial⟩
/-- A part, and what follows. -/
theorem SzE.call {f : Nat → Option Int} {G : Nat → Int → Option Int} {left : Int} {Q R : Prop} (h0 : 0 ≤ left) (h : SzE f left Q) (g : ∀ r, 0 ≤ r → r ≤ left → SzE (fun k => G k r) r R) :
    SzE (fun k => bindO (f k) fun r => iteB (decide (r < 0)) (some (-1)) (G k r)) left (Q ∧ R) := by
  obtain ⟨r, ev, l, q⟩ := h
  by_cases c : r < 0
  · exact ⟨-1, ev.mono fun k hk => by show bindO (f k) _ = _; rw [hk, bindO_some, iteB_pos c], by omega, fun hr => by omega⟩
  · obtain ⟨r2, ev2, l2, q2⟩ := g r (by omega) l
    exact ⟨r2, ev.two ev2 fun k hk hk2 => by show bindO (f k) _ = _; rw [hk, bindO_some, iteB_neg c]; exact hk2, by omega, fun hr => ⟨q (by omega), q2 hr⟩⟩
/-- So many less. -/
theorem SzE.sub {n : Nat} {G : Nat → Int → Option Int} {left : Int} {R : Prop} (h0 : 0 ≤ left) (h1 : left ≤ 1048576) (hn : n ≤ 9223372036854775807) (g : ∀ r, 0 ≤ r → r ≤ left → SzE (fun k => G k r) r R) :
    SzE (fun k => iteB (decide (IntKind.wrap .i64 (left - (n : Int)) < 0)) (some (-1)) (G k (IntKind.wrap .i64 (left - (n : Int))))) left (n ≤ 1048576 ∧ R) := by
  have e : IntKind.wrap .i64 (left - (n : Int)) = left - n := wrap_id (by omega) (by omega)
  rw [e]
  by_cases c : left - (n : Int) < 0
  · exact ⟨-1, Ev.of fun k => iteB_pos c, by omega, fun hr => by omega⟩
  · obtain ⟨r2, ev2, l2, q2⟩ := g (left - n) (by omega) (by omega)
    exact ⟨r2, ev2.mono fun k hk => (iteB_neg c).trans hk, by omega, fun hr => ⟨by omega, q2 hr⟩⟩

theorem maxLen_nat : maxLen = 9223372036854775807 := rfl

section
variable {t : Ty}
def SzOk (t : Ty) (f : Nat → t.C → Int → Option Int) : Prop := ∀ x : t.C, WfT t x → ∀ left : Int, 0 ≤ left → left ≤ 1048576 → SzE (fun k => f k x left) left (FitT t x)
def ToOk (t : Ty) (f : Nat → t.C → Option t.C) : Prop := ∀ x : t.C, FitT t x → Ev fun k => f k x = some x
def EqOk (t : Ty) (f : Nat → t.C → t.C → Option Bool) : Prop := ∀ x : t.C, FitT t x → Ev fun k => f k x x = some true

/-- The rounds over a row. -/
theorem sz_rounds {α : Type} {d : α} {W F : α → Prop} {f : Nat → α → Int → Option Int} {L : Nat → Nat → List α → Int → Int → Option Int} (xs : List α)
    (hf : ∀ x ∈ xs, W x → ∀ left : Int, 0 ≤ left → left ≤ 1048576 → SzE (fun k => f k x left) left (F x)) (hw : ∀ x ∈ xs, W x) (hl : xs.length ≤ 9223372036854775807)
    (hL : ∀ k n lf i, L k (n + 1) xs lf i = iteB (decide (i < (xs.length : Int))) (iteB (decide (0 ≤ i)) (iteB (decide (i < (xs.length : Int))) (bindO (f k (xs.getD i.toNat d) lf) fun r => iteB (decide (r < 0)) (some (-1)) (L k n xs r (IntKind.wrap .i64 (i + 1)))) none) none) (some lf)) :
    ∀ (m : Nat) (i lf : Int), 0 ≤ i → (xs.length : Int) - i = m → 0 ≤ lf → lf ≤ 1048576 → ∃ r : Int, (Ev fun k => ∀ q, m < q → L k q xs lf i = some r) ∧ r ≤ lf ∧ (0 ≤ r → ∀ y ∈ xs.drop i.toNat, F y)
  | 0, i, lf, hi, hm, h0, h1 => by
    refine ⟨lf, Ev.of fun k q hq => ?_, by omega, fun _ y hy => ?_⟩
    · obtain ⟨q, rfl⟩ : ∃ p, q = p + 1 := ⟨q - 1, by omega⟩
      rw [hL, iteB_neg (by omega)]
    · rw [List.drop_eq_nil_of_le (by omega)] at hy; simp at hy
  | m + 1, i, lf, hi, hm, h0, h1 => by
    have hlt : i < (xs.length : Int) := by omega
    have hmem := getD_mem xs d hi hlt
    obtain ⟨r1, ev1, le1, fit1⟩ := hf _ hmem (hw _ hmem) lf h0 h1
    replace ev1 : Ev fun k => f k (xs.getD i.toNat d) lf = some r1 := ev1
    by_cases c3 : r1 < 0
    · refine ⟨-1, ev1.mono fun k hk q hq => ?_, by omega, fun h => by omega⟩
      obtain ⟨q, rfl⟩ : ∃ p, q = p + 1 := ⟨q - 1, by omega⟩
      rw [hL, iteB_pos hlt, iteB_pos hi, iteB_pos hlt, hk, bindO_some, iteB_pos c3]
    · obtain ⟨r, ev, le, fit⟩ := sz_rounds xs hf hw hl hL m (i + 1) r1 (by omega) (by omega) (by omega) (by omega)
      refine ⟨r, ev1.two ev fun k hk hk2 q hq => ?_, by omega, fun hr y hy => ?_⟩
      · obtain ⟨q, rfl⟩ : ∃ p, q = p + 1 := ⟨q - 1, by omega⟩
        rw [hL, iteB_pos hlt, iteB_pos hi, iteB_pos hlt, hk, bindO_some, iteB_neg c3, next_i hi hlt hl, hk2 q (by omega)]
      · rw [drop_at xs d i hi hlt] at hy
        rcases List.mem_cons.1 hy with rfl | hy
        · exact fit1 (by omega)
        · exact fit hr y hy
theorem sz_part {α : Type} {d : α} {W F : α → Prop} {f : Nat → α → Int → Option Int} {L : Nat → Nat → List α → Int → Int → Option Int} (xs : List α)
    (hf : ∀ x ∈ xs, W x → ∀ left : Int, 0 ≤ left → left ≤ 1048576 → SzE (fun k => f k x left) left (F x)) (hw : ∀ x ∈ xs, W x) (hl : xs.length ≤ 9223372036854775807)
    (hL : ∀ k n lf i, L k (n + 1) xs lf i = iteB (decide (i < (xs.length : Int))) (iteB (decide (0 ≤ i)) (iteB (decide (i < (xs.length : Int))) (bindO (f k (xs.getD i.toNat d) lf) fun r => iteB (decide (r < 0)) (some (-1)) (L k n xs r (IntKind.wrap .i64 (i + 1)))) none) none) (some lf))
    (left : Int) (h0 : 0 ≤ left) (h1 : left ≤ 1048576) : SzE (fun k => L k k xs left 0) left (∀ x ∈ xs, F x) := by
  obtain ⟨r, ev, le, fit⟩ := sz_rounds xs hf hw hl hL xs.length 0 left (by omega) (by omega) h0 h1
  exact ⟨r, ev.two (Ev.gt xs.length) fun k hk hk2 => hk k hk2, le, fun hr y hy => fit hr y (by simpa using hy)⟩
theorem sz_row {α : Type} {W F : α → Prop} {d : α} {f : Nat → α → Int → Option Int} {S : Nat → List α → Int → Option Int} {L : Nat → Nat → List α → Int → Int → Option Int} (hf : ∀ x : α, W x → ∀ left : Int, 0 ≤ left → left ≤ 1048576 → SzE (fun k => f k x left) left (F x))
    (hL : ∀ k n (xs : List α) lf i, L k (n + 1) xs lf i = iteB (decide (i < (xs.length : Int))) (iteB (decide (0 ≤ i)) (iteB (decide (i < (xs.length : Int))) (bindO (f k (xs.getD i.toNat d) lf) fun r => iteB (decide (r < 0)) (some (-1)) (L k n xs r (IntKind.wrap .i64 (i + 1)))) none) none) (some lf))
    (hS : ∀ k (xs : List α) left, S k xs left = iteB (decide (IntKind.wrap .i64 (left - (xs.length : Int)) < 0)) (some (-1)) (L k k xs (IntKind.wrap .i64 (left - (xs.length : Int))) 0))
    (xs : List α) (hx : xs.length ≤ maxLen ∧ ∀ x, List.Mem x xs → W x) (left : Int) (h0 : 0 ≤ left) (h1 : left ≤ 1048576) : SzE (fun k => S k xs left) left (xs.length ≤ 1048576 ∧ ∀ x, List.Mem x xs → F x) := by
  have hl : List.length xs ≤ 9223372036854775807 := hx.1
  exact (SzE.sub (G := fun k r => L k k xs r 0) h0 h1 hl fun r g0 g1 => sz_part xs (fun x _ => hf x) hx.2 hl (fun k n lf i => hL k n xs lf i) r g0 (by omega)).eq fun k => hS k xs left
theorem sz_flat {e : Ty} {S : Nat → List e.C → Int → Option Int} (hfit : ∀ x : e.C, FitT e x)
    (hS : ∀ k (xs : List e.C) left, S k xs left = iteB (decide (IntKind.wrap .i64 (left - (xs.length : Int)) < 0)) (some (-1)) (some (IntKind.wrap .i64 (left - (xs.length : Int))))) : SzOk (.row e) S := by
  intro xs hx left h0 h1
  exact ((SzE.sub (n := List.length xs) (G := fun _ r => some r) h0 h1 hx.1 fun r _ _ => SzE.done (Int.le_refl r)).to fun h => ⟨h.1, fun x _ => hfit x⟩).eq fun k => hS k xs left

theorem to_part {α : Type} {d : α} {f : Nat → α → Option α} {L : Nat → Nat → List α → Int → List α → Option (List α)} (xs : List α) (hl : xs.length ≤ 1048576) (hf : ∀ x ∈ xs, Ev fun k => f k x = some x)
    (hL : ∀ k n i ys, L k (n + 1) xs i ys = iteB (decide (i < (xs.length : Int))) (iteB (decide (0 ≤ i)) (iteB (decide (i < (xs.length : Int))) (bindO (f k (xs.getD i.toNat d)) fun r => iteB (decide (0 ≤ i)) (iteB (decide (i < (ys.length : Int))) (L k n xs (IntKind.wrap .i64 (i + 1)) (List.set ys i.toNat r)) none) none) none) none) (some ys)) (d' : α) :
    Ev fun k => L k k xs 0 (List.replicate ((xs.length : Int)).toNat d') = some xs := by
  refine (Ev.all hf).two (Ev.gt xs.length) fun k h1 h2 => ?_
  have e : ((xs.length : Int)).toNat = xs.length := by omega
  have := fill_all xs d d' (fun x => x) (fun n x i => L k n xs i x) (by
    intro n x i g0 g1 g2
    show L k (n + 1) xs i x = _
    rw [hL, iteB_pos g1, iteB_pos g0, iteB_pos g1, h1 _ (getD_mem xs d g0 g1), bindO_some, iteB_pos g0, iteB_pos g2, next_i g0 g1 (by omega)]) (by
    intro n x i g
    show L k (n + 1) xs i x = _
    rw [hL, iteB_neg (by omega)]) k h2
  rw [e, this]; simp
theorem to_row {α : Type} {F : α → Prop} {d d' : α} {c : Int} {f : Nat → α → Option α} {S : Nat → List α → Option (List α)} {L : Nat → Nat → List α → Int → List α → Option (List α)} (hf : ∀ x : α, F x → Ev fun k => f k x = some x)
    (hL : ∀ k n (xs : List α) i ys, L k (n + 1) xs i ys = iteB (decide (i < (xs.length : Int))) (iteB (decide (0 ≤ i)) (iteB (decide (i < (xs.length : Int))) (bindO (f k (xs.getD i.toNat d)) fun r => iteB (decide (0 ≤ i)) (iteB (decide (i < (ys.length : Int))) (L k n xs (IntKind.wrap .i64 (i + 1)) (List.set ys i.toNat r)) none) none) none) none) (some ys))
    (hS : ∀ k (xs : List α), S k xs = iteB (decide (0 ≤ (xs.length : Int))) (iteB (decide ((xs.length : Int) ≤ (xs.length : Int))) (iteB (decide ((xs.length : Int) * c ≤ (lim : Int))) (iteB (decide ((xs.length : Int) ≤ (lim : Int)) && true) (L k k xs 0 (List.replicate ((xs.length : Int)).toNat d')) none) none) none) none)
    (hc : 0 ≤ c ∧ c ≤ 4096) (xs : List α) (hx : xs.length ≤ 1048576 ∧ ∀ x, List.Mem x xs → F x) : Ev fun k => S k xs = some xs := by
  have hl : List.length xs ≤ 1048576 := hx.1
  refine (to_part xs hl (fun x m => hf x (hx.2 x m)) (fun k n i ys => hL k n xs i ys) d').mono fun k hk => ?_
  have c1 : (List.length xs : Int) * c ≤ (lim : Int) := by
    have : (List.length xs : Int) * c ≤ 1048576 * 4096 := Int.mul_le_mul (by omega) hc.2 hc.1 (by omega)
    unfold lim; omega
  have c2 : (decide ((List.length xs : Int) ≤ (lim : Int)) && true) = true := by rw [Bool.and_true]; exact decide_eq_true (by unfold lim; omega)
  have : S k xs = some xs := by rw [hS, iteB_pos (by omega), iteB_pos (by omega), iteB_pos c1, c2, iteB_true, hk]
  exact this
/-- A row of words, copied. -/
theorem to_words {α : Type} {F : α → Prop} {d d' : α} {c : Int} {S : Nat → List α → Option (List α)} {L : Nat → Nat → List α → Int → List α → Option (List α)}
    (hL : ∀ k n (xs : List α) i ys, L k (n + 1) xs i ys = iteB (decide (i < (xs.length : Int))) (iteB (decide (0 ≤ i)) (iteB (decide (i < (xs.length : Int))) (iteB (decide (0 ≤ i)) (iteB (decide (i < (ys.length : Int))) (L k n xs (IntKind.wrap .i64 (i + 1)) (List.set ys i.toNat (xs.getD i.toNat d))) none) none) none) none) (some ys))
    (hS : ∀ k (xs : List α), S k xs = iteB (decide (0 ≤ (xs.length : Int))) (iteB (decide ((xs.length : Int) ≤ (xs.length : Int))) (iteB (decide ((xs.length : Int) * c ≤ (lim : Int))) (iteB (decide ((xs.length : Int) ≤ (lim : Int)) && true) (L k k xs 0 (List.replicate ((xs.length : Int)).toNat d')) none) none) none) none)
    (hc : 0 ≤ c ∧ c ≤ 4096) (xs : List α) (hx : xs.length ≤ 1048576 ∧ ∀ x, List.Mem x xs → F x) : Ev fun k => S k xs = some xs := by
  refine to_row (F := F) (d := d) (f := fun _ x => some x) (fun x _ => Ev.of fun _ => rfl) (fun k n xs i ys => ?_) hS hc xs hx
  rw [hL]; rfl

theorem eq_part {α : Type} {d : α} {f : Nat → α → α → Option Bool} {L : Nat → Nat → List α → List α → Int → Option Bool} (xs : List α) (hl : xs.length ≤ 1048576) (hf : ∀ x ∈ xs, Ev fun k => f k x x = some true)
    (hL : ∀ k n i, L k (n + 1) xs xs i = iteB (decide (i < (xs.length : Int))) (iteB (decide (0 ≤ i)) (iteB (decide (i < (xs.length : Int))) (iteB (decide (0 ≤ i)) (iteB (decide (i < (xs.length : Int))) (bindO (f k (xs.getD i.toNat d) (xs.getD i.toNat d)) fun r => iteB (!r) (some false) (L k n xs xs (IntKind.wrap .i64 (i + 1)))) none) none) none) none) (some true)) :
    Ev fun k => L k k xs xs 0 = some true := by
  refine (Ev.all hf).two (Ev.gt xs.length) fun k h1 h2 => ?_
  rw [loop_all xs d (fun n i => L k n xs xs i) (fun _ x r => bif (fun _ => true) x then r else some false) (some true) (by
    intro n i g0 g1
    show L k (n + 1) xs xs i = _
    rw [hL, iteB_pos g1, iteB_pos g0, iteB_pos g1, iteB_pos g0, iteB_pos g1, h1 _ (getD_mem xs d g0 g1), bindO_some, next_i g0 g1 (by omega)]
    rfl) (by
    intro n i g
    show L k (n + 1) xs xs i = _
    rw [hL, iteB_neg (by omega)]) k h2, run_all]
  simp
theorem eq_row {α : Type} {F : α → Prop} {d : α} {f : Nat → α → α → Option Bool} {S : Nat → List α → List α → Option Bool} {L : Nat → Nat → List α → List α → Int → Option Bool} (hf : ∀ x : α, F x → Ev fun k => f k x x = some true)
    (hL : ∀ k n (xs ys : List α) i, L k (n + 1) xs ys i = iteB (decide (i < (xs.length : Int))) (iteB (decide (0 ≤ i)) (iteB (decide (i < (xs.length : Int))) (iteB (decide (0 ≤ i)) (iteB (decide (i < (ys.length : Int))) (bindO (f k (xs.getD i.toNat d) (ys.getD i.toNat d)) fun r => iteB (!r) (some false) (L k n xs ys (IntKind.wrap .i64 (i + 1)))) none) none) none) none) (some true))
    (hS : ∀ k (xs ys : List α), S k xs ys = iteB ((xs.length : Int) != (ys.length : Int)) (some false) (L k k xs ys 0)) (xs : List α) (hx : xs.length ≤ 1048576 ∧ ∀ x, List.Mem x xs → F x) : Ev fun k => S k xs xs = some true := by
  refine (eq_part xs hx.1 (fun x m => hf x (hx.2 x m)) (fun k n i => hL k n xs xs i)).mono fun k hk => ?_
  have : ((List.length xs : Int) != (List.length xs : Int)) = false := by simp
  rw [hS, this, iteB_false, hk]
/-- A row of words. -/
theorem eq_words {α : Type} {F : α → Prop} {d : α} {S : Nat → List α → List α → Option Bool} {L : Nat → Nat → List α → List α → Int → Option Bool} {p : α → α → Bool} (hp : ∀ x, p x x = false)
    (hL : ∀ k n (xs ys : List α) i, L k (n + 1) xs ys i = iteB (decide (i < (xs.length : Int))) (iteB (decide (0 ≤ i)) (iteB (decide (i < (xs.length : Int))) (iteB (decide (0 ≤ i)) (iteB (decide (i < (ys.length : Int))) (iteB (p (xs.getD i.toNat d) (ys.getD i.toNat d)) (some false) (L k n xs ys (IntKind.wrap .i64 (i + 1)))) none) none) none) none) (some true))
    (hS : ∀ k (xs ys : List α), S k xs ys = iteB ((xs.length : Int) != (ys.length : Int)) (some false) (L k k xs ys 0)) (xs : List α) (hx : xs.length ≤ 1048576 ∧ ∀ x, List.Mem x xs → F x) : Ev fun k => S k xs xs = some true := by
  refine eq_row (F := F) (d := d) (f := fun _ x y => some (!p x y)) (fun x _ => Ev.of fun _ => by show some (!p x x) = _; rw [hp]; rfl) (fun k n xs ys i => ?_) hS xs hx
  rw [hL]
  show _ = iteB _ (iteB _ (iteB _ (iteB _ (iteB _ (iteB (!!p (xs.getD i.toNat d) (ys.getD i.toNat d)) _ _) _) _) _) _) _
  rw [Bool.not_not]
end

/-- Parts of a sameness: words first, rows later. -/
def EqE (e : Nat → Option Bool) : Prop := Ev fun k => e k = some true
theorem EqE.eq {e e' : Nat → Option Bool} (h : ∀ k, e k = e' k) (g : EqE e') : EqE e := g.mono fun k hk => (h k).trans hk
theorem EqE.done : EqE fun _ => some true := Ev.of fun _ => rfl
theorem EqE.word {b : Bool} {G : Nat → Option Bool} (h : b = false) (g : EqE G) : EqE fun k => iteB b (some false) (G k) := by subst h; exact g
theorem EqE.call {f : Nat → Option Bool} {G : Nat → Option Bool} (h : EqE f) (g : EqE G) : EqE fun k => bindO (f k) fun r => iteB (!r) (some false) (G k) :=
  h.two g fun k a b => by show bindO (f k) _ = _; rw [a, bindO_some]; exact b
theorem ne_self {x : Int} : (x != x) = false := by simp
theorem nb_self {x : Bool} : (!(x == x)) = false := by simp
theorem ns_self {s : ByteArray} : (!(s.toList == s.toList)) = false := by simp

/-- Parts of a copy. -/
theorem To.call {α β : Type} {f : Nat → Option α} {x : α} {G : Nat → α → Option β} {y : β} (h : Ev fun k => f k = some x) (g : Ev fun k => G k x = some y) : Ev fun k => bindO (f k) (G k) = some y :=
  h.two g fun k a b => by rw [a, bindO_some]; exact b

/-! Marks: what a row holds, written anew, counted on. -/
def MarkOk {α : Type} (F : α → Prop) (f : Nat → α → Int → Option (Int × α)) (B : Int) : Prop := ∀ x, F x → Ev fun q => ∀ kk : Int, 0 ≤ kk → kk + B ≤ 9223372036854775000 → ∃ r y, f q x kk = some (r, y) ∧ kk ≤ r ∧ r ≤ kk + B
def TextOk (f : Nat → Int → Option ByteArray) : Prop := Ev fun q => ∀ kk : Int, 0 ≤ kk → kk ≤ 9223372036854775000 → ∃ t, f q kk = some t

theorem getD_set_same {α : Type} (l : List α) (a d : α) {i : Nat} (h : i < l.length) : (l.set i a).getD i d = a := by simp [List.getD, h]
theorem wrap_next {x : Int} (h : -9223372036854775808 ≤ x + 1) (h' : x + 1 ≤ 9223372036854775807) : IntKind.wrap .i64 (x + 1) = x + 1 := wrap_id h h'

theorem mark_row {α : Type} {d : α} {F : α → Prop} {B : Int} (hB : 0 ≤ B) {f : Nat → List α → Int → Option (Int × List α)} {L : Nat → Nat → Int → Int → List α → Option (Int × List α)}
    (hS : ∀ x, F x → Ev fun q => ∀ (kk : Int), 0 ≤ kk → kk + B ≤ 9223372036854775000 → ∀ (n : Nat) (ys : List α) (i : Int), 0 ≤ i → i < (ys.length : Int) → ys.length ≤ 1048576 → ys.getD i.toNat d = x → ∃ r y, kk ≤ r ∧ r ≤ kk + B ∧ L q (n + 1) kk i ys = L q n r (i + 1) (ys.set i.toNat y))
    (hE : ∀ q n kk i (ys : List α), (ys.length : Int) ≤ i → L q (n + 1) kk i ys = some (kk, ys)) (hf : ∀ q (xs : List α) kk, f q xs kk = L q q kk 0 xs) {C : Int} (hC : 1048576 * B ≤ C) : MarkOk (fun xs : List α => xs.length ≤ 1048576 ∧ ∀ x, List.Mem x xs → F x) f C := by
  intro xs ⟨hl, hx⟩
  refine (Ev.all fun x m => hS x (hx x m)).two (Ev.gt xs.length) fun q h1 h2 kk h0 hM => ?_
  have key : ∀ (m : Nat) (i : Int) (kk : Int) (ys : List α) (p : Nat), 0 ≤ i → (ys.length : Int) - i = m → m < p → ys.length = xs.length → ys.drop i.toNat = xs.drop i.toNat → 0 ≤ kk → kk + m * B ≤ 9223372036854775000 → ∃ r zs, L q p kk i ys = some (r, zs) ∧ kk ≤ r ∧ r ≤ kk + m * B := by
    intro m
    induction m with
    | zero =>
      intro i kk ys p hi hm hp hyl hd g0 gM
      obtain ⟨p, rfl⟩ : ∃ q, p = q + 1 := ⟨p - 1, by omega⟩
      exact ⟨kk, ys, hE q p kk i ys (by omega), Int.le_refl _, by omega⟩
    | succ m ih =>
      intro i kk ys p hi hm hp hyl hd g0 gM
      obtain ⟨p, rfl⟩ : ∃ q, p = q + 1 := ⟨p - 1, by omega⟩
      have hlt : i < (ys.length : Int) := by omega
      have hmul : ((m + 1 : Nat) : Int) * B = m * B + B := by rw [Int.natCast_succ, Int.add_mul, Int.one_mul]
      rw [hmul] at gM ⊢
      have hmB : 0 ≤ (m : Int) * B := Int.mul_nonneg (by omega) hB
      have hdd : ys.getD i.toNat d = xs.getD i.toNat d := by
        have e1 := drop_at ys d i hi hlt
        have e2 := drop_at xs d i hi (by omega)
        rw [e1, e2] at hd
        exact (List.cons.inj hd).1
      have hmem : xs.getD i.toNat d ∈ xs := getD_mem xs d hi (by omega)
      obtain ⟨r, y, r1, r2, e⟩ := h1 _ hmem kk g0 (by omega) p ys i hi hlt (by omega) hdd
      obtain ⟨r', zs, e', s1, s2⟩ := ih (i + 1) r (ys.set i.toNat y) p (by omega) (by simp; omega) (by omega) (by simpa using hyl) (by
        have h3 : (i + 1).toNat = i.toNat + 1 := by omega
        rw [h3, List.drop_set_of_lt (by omega), ← List.drop_drop, ← List.drop_drop, hd]) (by omega) (by omega)
      exact ⟨r', zs, e.trans e', by omega, by omega⟩
  have hmb : (xs.length : Int) * B ≤ 1048576 * B := Int.mul_le_mul_of_nonneg_right (by omega) hB
  obtain ⟨r, zs, e, s1, s2⟩ := key xs.length 0 kk xs q (by omega) (by omega) h2 rfl rfl h0 (by omega)
  exact ⟨r, zs, by rw [hf]; exact e, s1, by omega⟩
end Go.AM
