/- Writes of the program returns what the reference's returns, for every place of the machine. Conditions: none beyond the row's own. -/
import Derived.Test.YtleifmecmmpbjaaXFnExactWritesx1
namespace Go.Proofs.Ytleifmecmmpbjaa.Pure
open Go.RowKit Go.Proofs.Ytleifmecmmpbjaa.XFnExactWrites Go.Proofs.YtleifmecmmpbjaaW.PrintWords Go.Proofs.YtleifmecmmpbjaaW.PrintLast Go.Proofs.YtleifmecmmpbjaaW.PrintMore
set_option linter.unusedVariables false
set_option linter.unusedSimpArgs false

/-- What an op has, as letters. -/
def hasL (op : Int) : List UInt8 := if op = 1 then [82, 78] else if op = 2 then [82, 65] else if op = 3 ∨ op = 4 ∨ op = 5 ∨ op = 6 ∨ op = 7 ∨ op = 10 then [82, 65, 66] else if op = 8 then [82, 65, 78] else if op = 9 then [65, 66, 78] else if op = 11 then [78] else if op = 12 then [65, 78] else if op = 13 then [78, 77] else if op = 14 then [45] else if op = 15 ∨ op = 19 then [65] else if op = 16 ∨ op = 17 then [65, 66] else if op = 18 then [82] else []
theorem op_cases (op : Int) : op = 1 ∨ op = 2 ∨ op = 3 ∨ op = 4 ∨ op = 5 ∨ op = 6 ∨ op = 7 ∨ op = 8 ∨ op = 9 ∨ op = 10 ∨ op = 11 ∨ op = 12 ∨ op = 13 ∨ op = 14 ∨ op = 15 ∨ op = 16 ∨ op = 17 ∨ op = 18 ∨ op = 19 ∨ (op < 1 ∨ 19 < op) := by omega
theorem impl_has_tells (op : Int) (k : Nat) (hk : 4 ≤ k) : impl_has.f k op = some ⟨(hasL op).toArray⟩ := by
  obtain ⟨k, rfl⟩ : ∃ m, k = m + 4 := ⟨k - 4, by omega⟩
  rcases op_cases op with h | h | h | h | h | h | h | h | h | h | h | h | h | h | h | h | h | h | h | h
  case inr.inr.inr.inr.inr.inr.inr.inr.inr.inr.inr.inr.inr.inr.inr.inr.inr.inr.inr =>
    have n1 : ¬ op = 1 := by omega
    have n2 : ¬ op = 2 := by omega
    have n3 : ¬ op = 3 := by omega
    have n4 : ¬ op = 4 := by omega
    have n5 : ¬ op = 5 := by omega
    have n6 : ¬ op = 6 := by omega
    have n7 : ¬ op = 7 := by omega
    have n8 : ¬ op = 8 := by omega
    have n9 : ¬ op = 9 := by omega
    have n10 : ¬ op = 10 := by omega
    have n11 : ¬ op = 11 := by omega
    have n12 : ¬ op = 12 := by omega
    have n13 : ¬ op = 13 := by omega
    have n14 : ¬ op = 14 := by omega
    have n15 : ¬ op = 15 := by omega
    have n16 : ¬ op = 16 := by omega
    have n17 : ¬ op = 17 := by omega
    have n18 : ¬ op = 18 := by omega
    have n19 : ¬ op = 19 := by omega
    simp [impl_has.f, impl_has.j0, impl_has.j1, impl_has.j2, hasL, n1, n2, n3, n4, n5, n6, n7, n8, n9, n10, n11, n12, n13, n14, n15, n16, n17, n18, n19]
  all_goals (subst h; rfl)

/-- What an op has, as the reference numbers it: R 1, A 2, B 4, N 8, M 16. -/
def hasN (op : Int) : Int := if 1 ≤ op ∧ op ≤ 19 then rd [0, 9, 3, 7, 7, 7, 7, 7, 11, 14, 7, 8, 10, 24, 0, 2, 6, 6, 1, 2] op else 0
theorem spec_in (x lo hi : Int) : spec_l1In.f x lo hi = some (decide (lo ≤ x ∧ x ≤ hi)) := by
  unfold spec_l1In.f
  by_cases h : x ≥ lo
  · have h' : lo ≤ x := h
    rw [if_pos h]; simp [h']
  · have h' : ¬ lo ≤ x := h
    rw [if_neg h]; simp [h']
theorem spec_has_tells (op : Int) : spec_l2Has.f op = some (hasN op) := by
  unfold spec_l2Has.f hasN
  rw [spec_in, Option.bind_some]
  by_cases h : 1 ≤ op ∧ op ≤ 19
  · rw [if_pos (decide_eq_true h), if_pos h, Option.bind_some, if_pos (by omega), if_pos (by simp; omega)]
  · rw [if_neg (by simp; omega), if_neg h]


/-- Does an op have R. -/
def hasR (op : Int) : Bool := (1 ≤ op && op ≤ 8) || op == 10 || op == 18
theorem spec_writes (op r a b n m : Int) : spec_Writes.f op r a b n m = some (if hasR op = true then r else -1) := by
  unfold spec_Writes.f
  rw [spec_has_tells, Option.bind_some]
  rcases op_cases op with h | h | h | h | h | h | h | h | h | h | h | h | h | h | h | h | h | h | h | h
  case inr.inr.inr.inr.inr.inr.inr.inr.inr.inr.inr.inr.inr.inr.inr.inr.inr.inr.inr =>
    have e : hasN op = 0 := by unfold hasN; rw [if_neg (by omega)]
    have e2 : hasR op = false := by unfold hasR; simp; omega
    rw [e, e2]; rfl
  all_goals (subst h; rfl)
theorem impl_writes (op r a b n m : Int) (k : Nat) (hk : 4 ≤ k) : impl_Writes.f k op r a b n m = some (if hasR op = true then r else -1) := by
  unfold impl_Writes.f
  rw [impl_has_tells op k hk, Option.bind_some, ByteArray.toList_eq]
  rcases op_cases op with h | h | h | h | h | h | h | h | h | h | h | h | h | h | h | h | h | h | h | h
  case inr.inr.inr.inr.inr.inr.inr.inr.inr.inr.inr.inr.inr.inr.inr.inr.inr.inr.inr =>
    have e : hasL op = [] := by
      unfold hasL
      rw [if_neg (by omega), if_neg (by omega), if_neg (by omega), if_neg (by omega), if_neg (by omega), if_neg (by omega), if_neg (by omega), if_neg (by omega), if_neg (by omega), if_neg (by omega), if_neg (by omega), if_neg (by omega)]
    have e2 : hasR op = false := by unfold hasR; simp; omega
    rw [e, e2]; rfl
  all_goals (subst h; rfl)

theorem FnExactWrites : laws_FnExactWrites.Pure := by
  intro op r a b n m _ _ _ _ _ _
  refine ⟨10, ?_⟩
  unfold laws_FnExactWrites.f laws_toIns.f
  rw [Option.bind_some, spec_writes, Option.bind_some, Option.bind_some, impl_writes _ _ _ _ _ _ _ (by omega), Option.bind_some, if_pos rfl]


end Go.Proofs.Ytleifmecmmpbjaa.Pure
