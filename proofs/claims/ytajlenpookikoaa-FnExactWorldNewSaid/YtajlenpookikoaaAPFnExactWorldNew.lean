/- What the functions that FnExactWorldNew runs come to, and that the law's own run comes to true. -/
import Derived.Test.YtajlenpookikoaaAC
import Derived.KernelRfl
import Derived.Test.YtajlenpookikoaaAMFnExactWorldNew0
import Derived.Test.YtajlenpookikoaaAMFnExactWorldNew1
import Derived.Test.YtajlenpookikoaaAMFnExactWorldNew2
import Derived.Test.YtajlenpookikoaaAMFnExactWorldNew3
import Derived.Test.YtajlenpookikoaaAMFnExactWorldNew4
import Derived.Test.YtajlenpookikoaaAMFnExactWorldNew5
import Derived.Test.YtajlenpookikoaaAMFnExactWorldNew6
import Derived.Test.YtajlenpookikoaaAMFnExactWorldNew7
namespace Go.Proofs.Ytajlenpookikoaa.Pure
open Go Go.AM Go.AMx Go.Proofs.Ytajlenpookikoaa.XFnExactWorldNew
set_option linter.unusedVariables false
set_option linter.unusedSimpArgs false
/-! Ops of places. -/
def wok (x : Int) : Bool := decide (-2147483648 ≤ x ∧ x ≤ 2147483647)
theorem spec_in (k : Nat) (x lo hi : Int) : spec_l1In k x lo hi = some (decide (lo ≤ x ∧ x ≤ hi)) := by rw [spec_l1In_e, in_ge]
theorem impl_in (k : Nat) (x lo hi : Int) : impl_within k x lo hi = some (decide (lo ≤ x ∧ x ≤ hi)) := by rw [impl_within_e, in_ge]
theorem spec_wok (k : Nat) (x : Int) : spec_WordOk k x = some (wok x) := by rw [spec_WordOk_e, spec_in, bindO_some]; rfl
theorem impl_wok (k : Nat) (x : Int) : impl_WordOk k x = some (wok x) := by rw [impl_WordOk_e, impl_in, bindO_some]; rfl
def bit (h b : Int) : Bool := (IntKind.wrap .i64 ((BitVec.ofInt (IntKind.bits .i64) h &&& BitVec.ofInt (IntKind.bits .i64) b).toNat : Int)) != 0
def hasT (op : Int) : Int := if 1 ≤ op ∧ op ≤ 28 then List.getD [0, 9, 3, 7, 7, 7, 7, 7, 8, 8, 10, 49, 2, 2, 48, 3, 6, 3, 2, 45, 3, 6, 39, 1, 17, 2, 6, 6, 2] op.toNat 0 else 0
theorem spec_has (k : Nat) (op : Int) : spec_l10Has k op = some (hasT op) := by
  rw [spec_l10Has_e, spec_in, bindO_some]
  unfold hasT
  by_cases h : 1 ≤ op ∧ op ≤ 28
  · rw [decide_eq_true h, Bool.not_true, iteB_false, iteB_pos (by omega), iteB_pos (by simp; omega), if_pos h]
  · rw [decide_eq_false h, Bool.not_false, iteB_true, if_neg h]
theorem contains_byte (l : List Int) (hl : l.length ≤ 1048576) (c : Int) : Ev fun k => slices_Contains_byte k l c = some (l.any fun y => c == y) := by
  refine contains_of (α := Int) (d := 0) (C := fun _ y => some (c == y)) (I := fun k xs => slices_Index_byte k xs c) (L := fun k n xs m i => slices_Index_byte.l2 k n xs c m i) (S := fun k xs => slices_Contains_byte k xs c) (fun k n xs m i => ?_) (fun k xs => slices_Index_byte_e k xs c) (fun k xs => slices_Contains_byte_e k xs c) l hl fun x _ => Ev.of fun _ => rfl
  exact slices_Index_byte.l2_s k n xs c m i
/-- The letters of an op, and what they say. -/
structure Letters (op : Int) (B : ByteArray) : Prop where
  is : ∀ k, impl_owns k op = some B
  len : (valBytes B).length ≤ 1048576
  d : (valBytes B).any (fun y => 68 == y) = bit (hasT op) 1
  a : (valBytes B).any (fun y => 65 == y) = bit (hasT op) 2
  b : (valBytes B).any (fun y => 66 == y) = bit (hasT op) 4
  n : (valBytes B).any (fun y => 78 == y) = bit (hasT op) 8
  s : (valBytes B).any (fun y => 83 == y) = bit (hasT op) 16
  x : (valBytes B).any (fun y => 88 == y) = bit (hasT op) 32
  some : (!(ByteArray.toList B == ByteArray.toList (⟨#[]⟩ : ByteArray))) = decide (1 ≤ op ∧ op ≤ 28)
theorem letters_1 : Letters 1 (⟨#[68, 78]⟩ : ByteArray) := ⟨fun k => by rw [impl_owns_e]; rfl, by decide, by kernel_rfl, by kernel_rfl, by kernel_rfl, by kernel_rfl, by kernel_rfl, by kernel_rfl, by kernel_rfl⟩
theorem letters_2 : Letters 2 (⟨#[68, 65]⟩ : ByteArray) := ⟨fun k => by rw [impl_owns_e]; rfl, by decide, by kernel_rfl, by kernel_rfl, by kernel_rfl, by kernel_rfl, by kernel_rfl, by kernel_rfl, by kernel_rfl⟩
theorem letters_3 : Letters 3 (⟨#[68, 65, 66]⟩ : ByteArray) := ⟨fun k => by rw [impl_owns_e]; rfl, by decide, by kernel_rfl, by kernel_rfl, by kernel_rfl, by kernel_rfl, by kernel_rfl, by kernel_rfl, by kernel_rfl⟩
theorem letters_4 : Letters 4 (⟨#[68, 65, 66]⟩ : ByteArray) := ⟨fun k => by rw [impl_owns_e]; rfl, by decide, by kernel_rfl, by kernel_rfl, by kernel_rfl, by kernel_rfl, by kernel_rfl, by kernel_rfl, by kernel_rfl⟩
theorem letters_5 : Letters 5 (⟨#[68, 65, 66]⟩ : ByteArray) := ⟨fun k => by rw [impl_owns_e]; rfl, by decide, by kernel_rfl, by kernel_rfl, by kernel_rfl, by kernel_rfl, by kernel_rfl, by kernel_rfl, by kernel_rfl⟩
theorem letters_6 : Letters 6 (⟨#[68, 65, 66]⟩ : ByteArray) := ⟨fun k => by rw [impl_owns_e]; rfl, by decide, by kernel_rfl, by kernel_rfl, by kernel_rfl, by kernel_rfl, by kernel_rfl, by kernel_rfl, by kernel_rfl⟩
theorem letters_7 : Letters 7 (⟨#[68, 65, 66]⟩ : ByteArray) := ⟨fun k => by rw [impl_owns_e]; rfl, by decide, by kernel_rfl, by kernel_rfl, by kernel_rfl, by kernel_rfl, by kernel_rfl, by kernel_rfl, by kernel_rfl⟩
theorem letters_8 : Letters 8 (⟨#[78]⟩ : ByteArray) := ⟨fun k => by rw [impl_owns_e]; rfl, by decide, by kernel_rfl, by kernel_rfl, by kernel_rfl, by kernel_rfl, by kernel_rfl, by kernel_rfl, by kernel_rfl⟩
theorem letters_9 : Letters 9 (⟨#[78]⟩ : ByteArray) := ⟨fun k => by rw [impl_owns_e]; rfl, by decide, by kernel_rfl, by kernel_rfl, by kernel_rfl, by kernel_rfl, by kernel_rfl, by kernel_rfl, by kernel_rfl⟩
theorem letters_10 : Letters 10 (⟨#[65, 78]⟩ : ByteArray) := ⟨fun k => by rw [impl_owns_e]; rfl, by decide, by kernel_rfl, by kernel_rfl, by kernel_rfl, by kernel_rfl, by kernel_rfl, by kernel_rfl, by kernel_rfl⟩
theorem letters_11 : Letters 11 (⟨#[68, 83, 88]⟩ : ByteArray) := ⟨fun k => by rw [impl_owns_e]; rfl, by decide, by kernel_rfl, by kernel_rfl, by kernel_rfl, by kernel_rfl, by kernel_rfl, by kernel_rfl, by kernel_rfl⟩
theorem letters_12 : Letters 12 (⟨#[65]⟩ : ByteArray) := ⟨fun k => by rw [impl_owns_e]; rfl, by decide, by kernel_rfl, by kernel_rfl, by kernel_rfl, by kernel_rfl, by kernel_rfl, by kernel_rfl, by kernel_rfl⟩
theorem letters_13 : Letters 13 (⟨#[65]⟩ : ByteArray) := ⟨fun k => by rw [impl_owns_e]; rfl, by decide, by kernel_rfl, by kernel_rfl, by kernel_rfl, by kernel_rfl, by kernel_rfl, by kernel_rfl, by kernel_rfl⟩
theorem letters_14 : Letters 14 (⟨#[83, 88]⟩ : ByteArray) := ⟨fun k => by rw [impl_owns_e]; rfl, by decide, by kernel_rfl, by kernel_rfl, by kernel_rfl, by kernel_rfl, by kernel_rfl, by kernel_rfl, by kernel_rfl⟩
theorem letters_15 : Letters 15 (⟨#[68, 65]⟩ : ByteArray) := ⟨fun k => by rw [impl_owns_e]; rfl, by decide, by kernel_rfl, by kernel_rfl, by kernel_rfl, by kernel_rfl, by kernel_rfl, by kernel_rfl, by kernel_rfl⟩
theorem letters_16 : Letters 16 (⟨#[65, 66]⟩ : ByteArray) := ⟨fun k => by rw [impl_owns_e]; rfl, by decide, by kernel_rfl, by kernel_rfl, by kernel_rfl, by kernel_rfl, by kernel_rfl, by kernel_rfl, by kernel_rfl⟩
theorem letters_17 : Letters 17 (⟨#[68, 65]⟩ : ByteArray) := ⟨fun k => by rw [impl_owns_e]; rfl, by decide, by kernel_rfl, by kernel_rfl, by kernel_rfl, by kernel_rfl, by kernel_rfl, by kernel_rfl, by kernel_rfl⟩
theorem letters_18 : Letters 18 (⟨#[65]⟩ : ByteArray) := ⟨fun k => by rw [impl_owns_e]; rfl, by decide, by kernel_rfl, by kernel_rfl, by kernel_rfl, by kernel_rfl, by kernel_rfl, by kernel_rfl, by kernel_rfl⟩
theorem letters_19 : Letters 19 (⟨#[68, 66, 78, 88]⟩ : ByteArray) := ⟨fun k => by rw [impl_owns_e]; rfl, by decide, by kernel_rfl, by kernel_rfl, by kernel_rfl, by kernel_rfl, by kernel_rfl, by kernel_rfl, by kernel_rfl⟩
theorem letters_20 : Letters 20 (⟨#[68, 65]⟩ : ByteArray) := ⟨fun k => by rw [impl_owns_e]; rfl, by decide, by kernel_rfl, by kernel_rfl, by kernel_rfl, by kernel_rfl, by kernel_rfl, by kernel_rfl, by kernel_rfl⟩
theorem letters_21 : Letters 21 (⟨#[65, 66]⟩ : ByteArray) := ⟨fun k => by rw [impl_owns_e]; rfl, by decide, by kernel_rfl, by kernel_rfl, by kernel_rfl, by kernel_rfl, by kernel_rfl, by kernel_rfl, by kernel_rfl⟩
theorem letters_22 : Letters 22 (⟨#[68, 65, 66, 88]⟩ : ByteArray) := ⟨fun k => by rw [impl_owns_e]; rfl, by decide, by kernel_rfl, by kernel_rfl, by kernel_rfl, by kernel_rfl, by kernel_rfl, by kernel_rfl, by kernel_rfl⟩
theorem letters_23 : Letters 23 (⟨#[68]⟩ : ByteArray) := ⟨fun k => by rw [impl_owns_e]; rfl, by decide, by kernel_rfl, by kernel_rfl, by kernel_rfl, by kernel_rfl, by kernel_rfl, by kernel_rfl, by kernel_rfl⟩
theorem letters_24 : Letters 24 (⟨#[68, 83]⟩ : ByteArray) := ⟨fun k => by rw [impl_owns_e]; rfl, by decide, by kernel_rfl, by kernel_rfl, by kernel_rfl, by kernel_rfl, by kernel_rfl, by kernel_rfl, by kernel_rfl⟩
theorem letters_25 : Letters 25 (⟨#[65]⟩ : ByteArray) := ⟨fun k => by rw [impl_owns_e]; rfl, by decide, by kernel_rfl, by kernel_rfl, by kernel_rfl, by kernel_rfl, by kernel_rfl, by kernel_rfl, by kernel_rfl⟩
theorem letters_26 : Letters 26 (⟨#[65, 66]⟩ : ByteArray) := ⟨fun k => by rw [impl_owns_e]; rfl, by decide, by kernel_rfl, by kernel_rfl, by kernel_rfl, by kernel_rfl, by kernel_rfl, by kernel_rfl, by kernel_rfl⟩
theorem letters_27 : Letters 27 (⟨#[65, 66]⟩ : ByteArray) := ⟨fun k => by rw [impl_owns_e]; rfl, by decide, by kernel_rfl, by kernel_rfl, by kernel_rfl, by kernel_rfl, by kernel_rfl, by kernel_rfl, by kernel_rfl⟩
theorem letters_28 : Letters 28 (⟨#[65]⟩ : ByteArray) := ⟨fun k => by rw [impl_owns_e]; rfl, by decide, by kernel_rfl, by kernel_rfl, by kernel_rfl, by kernel_rfl, by kernel_rfl, by kernel_rfl, by kernel_rfl⟩
theorem letters_no (op : Int) (h : op < 1 ∨ 28 < op) : Letters op (⟨#[]⟩ : ByteArray) := by
  have ne : ∀ c : Int, 1 ≤ c → c ≤ 28 → (op == c) = false := fun c h1 h2 => by simp; omega
  have h0 : hasT op = 0 := by unfold hasT; rw [if_neg (by omega)]
  refine ⟨fun k => ?_, by decide, ?_, ?_, ?_, ?_, ?_, ?_, ?_⟩
  · rw [impl_owns_e]
    simp only [ne 1 (by omega) (by omega), ne 2 (by omega) (by omega), ne 3 (by omega) (by omega), ne 4 (by omega) (by omega), ne 5 (by omega) (by omega), ne 6 (by omega) (by omega), ne 7 (by omega) (by omega), ne 8 (by omega) (by omega), ne 9 (by omega) (by omega), ne 10 (by omega) (by omega), ne 11 (by omega) (by omega), ne 12 (by omega) (by omega), ne 13 (by omega) (by omega), ne 14 (by omega) (by omega), ne 15 (by omega) (by omega), ne 16 (by omega) (by omega), ne 17 (by omega) (by omega), ne 18 (by omega) (by omega), ne 19 (by omega) (by omega), ne 20 (by omega) (by omega), ne 21 (by omega) (by omega), ne 22 (by omega) (by omega), ne 23 (by omega) (by omega), ne 24 (by omega) (by omega), ne 25 (by omega) (by omega), ne 26 (by omega) (by omega), ne 27 (by omega) (by omega), ne 28 (by omega) (by omega), iteB_false]
  all_goals first | (rw [h0]; kernel_rfl) | skip
  rw [decide_eq_false (by omega)]; kernel_rfl
theorem letters (op : Int) : ∃ B, Letters op B := by
  have h : op = 1 ∨ op = 2 ∨ op = 3 ∨ op = 4 ∨ op = 5 ∨ op = 6 ∨ op = 7 ∨ op = 8 ∨ op = 9 ∨ op = 10 ∨ op = 11 ∨ op = 12 ∨ op = 13 ∨ op = 14 ∨ op = 15 ∨ op = 16 ∨ op = 17 ∨ op = 18 ∨ op = 19 ∨ op = 20 ∨ op = 21 ∨ op = 22 ∨ op = 23 ∨ op = 24 ∨ op = 25 ∨ op = 26 ∨ op = 27 ∨ op = 28 ∨ (op < 1 ∨ 28 < op) := by omega
  rcases h with h | h | h | h | h | h | h | h | h | h | h | h | h | h | h | h | h | h | h | h | h | h | h | h | h | h | h | h | h
  · subst h; exact ⟨_, letters_1⟩
  · subst h; exact ⟨_, letters_2⟩
  · subst h; exact ⟨_, letters_3⟩
  · subst h; exact ⟨_, letters_4⟩
  · subst h; exact ⟨_, letters_5⟩
  · subst h; exact ⟨_, letters_6⟩
  · subst h; exact ⟨_, letters_7⟩
  · subst h; exact ⟨_, letters_8⟩
  · subst h; exact ⟨_, letters_9⟩
  · subst h; exact ⟨_, letters_10⟩
  · subst h; exact ⟨_, letters_11⟩
  · subst h; exact ⟨_, letters_12⟩
  · subst h; exact ⟨_, letters_13⟩
  · subst h; exact ⟨_, letters_14⟩
  · subst h; exact ⟨_, letters_15⟩
  · subst h; exact ⟨_, letters_16⟩
  · subst h; exact ⟨_, letters_17⟩
  · subst h; exact ⟨_, letters_18⟩
  · subst h; exact ⟨_, letters_19⟩
  · subst h; exact ⟨_, letters_20⟩
  · subst h; exact ⟨_, letters_21⟩
  · subst h; exact ⟨_, letters_22⟩
  · subst h; exact ⟨_, letters_23⟩
  · subst h; exact ⟨_, letters_24⟩
  · subst h; exact ⟨_, letters_25⟩
  · subst h; exact ⟨_, letters_26⟩
  · subst h; exact ⟨_, letters_27⟩
  · subst h; exact ⟨_, letters_28⟩
  · exact ⟨_, letters_no op h⟩
theorem owned_of {op : Int} {B : ByteArray} (h : Letters op B) (c : Int) : Ev fun k => impl_owned k op c = some ((valBytes B).any fun y => c == y) :=
  (contains_byte _ h.len c).mono fun k hk => by rw [impl_owned_e, h.is, bindO_some, hk, bindO_some]
theorem own_d (op : Int) : Ev fun k => impl_owned k op 68 = some (bit (hasT op) 1) := by obtain ⟨B, h⟩ := letters op; have := owned_of h 68; rwa [h.d] at this
theorem own_a (op : Int) : Ev fun k => impl_owned k op 65 = some (bit (hasT op) 2) := by obtain ⟨B, h⟩ := letters op; have := owned_of h 65; rwa [h.a] at this
theorem own_b (op : Int) : Ev fun k => impl_owned k op 66 = some (bit (hasT op) 4) := by obtain ⟨B, h⟩ := letters op; have := owned_of h 66; rwa [h.b] at this
theorem own_n (op : Int) : Ev fun k => impl_owned k op 78 = some (bit (hasT op) 8) := by obtain ⟨B, h⟩ := letters op; have := owned_of h 78; rwa [h.n] at this
theorem own_s (op : Int) : Ev fun k => impl_owned k op 83 = some (bit (hasT op) 16) := by obtain ⟨B, h⟩ := letters op; have := owned_of h 83; rwa [h.s] at this
theorem own_x (op : Int) : Ev fun k => impl_owned k op 88 = some (bit (hasT op) 32) := by obtain ⟨B, h⟩ := letters op; have := owned_of h 88; rwa [h.x] at this
theorem bz_1 : bit 0 1 = false := by kernel_rfl
theorem bz_2 : bit 0 2 = false := by kernel_rfl
theorem bz_4 : bit 0 4 = false := by kernel_rfl
theorem bz_8 : bit 0 8 = false := by kernel_rfl
theorem bz_16 : bit 0 16 = false := by kernel_rfl
theorem bz_32 : bit 0 32 = false := by kernel_rfl
theorem xn_1 : bit (hasT 1) 32 = false := by kernel_rfl
theorem xn_2 : bit (hasT 2) 32 = false := by kernel_rfl
theorem xn_3 : bit (hasT 3) 32 = false := by kernel_rfl
theorem xn_4 : bit (hasT 4) 32 = false := by kernel_rfl
theorem xn_5 : bit (hasT 5) 32 = false := by kernel_rfl
theorem xn_6 : bit (hasT 6) 32 = false := by kernel_rfl
theorem xn_7 : bit (hasT 7) 32 = false := by kernel_rfl
theorem xn_8 : bit (hasT 8) 32 = false := by kernel_rfl
theorem xn_9 : bit (hasT 9) 32 = false := by kernel_rfl
theorem xn_10 : bit (hasT 10) 32 = false := by kernel_rfl
theorem xn_12 : bit (hasT 12) 32 = false := by kernel_rfl
theorem xn_13 : bit (hasT 13) 32 = false := by kernel_rfl
theorem xn_15 : bit (hasT 15) 32 = false := by kernel_rfl
theorem xn_16 : bit (hasT 16) 32 = false := by kernel_rfl
theorem xn_17 : bit (hasT 17) 32 = false := by kernel_rfl
theorem xn_18 : bit (hasT 18) 32 = false := by kernel_rfl
theorem xn_20 : bit (hasT 20) 32 = false := by kernel_rfl
theorem xn_21 : bit (hasT 21) 32 = false := by kernel_rfl
theorem xn_23 : bit (hasT 23) 32 = false := by kernel_rfl
theorem xn_24 : bit (hasT 24) 32 = false := by kernel_rfl
theorem xn_25 : bit (hasT 25) 32 = false := by kernel_rfl
theorem xn_26 : bit (hasT 26) 32 = false := by kernel_rfl
theorem xn_27 : bit (hasT 27) 32 = false := by kernel_rfl
theorem xn_28 : bit (hasT 28) 32 = false := by kernel_rfl
/-- What is so of an op that is none, or not a select. -/
theorem bits_no (op : Int) (h : op < 1 ∨ 28 < op) (b : Int) (hb : b = 1 ∨ b = 2 ∨ b = 4 ∨ b = 8 ∨ b = 16 ∨ b = 32) : bit (hasT op) b = false := by
  have h0 : hasT op = 0 := by unfold hasT; rw [if_neg (by omega)]
  rw [h0]
  rcases hb with rfl | rfl | rfl | rfl | rfl | rfl
  · exact bz_1
  · exact bz_2
  · exact bz_4
  · exact bz_8
  · exact bz_16
  · exact bz_32
theorem sel_1 : bit (hasT 19) 1 = true := by kernel_rfl
theorem sel_2 : bit (hasT 19) 2 = false := by kernel_rfl
theorem sel_4 : bit (hasT 19) 4 = true := by kernel_rfl
theorem sel_8 : bit (hasT 19) 8 = true := by kernel_rfl
theorem sel_16 : bit (hasT 19) 16 = false := by kernel_rfl
theorem sel_32 : bit (hasT 19) 32 = true := by kernel_rfl
theorem args_x (op : Int) (h : op ≠ 19) (h2 : op ≠ 22) (h3 : op ≠ 11) (h4 : op ≠ 14) : bit (hasT op) 32 = false := by
  have h : op = 1 ∨ op = 2 ∨ op = 3 ∨ op = 4 ∨ op = 5 ∨ op = 6 ∨ op = 7 ∨ op = 8 ∨ op = 9 ∨ op = 10 ∨ op = 12 ∨ op = 13 ∨ op = 15 ∨ op = 16 ∨ op = 17 ∨ op = 18 ∨ op = 20 ∨ op = 21 ∨ op = 23 ∨ op = 24 ∨ op = 25 ∨ op = 26 ∨ op = 27 ∨ op = 28 ∨ (op < 1 ∨ 28 < op) := by omega
  rcases h with h | h | h | h | h | h | h | h | h | h | h | h | h | h | h | h | h | h | h | h | h | h | h | h | h
  · subst h; exact xn_1
  · subst h; exact xn_2
  · subst h; exact xn_3
  · subst h; exact xn_4
  · subst h; exact xn_5
  · subst h; exact xn_6
  · subst h; exact xn_7
  · subst h; exact xn_8
  · subst h; exact xn_9
  · subst h; exact xn_10
  · subst h; exact xn_12
  · subst h; exact xn_13
  · subst h; exact xn_15
  · subst h; exact xn_16
  · subst h; exact xn_17
  · subst h; exact xn_18
  · subst h; exact xn_20
  · subst h; exact xn_21
  · subst h; exact xn_23
  · subst h; exact xn_24
  · subst h; exact xn_25
  · subst h; exact xn_26
  · subst h; exact xn_27
  · subst h; exact xn_28
  · exact bits_no op h 32 (by simp)
theorem x_22 : bit (hasT 22) 32 = true := by kernel_rfl
theorem x_11 : bit (hasT 11) 32 = true := by kernel_rfl
theorem x_14 : bit (hasT 14) 32 = true := by kernel_rfl

/-! Args. -/
abbrev TT : Type := Int × Int × Int × Int × Int × ByteArray × (List Int) × Unit
abbrev TT.args (x : TT) : List Int := x.2.2.2.2.2.2.1
theorem iteB_same {α : Type} (b : Bool) (x : α) : iteB b x x = x := by cases b <;> rfl
def trip (a c : Int) : Bool := decide (1 ≤ a ∧ a ≤ 2) && !(a == 1 && c != 0)
def selOk : List Int → Bool
  | [a, _, c] => trip a c
  | [a, _, c, d, _, f] => trip a c && trip d f
  | [a, _, c, d, _, f, g, _, i] => trip a c && (trip d f && trip g i)
  | _ => false
theorem selOk_len {l : List Int} (h : l.length ≠ 3) (h2 : l.length ≠ 6) (h3 : l.length ≠ 9) : selOk l = false := by
  unfold selOk
  split <;> simp at h h2 h3 ⊢
theorem len3 {l : List Int} (h : l.length = 3) : ∃ a b c, l = [a, b, c] := by
  match l, h with
  | [a, b, c], _ => exact ⟨a, b, c, rfl⟩
theorem len6 {l : List Int} (h : l.length = 6) : ∃ a b c d e f, l = [a, b, c, d, e, f] := by
  match l, h with
  | [a, b, c, d, e, f], _ => exact ⟨a, b, c, d, e, f, rfl⟩
theorem len9 {l : List Int} (h : l.length = 9) : ∃ a b c d e f g i j, l = [a, b, c, d, e, f, g, i, j] := by
  match l, h with
  | [a, b, c, d, e, f, g, i, j], _ => exact ⟨a, b, c, d, e, f, g, i, j, rfl⟩
/-- One round of the reference's. -/
theorem spec_round (k n : Nat) (x : TT) (i : Int) (h0 : 0 ≤ i) (h1 : i + 2 < (x.args.length : Int)) (hl : x.args.length ≤ 1048576) :
    spec_l10Args.l5 k (n + 1) (x.args.length : Int) i x = iteB (trip (x.args.getD i.toNat 0) (x.args.getD (i + 2).toNat 0)) (spec_l10Args.l5 k n (x.args.length : Int) (i + 3) x) (some false) := by
  have w2 : IntKind.wrap .i64 (i + 2) = i + 2 := wrap_id (by omega) (by omega)
  have w3 : IntKind.wrap .i64 (i + 3) = i + 3 := wrap_id (by omega) (by omega)
  rw [spec_l10Args.l5_s, iteB_pos (show i < (x.args.length : Int) by omega), iteB_pos h0, iteB_pos (show i < (x.args.length : Int) by omega), spec_in, bindO_some, w2, iteB_pos h1, iteB_pos h0, iteB_pos (show i < (x.args.length : Int) by omega), iteB_pos (show 0 ≤ i + 2 by omega), iteB_pos h1, w3, Bool.not_not]
  unfold trip
  generalize decide (1 ≤ List.getD x.2.2.2.2.2.2.1 i.toNat 0 ∧ List.getD x.2.2.2.2.2.2.1 i.toNat 0 ≤ 2) = A
  generalize (List.getD x.2.2.2.2.2.2.1 i.toNat 0 == 1) = B
  generalize (List.getD x.2.2.2.2.2.2.1 (i + 2).toNat 0 != 0) = C
  cases A <;> cases B <;> cases C <;> rfl
theorem impl_round (k n : Nat) (x : TT) (i : Int) (h0 : 0 ≤ i) (h1 : i + 2 < (x.args.length : Int)) (hl : x.args.length ≤ 1048576) :
    impl_argsOk.l3 k (n + 1) i x = iteB (trip (x.args.getD i.toNat 0) (x.args.getD (i + 2).toNat 0)) (impl_argsOk.l3 k n (i + 3) x) (some false) := by
  have w2 : IntKind.wrap .i64 (i + 2) = i + 2 := wrap_id (by omega) (by omega)
  have w3 : IntKind.wrap .i64 (i + 3) = i + 3 := wrap_id (by omega) (by omega)
  rw [impl_argsOk.l3_s, w2, iteB_pos h1, iteB_pos h0, iteB_pos (show i < (x.args.length : Int) by omega), impl_in, bindO_some, iteB_pos h0, iteB_pos (show i < (x.args.length : Int) by omega), iteB_pos (show 0 ≤ i + 2 by omega), iteB_pos h1, w3, Bool.not_not]
  unfold trip
  generalize decide (1 ≤ List.getD x.2.2.2.2.2.2.1 i.toNat 0 ∧ List.getD x.2.2.2.2.2.2.1 i.toNat 0 ≤ 2) = A
  generalize (List.getD x.2.2.2.2.2.2.1 i.toNat 0 == 1) = B
  generalize (List.getD x.2.2.2.2.2.2.1 (i + 2).toNat 0 != 0) = C
  cases A <;> cases B <;> cases C <;> rfl
/-- The reference's end, and what comes of other lengths. -/
theorem spec_end (k n : Nat) (x : TT) (i : Int) (h : (x.args.length : Int) ≤ i) : spec_l10Args.l5 k (n + 1) (x.args.length : Int) i x = some (((x.args.length : Int) == 3) || (((x.args.length : Int) == 6) || ((x.args.length : Int) == 9))) := by
  rw [spec_l10Args.l5_s, iteB_neg (by omega)]
  cases ((x.args.length : Int) == 3) <;> cases ((x.args.length : Int) == 6) <;> rfl
theorem spec_other (x : TT) (hl : x.args.length ≤ 1048576) (h3 : x.args.length ≠ 3) (h6 : x.args.length ≠ 6) (h9 : x.args.length ≠ 9) (k : Nat) : ∀ (m : Nat) (i : Int) (q : Nat), 0 ≤ i → (x.args.length : Int) - i ≤ m → m < q → spec_l10Args.l5 k q (x.args.length : Int) i x = some false := by
  have he : (((x.args.length : Int) == 3) || (((x.args.length : Int) == 6) || ((x.args.length : Int) == 9))) = false := by
    have a : ((x.args.length : Int) == 3) = false := by simp; omega
    have b : ((x.args.length : Int) == 6) = false := by simp; omega
    have c : ((x.args.length : Int) == 9) = false := by simp; omega
    rw [a, b, c]; rfl
  intro m
  induction m with
  | zero =>
    intro i q h0 hm hq
    obtain ⟨q, rfl⟩ : ∃ p, q = p + 1 := ⟨q - 1, by omega⟩
    rw [spec_end k q x i (by omega), he]
  | succ m ih =>
    intro i q h0 hm hq
    obtain ⟨q, rfl⟩ : ∃ p, q = p + 1 := ⟨q - 1, by omega⟩
    by_cases c : (x.args.length : Int) ≤ i
    · rw [spec_end k q x i c, he]
    · by_cases c2 : i + 2 < (x.args.length : Int)
      · rw [spec_round k q x i h0 c2 hl, ih (i + 3) q (by omega) (by omega) (by omega), iteB_same]
      · have w2 : IntKind.wrap .i64 (i + 2) = i + 2 := wrap_id (by omega) (by omega)
        have w3 : IntKind.wrap .i64 (i + 3) = i + 3 := wrap_id (by omega) (by omega)
        rw [spec_l10Args.l5_s, iteB_pos (by omega), iteB_pos h0, iteB_pos (show i < (x.args.length : Int) by omega), spec_in, bindO_some, w2, iteB_neg c2, w3, ih (i + 3) q (by omega) (by omega) (by omega), iteB_same]
theorem spec_sel (x : TT) (hl : x.args.length ≤ 1048576) : Ev fun k => spec_l10Args.l5 k k (x.args.length : Int) 0 x = some (selOk x.args) := by
  by_cases h3 : x.args.length = 3
  · refine ⟨5, fun k hk => ?_⟩
    obtain ⟨q, hq⟩ : ∃ q, k = q + 1 + 1 := ⟨k - 2, by omega⟩
    obtain ⟨a, b, c, e⟩ := len3 h3
    have : ∀ n, spec_l10Args.l5 k (n + 1 + 1) (x.args.length : Int) 0 x = some (selOk x.args) := fun n => by
      rw [spec_round k (n + 1) x 0 (by omega) (by omega) hl, spec_end k n x (0 + 3) (by omega), h3, e]
      show iteB (trip a c) (some true) (some false) = some (trip a c)
      cases trip a c <;> rfl
    have := this q
    rwa [← hq] at this
  · by_cases h6 : x.args.length = 6
    · refine ⟨5, fun k hk => ?_⟩
      obtain ⟨q, hq⟩ : ∃ q, k = q + 1 + 1 + 1 := ⟨k - 3, by omega⟩
      obtain ⟨a, b, c, d, f, g, e⟩ := len6 h6
      have : ∀ n, spec_l10Args.l5 k (n + 1 + 1 + 1) (x.args.length : Int) 0 x = some (selOk x.args) := fun n => by
        rw [spec_round k (n + 1 + 1) x 0 (by omega) (by omega) hl, spec_round k (n + 1) x (0 + 3) (by omega) (by omega) hl, spec_end k n x (0 + 3 + 3) (by omega), h6, e]
        show iteB (trip a c) (iteB (trip d g) (some true) (some false)) (some false) = some (trip a c && trip d g)
        cases trip a c <;> cases trip d g <;> rfl
      have := this q
      rwa [← hq] at this
    · by_cases h9 : x.args.length = 9
      · refine ⟨5, fun k hk => ?_⟩
        obtain ⟨q, hq⟩ : ∃ q, k = q + 1 + 1 + 1 + 1 := ⟨k - 4, by omega⟩
        obtain ⟨a, b, c, d, f, g, i, j, l, e⟩ := len9 h9
        have : ∀ n, spec_l10Args.l5 k (n + 1 + 1 + 1 + 1) (x.args.length : Int) 0 x = some (selOk x.args) := fun n => by
          rw [spec_round k (n + 1 + 1 + 1) x 0 (by omega) (by omega) hl, spec_round k (n + 1 + 1) x (0 + 3) (by omega) (by omega) hl, spec_round k (n + 1) x (0 + 3 + 3) (by omega) (by omega) hl, spec_end k n x (0 + 3 + 3 + 3) (by omega), h9, e]
          show iteB (trip a c) (iteB (trip d g) (iteB (trip i l) (some true) (some false)) (some false)) (some false) = some (trip a c && (trip d g && trip i l))
          cases trip a c <;> cases trip d g <;> cases trip i l <;> rfl
        have := this q
        rwa [← hq] at this
      · rw [selOk_len h3 h6 h9]
        exact (Ev.gt x.args.length).mono fun k hk => spec_other x hl h3 h6 h9 k x.args.length 0 k (by omega) (by omega) hk
/-- The program's: its number's bounds too. -/
theorem impl_end (k n : Nat) (x : TT) (i : Int) (h : (x.args.length : Int) ≤ i + 2) (h0 : 0 ≤ i) (hi : i ≤ 2000000) : impl_argsOk.l3 k (n + 1) i x = some (bif (Int.tmod (x.args.length : Int) 3) == 0 then (bif decide (3 ≤ (x.args.length : Int) ∧ (x.args.length : Int) ≤ 9) then decide (0 ≤ x.2.2.2.2.1 ∧ x.2.2.2.2.1 ≤ 1) else false) else false) := by
  have w2 : IntKind.wrap .i64 (i + 2) = i + 2 := wrap_id (by omega) (by omega)
  rw [impl_argsOk.l3_s, w2, iteB_neg (show ¬ i + 2 < (x.args.length : Int) by omega)]
  simp only [impl_in, bindO_some, iteB_ss]
theorem tmod3 (n : Nat) : (Int.tmod (n : Int) 3 == 0) = decide (n % 3 = 0) := by
  have : Int.tmod (n : Int) 3 = ((n % 3 : Nat) : Int) := by rw [show (3 : Int) = ((3 : Nat) : Int) from rfl, ← Int.ofNat_tmod]
  rw [this]
  by_cases h : n % 3 = 0
  · simp [h]
  · rw [decide_eq_false h]; simp; omega
theorem impl_other (x : TT) (hl : x.args.length ≤ 1048576) (h3 : x.args.length ≠ 3) (h6 : x.args.length ≠ 6) (h9 : x.args.length ≠ 9) (k : Nat) : ∀ (m : Nat) (i : Int) (q : Nat), 0 ≤ i → i ≤ 1100000 → (x.args.length : Int) - i ≤ m → m < q → impl_argsOk.l3 k q i x = some false := by
  have he : (bif (Int.tmod (x.args.length : Int) 3) == 0 then (bif decide (3 ≤ (x.args.length : Int) ∧ (x.args.length : Int) ≤ 9) then decide (0 ≤ x.2.2.2.2.1 ∧ x.2.2.2.2.1 ≤ 1) else false) else false) = false := by
    rw [tmod3]
    by_cases c : x.args.length % 3 = 0
    · rw [decide_eq_true c, decide_eq_false (by omega)]; rfl
    · rw [decide_eq_false c]; rfl
  intro m
  induction m with
  | zero =>
    intro i q h0 h1 hm hq
    obtain ⟨q, rfl⟩ : ∃ p, q = p + 1 := ⟨q - 1, by omega⟩
    rw [impl_end k q x i (by omega) h0 (by omega), he]
  | succ m ih =>
    intro i q h0 h1 hm hq
    obtain ⟨q, rfl⟩ : ∃ p, q = p + 1 := ⟨q - 1, by omega⟩
    by_cases c2 : i + 2 < (x.args.length : Int)
    · rw [impl_round k q x i h0 c2 hl, ih (i + 3) q (by omega) (by omega) (by omega) (by omega), iteB_same]
    · rw [impl_end k q x i (by omega) h0 (by omega), he]
theorem impl_sel (x : TT) (hl : x.args.length ≤ 1048576) : Ev fun k => impl_argsOk.l3 k k 0 x = some (selOk x.args && decide (0 ≤ x.2.2.2.2.1 ∧ x.2.2.2.2.1 ≤ 1)) := by
  by_cases h3 : x.args.length = 3
  · refine ⟨5, fun k hk => ?_⟩
    obtain ⟨q, hq⟩ : ∃ q, k = q + 1 + 1 := ⟨k - 2, by omega⟩
    obtain ⟨a, b, c, e⟩ := len3 h3
    have : ∀ n, impl_argsOk.l3 k (n + 1 + 1) 0 x = some (selOk x.args && decide (0 ≤ x.2.2.2.2.1 ∧ x.2.2.2.2.1 ≤ 1)) := fun n => by
      rw [impl_round k (n + 1) x 0 (by omega) (by omega) hl, impl_end k n x (0 + 3) (by omega) (by omega) (by omega), h3, e]
      generalize decide (0 ≤ x.2.2.2.2.1 ∧ x.2.2.2.2.1 ≤ 1) = Z
      show iteB (trip a c) (some Z) (some false) = some (trip a c && Z)
      cases trip a c <;> rfl
    have := this q
    rwa [← hq] at this
  · by_cases h6 : x.args.length = 6
    · refine ⟨5, fun k hk => ?_⟩
      obtain ⟨q, hq⟩ : ∃ q, k = q + 1 + 1 + 1 := ⟨k - 3, by omega⟩
      obtain ⟨a, b, c, d, f, g, e⟩ := len6 h6
      have : ∀ n, impl_argsOk.l3 k (n + 1 + 1 + 1) 0 x = some (selOk x.args && decide (0 ≤ x.2.2.2.2.1 ∧ x.2.2.2.2.1 ≤ 1)) := fun n => by
        rw [impl_round k (n + 1 + 1) x 0 (by omega) (by omega) hl, impl_round k (n + 1) x (0 + 3) (by omega) (by omega) hl, impl_end k n x (0 + 3 + 3) (by omega) (by omega) (by omega), h6, e]
        generalize decide (0 ≤ x.2.2.2.2.1 ∧ x.2.2.2.2.1 ≤ 1) = Z
        show iteB (trip a c) (iteB (trip d g) (some Z) (some false)) (some false) = some (trip a c && trip d g && Z)
        cases trip a c <;> cases trip d g <;> rfl
      have := this q
      rwa [← hq] at this
    · by_cases h9 : x.args.length = 9
      · refine ⟨5, fun k hk => ?_⟩
        obtain ⟨q, hq⟩ : ∃ q, k = q + 1 + 1 + 1 + 1 := ⟨k - 4, by omega⟩
        obtain ⟨a, b, c, d, f, g, i, j, l, e⟩ := len9 h9
        have : ∀ n, impl_argsOk.l3 k (n + 1 + 1 + 1 + 1) 0 x = some (selOk x.args && decide (0 ≤ x.2.2.2.2.1 ∧ x.2.2.2.2.1 ≤ 1)) := fun n => by
          rw [impl_round k (n + 1 + 1 + 1) x 0 (by omega) (by omega) hl, impl_round k (n + 1 + 1) x (0 + 3) (by omega) (by omega) hl, impl_round k (n + 1) x (0 + 3 + 3) (by omega) (by omega) hl, impl_end k n x (0 + 3 + 3 + 3) (by omega) (by omega) (by omega), h9, e]
          generalize decide (0 ≤ x.2.2.2.2.1 ∧ x.2.2.2.2.1 ≤ 1) = Z
          show iteB (trip a c) (iteB (trip d g) (iteB (trip i l) (some Z) (some false)) (some false)) (some false) = some (trip a c && (trip d g && trip i l) && Z)
          cases trip a c <;> cases trip d g <;> cases trip i l <;> rfl
        have := this q
        rwa [← hq] at this
      · rw [selOk_len h3 h6 h9]
        exact (Ev.gt x.args.length).mono fun k hk => impl_other x hl h3 h6 h9 k x.args.length 0 k (by omega) (by omega) (by omega) hk
/-- Are the args as told. -/
def argV (x : TT) : Bool := bif x.1 == 19 then selOk x.args else bif x.1 == 22 then (x.args.length : Int) == 1 else bif !(bit (hasT x.1) 32) then (x.args.length : Int) == 0 else decide ((x.args.length : Int) ≤ 4)
theorem spec_args (x : TT) (hl : x.args.length ≤ 1048576) : Ev fun k => spec_l10Args k x = some (argV x) := by
  refine (spec_sel x hl).mono fun k h => ?_
  rw [spec_l10Args_e, h]
  unfold argV
  by_cases c : x.1 = 19
  · have : (x.1 == 19) = true := by simp [c]
    rw [this]; rfl
  · have a : (x.1 == 19) = false := by simp [c]
    rw [a, iteB_false, cond_false]
    by_cases c2 : x.1 = 22
    · have : (x.1 == 22) = true := by simp [c2]
      rw [this]; rfl
    · have a2 : (x.1 == 22) = false := by simp [c2]
      rw [a2, iteB_false, cond_false]
      by_cases c3 : x.1 = 11
      · rw [c3, x_11]; rfl
      · by_cases c4 : x.1 = 14
        · rw [c4, x_14]; rfl
        · have a3 : (x.1 == 11) = false := by simp [c3]
          have a4 : (x.1 == 14) = false := by simp [c4]
          rw [a3, a4, args_x x.1 c c2 c3 c4]; rfl
theorem impl_args (x : TT) (n : Int) (hl : x.args.length ≤ 1048576) : Ev fun k => impl_argsOk k x n = some (argV x && (bif x.1 == 19 then decide (0 ≤ x.2.2.2.2.1 ∧ x.2.2.2.2.1 ≤ 1) else true)) := by
  refine (impl_sel x hl).two (own_x x.1) fun k h h2 => ?_
  rw [impl_argsOk_e, h, h2, bindO_some]
  unfold argV
  cases x.1 == 19
  · cases x.1 == 22
    · cases bit (hasT x.1) 32 <;> simp [iteB_false, iteB_true]
    · simp [iteB_false, iteB_true]
  · rfl

/-! What a place sets and reads. -/
def keep (op : Int) (l : List Int) (i : Nat) : Bool := bif op == 19 then (decide (i % 3 = 1) || (decide (i % 3 = 2) && (l.getD (i - 2) 0 == 2))) else true
def selFrom (op : Int) (l : List Int) : Nat → Nat → List Int
  | 0, _ => []
  | m + 1, i => (bif keep op l i then [l.getD i 0] else []) ++ selFrom op l m (i + 1)
theorem sel_len (op : Int) (l : List Int) : ∀ m i, (selFrom op l m i).length ≤ m
  | 0, _ => by simp [selFrom]
  | m + 1, i => by
    have := sel_len op l m (i + 1)
    unfold selFrom
    cases keep op l i <;> simp <;> omega
theorem sel_all {op : Int} (h : op ≠ 19) (l : List Int) : ∀ m i, i + m = l.length → selFrom op l m i = l.drop i
  | 0, i, e => by rw [List.drop_eq_nil_of_le (by omega)]; rfl
  | m + 1, i, e => by
    have hk : keep op l i = true := by unfold keep; have : (op == 19) = false := by simp [h]
                                       rw [this]; rfl
    unfold selFrom
    rw [hk, sel_all h l m (i + 1) (by omega), List.drop_eq_getElem_cons (by omega : i < l.length)]
    simp [List.getD, show i < l.length by omega]
def setsV (x : TT) : List Int := (bif bit (hasT x.1) 1 then [x.2.1] else []) ++ (bif x.1 == 19 then [x.2.2.2.1] else [])
def usesV (x : TT) : List Int := (bif bit (hasT x.1) 2 then [x.2.2.1] else []) ++ ((bif bit (hasT x.1) 4 && x.1 != 19 then [x.2.2.2.1] else []) ++ (bif bit (hasT x.1) 32 then selFrom x.1 x.args x.args.length 0 else []))
theorem lim_ok {n : Nat} (h : n ≤ 2000000) : n * 8 ≤ lim := by unfold lim; omega
theorem spec_sets (x : TT) : Ev fun k => spec_Sets k x = some (setsV x) := by
  refine (Ev.gt 0).mono fun k hk => ?_
  rw [spec_Sets_e, spec_has, bindO_some, gate_pos hk, gate_pos hk, spec_Sets.j4_e, spec_Sets.j4b_e]
  unfold setsV
  show iteB (bit (hasT x.1) 1) _ _ = _
  rw [iteB_pos (lim_ok (by simp)), iteB_pos (lim_ok (by simp)), iteB_pos (lim_ok (by simp))]
  cases bit (hasT x.1) 1 <;> cases x.1 == 19 <;> rfl
theorem impl_sets (x : TT) : Ev fun k => impl_Sets k x = some (setsV x) := by
  refine (own_d x.1).mono fun k h => ?_
  rw [impl_Sets_e, h, bindO_some]
  unfold setsV
  by_cases c : x.1 = 19
  · have a : (x.1 == 19) = true := by simp [c]
    have b : bit (hasT x.1) 1 = true := by rw [c]; exact sel_1
    rw [a, b]; rfl
  · have a : (x.1 == 19) = false := by simp [c]
    rw [a]
    cases bit (hasT x.1) 1 <;> rfl
/-- The two ways of the reference's rounds are one. -/
theorem l8b_eq (k : Nat) (h : Int) (x : TT) : ∀ (n : Nat) (i : Int), spec_Uses.l8b k n h i x = spec_Uses.l8 k n h i x []
  | 0, i => by rw [spec_Uses.l8b_0, spec_Uses.l8_0]
  | n + 1, i => by
    have ih := l8b_eq k h x n
    rw [spec_Uses.l8b_s, spec_Uses.l8_s, spec_Uses.j10b_e, spec_Uses.j10_e]
    simp only [ih]
theorem idx2 {i : Nat} (h : i % 3 = 2) (hi : i ≤ 2000000) : IntKind.wrap .i64 ((i : Int) - 2) = ((i - 2 : Nat) : Int) := by rw [wrap_id (by omega) (by omega)]; omega
theorem tm (i : Nat) : Int.tmod (i : Int) 3 = ((i % 3 : Nat) : Int) := by rw [show (3 : Int) = ((3 : Nat) : Int) from rfl, ← Int.ofNat_tmod]
theorem spec_rounds (x : TT) (hl : x.args.length ≤ 1048576) (k : Nat) (hk : 0 < k) : ∀ (m i : Nat) (q : Nat) (y : List Int), i + m = x.args.length → m < q → y.length ≤ i + 2 →
    spec_Uses.l8 k q (hasT x.1) (i : Int) x y = some (y ++ (bif bit (hasT x.1) 32 then selFrom x.1 x.args m i else [])) := by
  intro m
  induction m with
  | zero =>
    intro i q y e hq hy
    obtain ⟨q, rfl⟩ : ∃ p, q = p + 1 := ⟨q - 1, by omega⟩
    rw [spec_Uses.l8_s, iteB_neg (show ¬ (i : Int) < (x.args.length : Int) by omega)]
    cases bit (hasT x.1) 32 <;> simp [selFrom]
  | succ m ih =>
    intro i q y e hq hy
    obtain ⟨q, rfl⟩ : ∃ p, q = p + 1 := ⟨q - 1, by omega⟩
    have hi : (i : Int) < (x.args.length : Int) := by omega
    rw [spec_Uses.l8_s, iteB_pos hi]
    show iteB (bit (hasT x.1) 32) _ _ = _
    cases hb : bit (hasT x.1) 32 with
    | false => rw [iteB_false]; simp
    | true =>
      have nx : IntKind.wrap .i64 ((i : Int) + 1) = ((i + 1 : Nat) : Int) := by rw [wrap_id (by omega) (by omega)]; omega
      have more := ih (i + 1) q (y ++ [x.args.getD i 0]) (by omega) (by omega) (by simp; omega)
      have skip := ih (i + 1) q y (by omega) (by omega) (by omega)
      rw [hb] at more skip
      have g : (i : Int).toNat = i := by omega
      rw [iteB_true, gate_pos hk, spec_Uses.j10_e, nx]
      have push : iteB (decide (0 ≤ (i : Int))) (iteB (decide ((i : Int) < (x.args.length : Int))) (iteB (decide ((y ++ [x.args.getD (i : Int).toNat 0]).length * 8 ≤ lim)) (spec_Uses.l8 k q (hasT x.1) ((i + 1 : Nat) : Int) x (y ++ [x.args.getD (i : Int).toNat 0])) none) none) none = some (y ++ [x.args.getD i 0] ++ selFrom x.1 x.args m (i + 1)) := by
        rw [iteB_pos (by omega), iteB_pos hi, iteB_pos (lim_ok (by simp; omega)), g, more]; rfl
      have stay : spec_Uses.l8 k q (hasT x.1) ((i + 1 : Nat) : Int) x y = some (y ++ selFrom x.1 x.args m (i + 1)) := skip
      show iteB (!(x.1 != 19)) (iteB (!(Int.tmod (i : Int) 3 == 1)) (iteB (Int.tmod (i : Int) 3 == 2) (iteB (decide (0 ≤ IntKind.wrap .i64 ((i : Int) - 2))) (iteB (decide (IntKind.wrap .i64 ((i : Int) - 2) < (x.args.length : Int))) (iteB (x.args.getD (IntKind.wrap .i64 ((i : Int) - 2)).toNat 0 == 2) _ _) _) _) _) _) _ = _
      rw [cond_true]
      unfold selFrom keep
      by_cases c : x.1 = 19
      · have a : (x.1 == 19) = true := by simp [c]
        have a2 : (!(x.1 != 19)) = true := by simp [c]
        rw [a, a2, iteB_true, cond_true, tm]
        by_cases c1 : i % 3 = 1
        · have b : (!(((i % 3 : Nat) : Int) == 1)) = false := by simp [c1]
          rw [b, iteB_false, decide_eq_true c1, Bool.true_or, cond_true, ← List.append_assoc]
          exact push
        · have b : (!(((i % 3 : Nat) : Int) == 1)) = true := by simp; omega
          rw [b, iteB_true, decide_eq_false c1, Bool.false_or]
          by_cases c2 : i % 3 = 2
          · have b2 : ((((i % 3 : Nat) : Int)) == 2) = true := by simp [c2]
            rw [b2, iteB_true, idx2 c2 (by omega), iteB_pos (by omega), iteB_pos (show ((i - 2 : Nat) : Int) < (x.args.length : Int) by omega), decide_eq_true c2, Bool.true_and, show (((i - 2 : Nat) : Int)).toNat = i - 2 by omega]
            cases x.args.getD (i - 2) 0 == 2
            · rw [iteB_false, cond_false, List.nil_append]; exact stay
            · rw [iteB_true, cond_true, ← List.append_assoc]; exact push
          · have b2 : ((((i % 3 : Nat) : Int)) == 2) = false := by simp; omega
            rw [b2, iteB_false, decide_eq_false c2, Bool.false_and, cond_false, List.nil_append]; exact stay
      · have a : (x.1 == 19) = false := by simp [c]
        have a2 : (!(x.1 != 19)) = false := by simp [c]
        rw [a, a2, iteB_false, cond_false, cond_true, ← List.append_assoc]
        exact push
theorem spec_uses (x : TT) (hl : x.args.length ≤ 1048576) : Ev fun k => spec_Uses k x = some (usesV x) := by
  refine ((Ev.gt 0).and (Ev.gt x.args.length)).mono fun k hk => ?_
  have R := fun y (h : y.length ≤ 2) => spec_rounds x hl k hk.1 x.args.length 0 k y (by omega) hk.2 (by omega)
  have R0 : ∀ y : List Int, y.length ≤ 2 → spec_Uses.l8 k k (hasT x.1) 0 x y = some (y ++ (bif bit (hasT x.1) 32 then selFrom x.1 x.args x.args.length 0 else [])) := fun y h => R y h
  rw [spec_Uses_e, spec_has, bindO_some]
  simp only [gate_pos hk.1, spec_Uses.j5_e, spec_Uses.j5b_e, spec_Uses.j7_e, spec_Uses.j7b_e, l8b_eq]
  unfold usesV
  show iteB (bit (hasT x.1) 2) (iteB _ (iteB (bit (hasT x.1) 4) _ _) _) (iteB (bit (hasT x.1) 4) _ _) = _
  simp only [List.nil_append]
  rw [R0 [] (by simp), R0 ([x.2.2.2.1]) (by simp), R0 ([x.2.2.1] ++ [x.2.2.2.1]) (by simp), R0 [x.2.2.1] (by simp)]
  rw [iteB_pos (lim_ok (by simp)), iteB_pos (lim_ok (by simp)), iteB_pos (lim_ok (by simp))]
  cases bit (hasT x.1) 2 <;> cases bit (hasT x.1) 4 <;> cases x.1 != 19 <;> rfl
theorem impl_rounds (x : TT) (c : x.1 = 19) (hl : x.args.length ≤ 1048576) (k : Nat) : ∀ (m i : Nat) (q : Nat) (y : List Int), i + m = x.args.length → m < q → y.length ≤ i →
    impl_Uses.l4b k q x.args (x.args.length : Int) (i : Int) x y = some (y ++ selFrom 19 x.args m i) := by
  intro m
  induction m with
  | zero =>
    intro i q y e hq hy
    obtain ⟨q, rfl⟩ : ∃ p, q = p + 1 := ⟨q - 1, by omega⟩
    rw [impl_Uses.l4b_s, iteB_neg (by omega)]
    simp [selFrom]
  | succ m ih =>
    intro i q y e hq hy
    obtain ⟨q, rfl⟩ : ∃ p, q = p + 1 := ⟨q - 1, by omega⟩
    have hi : (i : Int) < (x.args.length : Int) := by omega
    have nx : IntKind.wrap .i64 ((i : Int) + 1) = ((i + 1 : Nat) : Int) := by rw [wrap_id (by omega) (by omega)]; omega
    have more := ih (i + 1) q (y ++ [x.args.getD i 0]) (by omega) (by omega) (by simp; omega)
    have stay := ih (i + 1) q y (by omega) (by omega) (by omega)
    have g : (i : Int).toNat = i := by omega
    rw [impl_Uses.l4b_s, iteB_pos hi, iteB_pos (by omega), iteB_pos hi, nx, g, tm]
    have push : iteB (decide ((y ++ [x.args.getD i 0]).length * 8 ≤ lim)) (impl_Uses.l4b k q x.args (x.args.length : Int) ((i + 1 : Nat) : Int) x (y ++ [x.args.getD i 0])) none = some (y ++ [x.args.getD i 0] ++ selFrom 19 x.args m (i + 1)) := by
      rw [iteB_pos (lim_ok (by simp; omega)), more]
    unfold selFrom keep
    rw [show ((19 : Int) == 19) = true from rfl, cond_true]
    by_cases c1 : i % 3 = 1
    · have b : (!(((i % 3 : Nat) : Int) == 1)) = false := by simp [c1]
      rw [b, iteB_false, decide_eq_true c1, Bool.true_or, cond_true, ← List.append_assoc]
      exact push
    · have b : (!(((i % 3 : Nat) : Int) == 1)) = true := by simp; omega
      rw [b, iteB_true, decide_eq_false c1, Bool.false_or]
      by_cases c2 : i % 3 = 2
      · have b2 : ((((i % 3 : Nat) : Int)) == 2) = true := by simp [c2]
        rw [b2, iteB_true, idx2 c2 (by omega), iteB_pos (by omega), iteB_pos (show ((i - 2 : Nat) : Int) < (x.args.length : Int) by omega), decide_eq_true c2, Bool.true_and, show (((i - 2 : Nat) : Int)).toNat = i - 2 by omega]
        show iteB (x.args.getD (i - 2) 0 == 2) _ _ = _
        cases x.args.getD (i - 2) 0 == 2
        · rw [iteB_false, cond_false, List.nil_append]; exact stay
        · rw [iteB_true, cond_true, ← List.append_assoc]; exact push
      · have b2 : ((((i % 3 : Nat) : Int)) == 2) = false := by simp; omega
        rw [b2, iteB_false, decide_eq_false c2, Bool.false_and, cond_false, List.nil_append]; exact stay
theorem l4_eq (k : Nat) (l : List Int) (n : Int) (x : TT) : ∀ (q : Nat) (i : Int), impl_Uses.l4 k q l n i x = impl_Uses.l4b k q l n i x []
  | 0, i => by rw [impl_Uses.l4_0, impl_Uses.l4b_0]
  | q + 1, i => by
    have ih := l4_eq k l n x q
    rw [impl_Uses.l4_s, impl_Uses.l4b_s]
    simp only [ih]
theorem impl_uses (x : TT) (hl : x.args.length ≤ 1048576) : Ev fun k => impl_Uses k x = some (usesV x) := by
  refine (((own_a x.1).and (own_b x.1)).and ((own_x x.1).and ((Ev.gt 0).and (Ev.gt x.args.length)))).mono fun k hk => ?_
  obtain ⟨⟨ha, hb⟩, hx, h0, h1⟩ := hk
  rw [impl_Uses_e]
  by_cases c : x.1 = 19
  · have a : (x.1 == 19) = true := by simp [c]
    have R := impl_rounds x c hl k x.args.length 0 k [] (by omega) h1 (by simp)
    have R' : impl_Uses.l4b k k x.args (x.args.length : Int) 0 x [] = some ([] ++ selFrom 19 x.args x.args.length 0) := R
    rw [a, iteB_true, l4_eq, R']
    unfold usesV
    have b2 : bit (hasT x.1) 2 = false := by rw [c]; exact sel_2
    have b3 : bit (hasT x.1) 32 = true := by rw [c]; exact sel_32
    have b4 : (x.1 != 19) = false := by simp [c]
    rw [b2, b3, b4, c, Bool.and_false]; rfl
  · have a : (x.1 == 19) = false := by simp [c]
    have a2 : (x.1 != 19) = true := by simp [c]
    rw [a, iteB_false, ha, bindO_some]
    simp only [gate_pos h0, impl_Uses.j12_e, impl_Uses.j12b_e, impl_Uses.j14_e, impl_Uses.j14b_e, hb, hx, bindO_some, List.nil_append]
    unfold usesV
    rw [a2, Bool.and_true, sel_all c x.args x.args.length 0 (by omega), List.drop_zero]
    have L : ∀ l : List Int, l.length ≤ 2000000 → decide (l.length * 8 ≤ lim) = true := fun l h => decide_eq_true (lim_ok h)
    have hl' : x.2.2.2.2.2.2.1.length ≤ 1048576 := hl
    simp only [L ([x.2.2.1] ++ [x.2.2.2.1] ++ x.2.2.2.2.2.2.1) (by simp; omega), L ([x.2.2.1] ++ x.2.2.2.2.2.2.1) (by simp; omega), L ([x.2.2.2.1] ++ x.2.2.2.2.2.2.1) (by simp; omega), L x.2.2.2.2.2.2.1 (by omega), L ([x.2.2.1] ++ [x.2.2.2.1]) (by simp), L [x.2.2.1] (by simp), L [x.2.2.2.1] (by simp), iteB_true]
    cases bit (hasT x.1) 2 <;> cases bit (hasT x.1) 4 <;> cases bit (hasT x.1) 32 <;> simp [iteB_true, iteB_false]

/-! Places, labels, units. -/
theorem guard_or {α : Type} (b z : Bool) (X : Option α) (y : Option α) : iteB (!b) (iteB z X y) X = iteB (b || z) X y := by cases b <;> cases z <;> rfl
theorem guard_or2 {α : Type} (b z : Bool) (X : Option α) (y : Option α) : iteB (!b) (iteB (!z) y X) X = iteB (b || z) X y := by cases b <;> cases z <;> rfl
theorem guard_or3 (b z : Bool) : iteB (!b) (some z) (some true) = some (b || z) := by cases b <;> rfl
theorem nne (a b : Int) : (!(a != b)) = (a == b) := by simp [bne]
def within (n r : Int) : Bool := decide (0 ≤ r ∧ r ≤ IntKind.wrap .i64 (n - 1))
def regsV (x : TT) (n : Int) : Bool := (setsV x ++ usesV x).all (within n)
theorem regs_len (x : TT) (hl : x.args.length ≤ 1048576) : (setsV x ++ usesV x).length ≤ 1048580 := by
  have h1 : (setsV x).length ≤ 2 := by unfold setsV; cases bit (hasT x.1) 1 <;> cases x.1 == 19 <;> simp
  have h2 : (usesV x).length ≤ 2 + x.args.length := by
    have := sel_len x.1 x.args x.args.length 0
    unfold usesV
    cases bit (hasT x.1) 2 <;> cases (bit (hasT x.1) 4 && x.1 != 19) <;> cases bit (hasT x.1) 32 <;> simp <;> omega
  rw [List.length_append]; omega
theorem spec_regs (x : TT) (n : Int) (hl : x.args.length ≤ 1048576) : Ev fun k => spec_l10Regs k x n = some (regsV x n) := by
  have hn := regs_len x hl
  have R := all_rounds (setsV x ++ usesV x) 0 (f := fun k r => spec_l1In k r 0 (IntKind.wrap .i64 (n - 1))) (p := within n) (L := fun k m i => spec_l10Regs.l3 k m n i (setsV x ++ usesV x)) (e := fun _ => some true) (fun y _ => Ev.of fun k => spec_in k y 0 _) (Ev.of fun _ => rfl) (fun k m i h0 h1 => by
      show spec_l10Regs.l3 k (m + 1) n i _ = _
      rw [spec_l10Regs.l3_s, iteB_pos h1, iteB_pos h0, iteB_pos h1, next_i h0 h1 (by omega)]) (fun k m i h => by
      show spec_l10Regs.l3 k (m + 1) n i _ = _
      rw [spec_l10Regs.l3_s, iteB_neg (by omega)])
  refine (R.and ((spec_sets x).and (spec_uses x hl))).mono fun k h => ?_
  obtain ⟨h1, h2, h3⟩ := h
  rw [spec_l10Regs_e, h2, bindO_some, h3, bindO_some, iteB_pos (lim_ok (by omega)), h1]
  simp [regsV]
theorem impl_regs (x : TT) (n : Int) (hl : x.args.length ≤ 1048576) : Ev fun k => impl_tacOk.j5 k x n = some (regsV x n) := by
  have hn := regs_len x hl
  have R := index_rounds (setsV x ++ usesV x) 0 (f := fun k r => impl_tacOk_1_vbp k r n) (p := fun r => !within n r) (L := fun k m i => slices_IndexFunc_int__impl_tacOk_1.l2 k m (setsV x ++ usesV x) n ((setsV x ++ usesV x).length : Int) i) (fun y _ => Ev.of fun k => by rw [impl_tacOk_1_vbp_e, impl_in, bindO_some]; rfl) (fun k m i h0 h1 => by
      show slices_IndexFunc_int__impl_tacOk_1.l2 k (m + 1) _ n _ i = _
      rw [slices_IndexFunc_int__impl_tacOk_1.l2_s, iteB_pos h1, iteB_pos h0, iteB_pos h1, next_i h0 h1 (by omega)]) (fun k m i h => by
      show slices_IndexFunc_int__impl_tacOk_1.l2 k (m + 1) _ n _ i = _
      rw [slices_IndexFunc_int__impl_tacOk_1.l2_s, iteB_neg (by omega)])
  refine (R.and ((impl_sets x).and (impl_uses x hl))).mono fun k h => ?_
  obtain ⟨h1, h2, h3⟩ := h
  rw [impl_tacOk.j5_e, h2, bindO_some, h3, bindO_some, iteB_pos (lim_ok (by omega)), slices_ContainsFunc_int__impl_tacOk_1_e, slices_IndexFunc_int__impl_tacOk_1_e, h1, bindO_some, bindO_some, firstOf_any _ _ 0 (by omega), any_not, Bool.not_not]
  rfl
def zeroV (x : TT) : Bool := (bit (hasT x.1) 1 || x.2.1 == 0) && ((bit (hasT x.1) 2 || x.2.2.1 == 0) && ((bit (hasT x.1) 4 || x.2.2.2.1 == 0) && ((bit (hasT x.1) 8 || x.2.2.2.2.1 == 0) && (bit (hasT x.1) 16 || (ByteArray.toList x.2.2.2.2.2.1 == ByteArray.toList (⟨#[]⟩ : ByteArray))))))
theorem ite_and {b c : Bool} : iteB b (some c) (some false) = some (b && c) := by cases b <;> rfl
theorem spec_zero (k : Nat) (x : TT) : spec_l10Place.j6 k (hasT x.1) x = some (zeroV x) := by
  rw [spec_l10Place.j6_e]
  simp only [guard_or3]
  simp only [guard_or]
  simp only [ite_and]
  rfl
def placeV (x : TT) (n : Int) : Bool := decide (1 ≤ x.1 ∧ x.1 ≤ 28) && (argV x && (regsV x n && ((bif x.1 == 19 then decide (0 ≤ x.2.2.2.2.1 ∧ x.2.2.2.2.1 ≤ 1) else true) && (wok x.2.2.2.2.1 && zeroV x))))
theorem spec_place (x : TT) (n : Int) (hl : x.args.length ≤ 1048576) : Ev fun k => spec_l10Place k x n = some (placeV x n) := by
  refine ((spec_args x hl).and ((spec_regs x n hl).and (Ev.gt 0))).mono fun k h => ?_
  obtain ⟨h1, h2, h0⟩ := h
  rw [spec_l10Place_e, spec_has, bindO_some, spec_in, bindO_some, h1, bindO_some, h2, bindO_some, gate_pos h0, spec_l10Place.j4_e, gate_pos h0, spec_zero]
  simp only [spec_in, spec_wok, bindO_some]
  unfold placeV
  generalize decide (1 ≤ x.1 ∧ x.1 ≤ 28) = A
  generalize argV x = B
  generalize regsV x n = C
  generalize decide (0 ≤ x.2.2.2.2.1 ∧ x.2.2.2.2.1 ≤ 1) = D
  generalize wok x.2.2.2.2.1 = F
  generalize zeroV x = G
  generalize (x.1 == 19) = H
  cases A <;> cases B <;> cases C <;> cases D <;> cases F <;> cases G <;> cases H <;> rfl
theorem impl_place (x : TT) (n : Int) (hl : x.args.length ≤ 1048576) : Ev fun k => impl_tacOk k x n = some (placeV x n) := by
  obtain ⟨L, hL⟩ := letters x.1
  refine (((own_d x.1).and ((own_a x.1).and (own_b x.1))).and (((own_n x.1).and (own_s x.1)).and ((impl_args x n hl).and ((impl_regs x n hl).and (Ev.gt 0))))).mono fun k h => ?_
  obtain ⟨⟨hd, ha, hb⟩, ⟨hn, hs⟩, h1, h2, h0⟩ := h
  have hz : impl_tacOk.j3 k x n = iteB (zeroV x) (some (regsV x n)) (some false) := by
    rw [impl_tacOk.j3_e]
    simp only [hd, ha, hb, hn, hs, bindO_some, gate_pos h0, h2, nne, guard_or, guard_or2]
    unfold zeroV
    generalize (bit (hasT x.1) 1 || x.2.1 == 0) = z1
    generalize (bit (hasT x.1) 2 || x.2.2.1 == 0) = z2
    generalize (bit (hasT x.1) 4 || x.2.2.2.1 == 0) = z3
    generalize (bit (hasT x.1) 8 || x.2.2.2.2.1 == 0) = z4
    generalize (bit (hasT x.1) 16 || (ByteArray.toList x.2.2.2.2.2.1 == ByteArray.toList (⟨#[]⟩ : ByteArray))) = z5
    cases z1 <;> cases z2 <;> cases z3 <;> cases z4 <;> cases z5 <;> rfl
  rw [impl_tacOk_e, hL.is, bindO_some, hL.some, impl_wok, bindO_some, h1, bindO_some, gate_pos h0, hz]
  unfold placeV
  generalize decide (1 ≤ x.1 ∧ x.1 ≤ 28) = A
  generalize argV x = B
  generalize regsV x n = C
  generalize decide (0 ≤ x.2.2.2.2.1 ∧ x.2.2.2.2.1 ≤ 1) = D
  generalize wok x.2.2.2.2.1 = F
  generalize zeroV x = G
  generalize (x.1 == 19) = H
  cases A <;> cases B <;> cases C <;> cases D <;> cases F <;> cases G <;> cases H <;> rfl
abbrev dT : TT := Ty.dflt (.pair (.int .i64) (.pair (.int .i64) (.pair (.int .i64) (.pair (.int .i64) (.pair (.int .i64) (.pair .str (.pair (.row (.int .i64)) .unit)))))))
def isLab (n : Int) (t : TT) : Bool := bif t.1 == 8 then t.2.2.2.2.1 == n else false
theorem spec_label (l : List TT) (n : Int) (hl : l.length ≤ 1048576) : Ev fun k => spec_l10Label k l n = some (firstOf (isLab n) l 0) := by
  refine (index_rounds l dT (f := fun _ t => some (isLab n t)) (p := isLab n) (L := fun k m i => spec_l10Label.l2 k m l n i) (fun _ _ => Ev.of fun _ => rfl) (fun k m i h0 h1 => ?_) (fun k m i h => ?_)).mono fun k h => ?_
  · show spec_l10Label.l2 k (m + 1) l n i = _
    rw [spec_l10Label.l2_s, iteB_pos h1, iteB_pos h0, iteB_pos h1, iteB_pos h0, iteB_pos h1, next_i h0 h1 (by omega), bindO_some]
    unfold isLab
    show iteB ((l.getD i.toNat dT).1 == 8) (iteB ((l.getD i.toNat dT).2.2.2.2.1 == n) _ _) _ = _
    cases (l.getD i.toNat dT).1 == 8 <;> cases (l.getD i.toNat dT).2.2.2.2.1 == n <;> rfl
  · show spec_l10Label.l2 k (m + 1) l n i = _
    rw [spec_l10Label.l2_s, iteB_neg (by omega)]
  · rw [spec_l10Label_e]; exact h
theorem impl_label (l : List TT) (n : Int) (hl : l.length ≤ 1048576) : Ev fun k => impl_labelAt k l n = some (firstOf (isLab n) l 0) := by
  refine (index_rounds l dT (f := fun k t => impl_labelAt_1_vbp k t n) (p := isLab n) (L := fun k m i => slices_IndexFunc_impl_Tac__impl_labelAt_1.l2 k m l n (l.length : Int) i) (fun t _ => Ev.of fun k => ?_) (fun k m i h0 h1 => ?_) (fun k m i h => ?_)).mono fun k h => ?_
  · rw [impl_labelAt_1_vbp_e, iteB_ss]; rfl
  · show slices_IndexFunc_impl_Tac__impl_labelAt_1.l2 k (m + 1) l n _ i = _
    rw [slices_IndexFunc_impl_Tac__impl_labelAt_1.l2_s, iteB_pos h1, iteB_pos h0, iteB_pos h1, next_i h0 h1 (by omega)]
  · show slices_IndexFunc_impl_Tac__impl_labelAt_1.l2 k (m + 1) l n _ i = _
    rw [slices_IndexFunc_impl_Tac__impl_labelAt_1.l2_s, iteB_neg (by omega)]
  · rw [impl_labelAt_e, slices_IndexFunc_impl_Tac__impl_labelAt_1_e, h, bindO_some]
/-- All of a row, by place. -/
def allI {α : Type} (p : Int → α → Bool) : List α → Int → Bool
  | [], _ => true
  | x :: r, i => p i x && allI p r (i + 1)
theorem all_idx {α : Type} (xs : List α) (d : α) {F : Nat → α → Prop} {p : Int → α → Bool} {L : Nat → Nat → Int → Option Bool} {e : Nat → Option Bool} {b : Bool} (hF : ∀ x ∈ xs, Ev fun k => F k x) (he : Ev fun k => e k = some b)
    (hL : ∀ k n i, (∀ x ∈ xs, F k x) → 0 ≤ i → i < (xs.length : Int) → L k (n + 1) i = iteB (p i (xs.getD i.toNat d)) (L k n (i + 1)) (some false))
    (hE : ∀ k n i, (xs.length : Int) ≤ i → L k (n + 1) i = e k) : Ev fun k => L k k 0 = some (allI p xs 0 && b) := by
  refine ((Ev.all hF).and he).two (Ev.gt xs.length) fun k h1 h2 => ?_
  have key : ∀ (m : Nat) (i : Int) (q : Nat), 0 ≤ i → (xs.length : Int) - i = m → m < q → L k q i = some (allI p (xs.drop i.toNat) i && b) := by
    intro m
    induction m with
    | zero =>
      intro i q hi hm hq
      obtain ⟨q, rfl⟩ : ∃ p, q = p + 1 := ⟨q - 1, by omega⟩
      rw [hE k q i (by omega), h1.2, List.drop_eq_nil_of_le (by omega)]; rfl
    | succ m ih =>
      intro i q hi hm hq
      obtain ⟨q, rfl⟩ : ∃ p, q = p + 1 := ⟨q - 1, by omega⟩
      have hlt : i < (xs.length : Int) := by omega
      rw [hL k q i h1.1 hi hlt, ih (i + 1) q (by omega) (by omega) (by omega), drop_at xs d i hi hlt]
      show _ = some (p i (xs.getD i.toNat d) && allI p (xs.drop (i + 1).toNat) (i + 1) && b)
      cases p i (xs.getD i.toNat d) <;> rfl
  have := key xs.length 0 k (by omega) (by omega) h2
  simpa using this
abbrev TU : Type := ByteArray × Int × Int × (List TT) × Unit
def stepV (u : TU) (i : Int) (t : TT) : Bool :=
  placeV t u.2.2.1 && ((bif t.1 == 8 then (firstOf (isLab t.2.2.2.2.1) u.2.2.2.1 0 == i) && decide (0 ≤ t.2.2.2.2.1 ∧ t.2.2.2.2.1 ≤ 900) else true) && (bif t.1 == 9 || t.1 == 10 then !(decide (firstOf (isLab t.2.2.2.2.1) u.2.2.2.1 0 < 0)) else true))
def endV (op : Int) : Bool := op == 12 || (op == 9 || op == 28)
def lastOp (u : TU) : Int := (List.getD u.2.2.2.1 (IntKind.wrap .i64 ((u.2.2.2.1.length : Int) - 1)).toNat dT).1
theorem spec_code (u : TU) (h1 : 1 ≤ u.2.2.2.1.length) (h2 : u.2.2.2.1.length ≤ 1048576) (hx : ∀ t ∈ u.2.2.2.1, (TT.args t).length ≤ 1048576) : Ev fun k => spec_UnitOk.l5 k k (u.2.2.2.1.length : Int) 0 u = some (allI (stepV u) u.2.2.2.1 0 && endV (lastOp u)) := by
  refine all_idx u.2.2.2.1 dT (F := fun k t => spec_l10Place k t u.2.2.1 = some (placeV t u.2.2.1) ∧ spec_l10Label k u.2.2.2.1 t.2.2.2.2.1 = some (firstOf (isLab t.2.2.2.2.1) u.2.2.2.1 0)) (L := fun k n i => spec_UnitOk.l5 k n (u.2.2.2.1.length : Int) i u) (e := fun _ => some (endV (lastOp u))) (fun t m => (spec_place t u.2.2.1 (hx t m)).and (spec_label u.2.2.2.1 t.2.2.2.2.1 h2)) (Ev.of fun _ => rfl) (fun k n i hF g0 g1 => ?_) (fun k n i hi => ?_)
  · show spec_UnitOk.l5 k (n + 1) _ i u = _
    obtain ⟨f1, f2⟩ := hF _ (getD_mem u.2.2.2.1 dT g0 g1)
    rw [spec_UnitOk.l5_s, iteB_pos g1, iteB_pos g0, iteB_pos g1, next_i g0 g1 (by omega)]
    show bindO (spec_l10Place k (u.2.2.2.1.getD i.toNat dT) u.2.2.1) _ = _
    rw [f1, bindO_some]
    show iteB _ _ (bindO (spec_l10Label k u.2.2.2.1 (u.2.2.2.1.getD i.toNat dT).2.2.2.2.1) fun r6 => iteB ((u.2.2.2.1.getD i.toNat dT).1 == 8) (iteB (!(r6 != i)) (bindO (spec_l1In k (u.2.2.2.1.getD i.toNat dT).2.2.2.2.1 0 900) fun r7 => iteB (!(!r7)) (iteB (!((u.2.2.2.1.getD i.toNat dT).1 == 9)) (iteB ((u.2.2.2.1.getD i.toNat dT).1 == 10) _ _) _) _) _) (iteB (!((u.2.2.2.1.getD i.toNat dT).1 == 9)) (iteB ((u.2.2.2.1.getD i.toNat dT).1 == 10) _ _) _)) = _
    rw [f2, bindO_some, nne, spec_in, bindO_some]
    unfold stepV
    generalize placeV (u.2.2.2.1.getD i.toNat dT) u.2.2.1 = A
    generalize firstOf (isLab (u.2.2.2.1.getD i.toNat dT).2.2.2.2.1) u.2.2.2.1 0 = f
    generalize decide (0 ≤ (u.2.2.2.1.getD i.toNat dT).2.2.2.2.1 ∧ (u.2.2.2.1.getD i.toNat dT).2.2.2.2.1 ≤ 900) = B
    generalize ((u.2.2.2.1.getD i.toNat dT).1 == 8) = C
    generalize ((u.2.2.2.1.getD i.toNat dT).1 == 9) = D
    generalize ((u.2.2.2.1.getD i.toNat dT).1 == 10) = E
    generalize (f == i) = G
    generalize decide (f < 0) = H
    cases A <;> cases B <;> cases C <;> cases D <;> cases E <;> cases G <;> cases H <;> rfl
  · show spec_UnitOk.l5 k (n + 1) _ i u = _
    have w : IntKind.wrap .i64 ((u.2.2.2.1.length : Int) - 1) = (u.2.2.2.1.length : Int) - 1 := wrap_id (by omega) (by omega)
    rw [spec_UnitOk.l5_s, iteB_neg (by omega), iteB_pos (by rw [w]; omega), iteB_pos (by rw [w]; omega)]
    unfold endV
    show iteB (!(lastOp u == 12)) (iteB (!(lastOp u == 9)) (some (lastOp u == 28)) (some true)) (some true) = _
    cases (lastOp u == 12) <;> cases (lastOp u == 9) <;> rfl
theorem impl_ends_v (k : Nat) (op : Int) : impl_ends k op = some (endV op) := by
  rw [impl_ends_e]
  unfold endV
  cases (op == 12) <;> cases (op == 9) <;> rfl
theorem impl_code (u : TU) (h1 : 1 ≤ u.2.2.2.1.length) (h2 : u.2.2.2.1.length ≤ 1048576) (hx : ∀ t ∈ u.2.2.2.1, (TT.args t).length ≤ 1048576) : Ev fun k => impl_UnitOk.l4 k k u.2.2.2.1 (u.2.2.2.1.length : Int) 0 u = some (allI (stepV u) u.2.2.2.1 0 && endV (lastOp u)) := by
  refine all_idx u.2.2.2.1 dT (F := fun k t => impl_tacOk k t u.2.2.1 = some (placeV t u.2.2.1) ∧ impl_labelAt k u.2.2.2.1 t.2.2.2.2.1 = some (firstOf (isLab t.2.2.2.2.1) u.2.2.2.1 0)) (L := fun k n i => impl_UnitOk.l4 k n u.2.2.2.1 (u.2.2.2.1.length : Int) i u) (e := fun _ => some (endV (lastOp u))) (fun t m => (impl_place t u.2.2.1 (hx t m)).and (impl_label u.2.2.2.1 t.2.2.2.2.1 h2)) (Ev.of fun _ => rfl) (fun k n i hF g0 g1 => ?_) (fun k n i hi => ?_)
  · show impl_UnitOk.l4 k (n + 1) _ _ i u = _
    obtain ⟨f1, f2⟩ := hF _ (getD_mem u.2.2.2.1 dT g0 g1)
    rw [impl_UnitOk.l4_s, iteB_pos g1, iteB_pos g0, iteB_pos g1, next_i g0 g1 (by omega)]
    show bindO (impl_tacOk k (u.2.2.2.1.getD i.toNat dT) u.2.2.1) _ = _
    rw [f1, bindO_some]
    have f2' : impl_labelAt k u.2.2.2.1 (List.getD u.2.2.2.1 i.toNat dT).2.2.2.2.1 = _ := f2
    simp only [impl_in, f2', bindO_some]
    unfold stepV
    show iteB _ _ (iteB ((u.2.2.2.1.getD i.toNat dT).1 == 8) (iteB _ (iteB _ _ (iteB (!((u.2.2.2.1.getD i.toNat dT).1 == 9)) (iteB ((u.2.2.2.1.getD i.toNat dT).1 == 10) _ _) _)) _) (iteB (!((u.2.2.2.1.getD i.toNat dT).1 == 9)) (iteB ((u.2.2.2.1.getD i.toNat dT).1 == 10) _ _) _)) = _
    generalize placeV (u.2.2.2.1.getD i.toNat dT) u.2.2.1 = A
    generalize firstOf (isLab (u.2.2.2.1.getD i.toNat dT).2.2.2.2.1) u.2.2.2.1 0 = f
    generalize decide (0 ≤ (u.2.2.2.1.getD i.toNat dT).2.2.2.2.1 ∧ (u.2.2.2.1.getD i.toNat dT).2.2.2.2.1 ≤ 900) = B
    generalize ((u.2.2.2.1.getD i.toNat dT).1 == 8) = C
    generalize ((u.2.2.2.1.getD i.toNat dT).1 == 9) = D
    generalize ((u.2.2.2.1.getD i.toNat dT).1 == 10) = E
    have hb : (f != i) = !(f == i) := rfl
    rw [hb]
    generalize (f == i) = G
    generalize decide (f < 0) = H
    cases A <;> cases B <;> cases C <;> cases D <;> cases E <;> cases G <;> cases H <;> rfl
  · show impl_UnitOk.l4 k (n + 1) _ _ i u = _
    have w : IntKind.wrap .i64 ((u.2.2.2.1.length : Int) - 1) = (u.2.2.2.1.length : Int) - 1 := wrap_id (by omega) (by omega)
    rw [impl_UnitOk.l4_s, iteB_neg (by omega), iteB_pos (by rw [w]; omega), iteB_pos (by rw [w]; omega), impl_ends_v, bindO_some]
    rfl
def unitV (u : TU) : Bool := decide (0 ≤ u.2.2.1 ∧ u.2.2.1 ≤ 250) && (decide (0 ≤ u.2.1 ∧ u.2.1 ≤ mn 4 u.2.2.1) && (decide (1 ≤ (u.2.2.2.1.length : Int) ∧ (u.2.2.2.1.length : Int) ≤ 900) && (allI (stepV u) u.2.2.2.1 0 && endV (lastOp u))))
theorem spec_unit (u : TU) (h2 : u.2.2.2.1.length ≤ 1048576) (hx : ∀ t ∈ u.2.2.2.1, (TT.args t).length ≤ 1048576) : Ev fun k => spec_UnitOk k u = some (unitV u) := by
  have hm : ∀ k, spec_l1Min k 4 u.2.2.1 = some (mn 4 u.2.2.1) := fun k => by
    rw [spec_l1Min_e, iteB_ss]
    unfold mn
    by_cases c : 4 < u.2.2.1
    · rw [decide_eq_true c, decide_eq_false (by omega)]; rfl
    · rw [decide_eq_false c]
      by_cases c2 : u.2.2.1 < 4
      · rw [decide_eq_true c2]; rfl
      · rw [decide_eq_false c2]; simp; omega
  by_cases c : 1 ≤ (u.2.2.2.1.length : Int) ∧ (u.2.2.2.1.length : Int) ≤ 900
  · refine ((spec_code u (by omega) h2 hx).and (Ev.gt 0)).mono fun k h => ?_
    rw [spec_UnitOk_e, gate_pos h.2, spec_UnitOk.j4_e, h.1]
    simp only [spec_in, hm, bindO_some, iteB_ss]
    unfold unitV
    congr 1
    generalize decide (0 ≤ u.2.2.1 ∧ u.2.2.1 ≤ 250) = A
    generalize decide (0 ≤ u.2.1 ∧ u.2.1 ≤ mn 4 u.2.2.1) = B
    generalize decide (1 ≤ (u.2.2.2.1.length : Int) ∧ (u.2.2.2.1.length : Int) ≤ 900) = C
    cases A <;> cases B <;> cases C <;> rfl
  · refine Ev.of fun k => ?_
    rw [spec_UnitOk_e]
    simp only [spec_in, hm, bindO_some]
    unfold unitV
    rw [decide_eq_false c]
    cases decide (0 ≤ u.2.2.1 ∧ u.2.2.1 ≤ 250) <;> cases decide (0 ≤ u.2.1 ∧ u.2.1 ≤ mn 4 u.2.2.1) <;> rfl
theorem impl_unit (u : TU) (h2 : u.2.2.2.1.length ≤ 1048576) (hx : ∀ t ∈ u.2.2.2.1, (TT.args t).length ≤ 1048576) : Ev fun k => impl_UnitOk k u = some (unitV u) := by
  by_cases c : 1 ≤ (u.2.2.2.1.length : Int) ∧ (u.2.2.2.1.length : Int) ≤ 900
  · refine ((impl_code u (by omega) h2 hx).and (Ev.gt 0)).mono fun k h => ?_
    rw [impl_UnitOk_e, gate_pos h.2, impl_UnitOk.j3_e, h.1]
    simp only [impl_in, bindO_some, iteB_ss]
    unfold unitV
    congr 1
    generalize decide (0 ≤ u.2.2.1 ∧ u.2.2.1 ≤ 250) = A
    generalize decide (0 ≤ u.2.1 ∧ u.2.1 ≤ mn 4 u.2.2.1) = B
    generalize decide (1 ≤ (u.2.2.2.1.length : Int) ∧ (u.2.2.2.1.length : Int) ≤ 900) = C
    cases A <;> cases B <;> cases C <;> rfl
  · refine Ev.of fun k => ?_
    rw [impl_UnitOk_e]
    simp only [impl_in, bindO_some]
    unfold unitV
    rw [decide_eq_false c]
    cases decide (0 ≤ u.2.2.1 ∧ u.2.2.1 ≤ 250) <;> cases decide (0 ≤ u.2.1 ∧ u.2.1 ≤ mn 4 u.2.2.1) <;> rfl

theorem sn_1 : bit (hasT 1) 16 = false := by kernel_rfl
theorem sn_2 : bit (hasT 2) 16 = false := by kernel_rfl
theorem sn_3 : bit (hasT 3) 16 = false := by kernel_rfl
theorem sn_4 : bit (hasT 4) 16 = false := by kernel_rfl
theorem sn_5 : bit (hasT 5) 16 = false := by kernel_rfl
theorem sn_6 : bit (hasT 6) 16 = false := by kernel_rfl
theorem sn_7 : bit (hasT 7) 16 = false := by kernel_rfl
theorem sn_8 : bit (hasT 8) 16 = false := by kernel_rfl
theorem sn_9 : bit (hasT 9) 16 = false := by kernel_rfl
theorem sn_10 : bit (hasT 10) 16 = false := by kernel_rfl
theorem sn_11 : bit (hasT 11) 16 = true := by kernel_rfl
theorem sn_12 : bit (hasT 12) 16 = false := by kernel_rfl
theorem sn_13 : bit (hasT 13) 16 = false := by kernel_rfl
theorem sn_14 : bit (hasT 14) 16 = true := by kernel_rfl
theorem sn_15 : bit (hasT 15) 16 = false := by kernel_rfl
theorem sn_16 : bit (hasT 16) 16 = false := by kernel_rfl
theorem sn_17 : bit (hasT 17) 16 = false := by kernel_rfl
theorem sn_18 : bit (hasT 18) 16 = false := by kernel_rfl
theorem sn_19 : bit (hasT 19) 16 = false := by kernel_rfl
theorem sn_20 : bit (hasT 20) 16 = false := by kernel_rfl
theorem sn_21 : bit (hasT 21) 16 = false := by kernel_rfl
theorem sn_22 : bit (hasT 22) 16 = false := by kernel_rfl
theorem sn_23 : bit (hasT 23) 16 = false := by kernel_rfl
theorem sn_24 : bit (hasT 24) 16 = true := by kernel_rfl
theorem sn_25 : bit (hasT 25) 16 = false := by kernel_rfl
theorem sn_26 : bit (hasT 26) 16 = false := by kernel_rfl
theorem sn_27 : bit (hasT 27) 16 = false := by kernel_rfl
theorem sn_28 : bit (hasT 28) 16 = false := by kernel_rfl
theorem s_bits (op : Int) : bit (hasT op) 16 = (op == 11 || (op == 14 || op == 24)) := by
  have h : op = 1 ∨ op = 2 ∨ op = 3 ∨ op = 4 ∨ op = 5 ∨ op = 6 ∨ op = 7 ∨ op = 8 ∨ op = 9 ∨ op = 10 ∨ op = 11 ∨ op = 12 ∨ op = 13 ∨ op = 14 ∨ op = 15 ∨ op = 16 ∨ op = 17 ∨ op = 18 ∨ op = 19 ∨ op = 20 ∨ op = 21 ∨ op = 22 ∨ op = 23 ∨ op = 24 ∨ op = 25 ∨ op = 26 ∨ op = 27 ∨ op = 28 ∨ (op < 1 ∨ 28 < op) := by omega
  rcases h with h | h | h | h | h | h | h | h | h | h | h | h | h | h | h | h | h | h | h | h | h | h | h | h | h | h | h | h | h
  · subst h; exact sn_1
  · subst h; exact sn_2
  · subst h; exact sn_3
  · subst h; exact sn_4
  · subst h; exact sn_5
  · subst h; exact sn_6
  · subst h; exact sn_7
  · subst h; exact sn_8
  · subst h; exact sn_9
  · subst h; exact sn_10
  · subst h; exact sn_11
  · subst h; exact sn_12
  · subst h; exact sn_13
  · subst h; exact sn_14
  · subst h; exact sn_15
  · subst h; exact sn_16
  · subst h; exact sn_17
  · subst h; exact sn_18
  · subst h; exact sn_19
  · subst h; exact sn_20
  · subst h; exact sn_21
  · subst h; exact sn_22
  · subst h; exact sn_23
  · subst h; exact sn_24
  · subst h; exact sn_25
  · subst h; exact sn_26
  · subst h; exact sn_27
  · subst h; exact sn_28
  · rw [bits_no op h 16 (by simp)]
    have a : (op == 11) = false := by simp; omega
    have b : (op == 14) = false := by simp; omega
    have c : (op == 24) = false := by simp; omega
    rw [a, b, c]; rfl

/-! Units. -/
theorem index_at {α : Type} (xs : List α) (d : α) {p : α → Bool} (k : Nat) {L : Nat → Int → Option Int} (hk : xs.length < k)
    (hL : ∀ n i, 0 ≤ i → i < (xs.length : Int) → L (n + 1) i = iteB (p (xs.getD i.toNat d)) (some i) (L n (i + 1)))
    (hE : ∀ n i, (xs.length : Int) ≤ i → L (n + 1) i = some (-1)) : L k 0 = some (firstOf p xs 0) := by
  rw [loop_all xs d (fun n i => L n i) (fun i x r => bif p x then some i else r) (some (-1)) (fun n i g0 g1 => by
    show L (n + 1) i = _
    rw [hL n i g0 g1]
    cases p (xs.getD i.toNat d) <;> rfl) (fun n i g => hE n i g) k hk, run_firstOf]
theorem firstOf_bd {α : Type} (p : α → Bool) : ∀ (xs : List α) (i : Int), 0 ≤ i → (0 ≤ firstOf p xs i → firstOf p xs i < i + xs.length)
  | [], i, h => fun h2 => by unfold firstOf at h2; omega
  | x :: r, i, h => fun h2 => by
    unfold firstOf at h2 ⊢
    cases hp : p x
    · rw [hp] at h2
      have := firstOf_bd p r (i + 1) (by omega) h2
      simp only [cond_false, List.length_cons]
      omega
    · simp; omega
abbrev dU : TU := Ty.dflt (.pair .str (.pair (.int .i64) (.pair (.int .i64) (.pair (.row (.pair (.int .i64) (.pair (.int .i64) (.pair (.int .i64) (.pair (.int .i64) (.pair (.int .i64) (.pair .str (.pair (.row (.int .i64)) .unit)))))))) .unit))))
def named (s : ByteArray) (u : TU) : Bool := ByteArray.toList u.1 == ByteArray.toList s
def atV (l : List TU) (s : ByteArray) : Int := firstOf (named s) l 0
theorem spec_at (l : List TU) (s : ByteArray) (hl : l.length ≤ 1048576) (k : Nat) (hk : l.length < k) : spec_l10Unit k l s = some (atV l s) := by
  rw [spec_l10Unit_e]
  exact index_at l dU k (L := fun n i => spec_l10Unit.l2 k n l s i) hk (fun n i h0 h1 => by
    show spec_l10Unit.l2 k (n + 1) l s i = _
    rw [spec_l10Unit.l2_s, iteB_pos h1, iteB_pos h0, iteB_pos h1, next_i h0 h1 (by omega)]; rfl) (fun n i h => by
    show spec_l10Unit.l2 k (n + 1) l s i = _
    rw [spec_l10Unit.l2_s, iteB_neg (by omega)])
theorem impl_at (l : List TU) (s : ByteArray) (hl : l.length ≤ 1048576) (k : Nat) (hk : l.length < k) : impl_unitAt k l s = some (atV l s) := by
  rw [impl_unitAt_e, slices_IndexFunc_impl_Unit__impl_unitAt_1_e, index_at l dU k (p := named s) (L := fun n i => slices_IndexFunc_impl_Unit__impl_unitAt_1.l2 k n l s (l.length : Int) i) hk (fun n i h0 h1 => by
    show slices_IndexFunc_impl_Unit__impl_unitAt_1.l2 k (n + 1) l s _ i = _
    rw [slices_IndexFunc_impl_Unit__impl_unitAt_1.l2_s, iteB_pos h1, iteB_pos h0, iteB_pos h1, next_i h0 h1 (by omega), impl_unitAt_1_vbp_e, bindO_some]; rfl) (fun n i h => by
    show slices_IndexFunc_impl_Unit__impl_unitAt_1.l2 k (n + 1) l s _ i = _
    rw [slices_IndexFunc_impl_Unit__impl_unitAt_1.l2_s, iteB_neg (by omega)]), bindO_some]
  rfl
def callV (l : List TU) (t : TT) : Bool := !(decide (atV l t.2.2.2.2.2.1 < 0)) && (bif t.1 != 24 then (l.getD (atV l t.2.2.2.2.2.1).toNat dU).2.1 == (t.args.length : Int) else true)
def innerV (l : List TU) (t : TT) : Bool := bif bit (hasT t.1) 16 then callV l t else true
/-- One round inside. -/
theorem spec_in_round (l : List TU) (hl : l.length ≤ 1048576) (k m2 : Nat) (hk : l.length < k) (x3 : Int) (u : TU) (hu : u.2.2.2.1.length ≤ 1048576) (n : Nat) (i : Int) (h0 : 0 ≤ i) (h1 : i < (u.2.2.2.1.length : Int)) :
    spec_UnitsOk.l8 k m2 (n + 1) l x3 i u = iteB (innerV l (u.2.2.2.1.getD i.toNat dT)) (spec_UnitsOk.l8 k m2 n l x3 (i + 1) u) (some false) := by
  have hj : spec_UnitsOk.j12 k m2 n l x3 i u (u.2.2.2.1.getD i.toNat dT) = iteB (callV l (u.2.2.2.1.getD i.toNat dT)) (spec_UnitsOk.l8 k m2 n l x3 (i + 1) u) (some false) := by
    rw [spec_UnitsOk.j12_e, spec_at l _ hl k hk, bindO_some, next_i h0 h1 (by omega)]
    unfold callV
    have bd := firstOf_bd (named (u.2.2.2.1.getD i.toNat dT).2.2.2.2.2.1) l 0 (by omega)
    by_cases c : atV l (u.2.2.2.1.getD i.toNat dT).2.2.2.2.2.1 < 0
    · rw [decide_eq_true c]; rfl
    · have c2 : 0 ≤ atV l (u.2.2.2.1.getD i.toNat dT).2.2.2.2.2.1 := by omega
      have c3 : atV l (u.2.2.2.1.getD i.toNat dT).2.2.2.2.2.1 < (l.length : Int) := by have := bd c2; unfold atV; omega
      rw [decide_eq_false c, Bool.not_false, iteB_true, iteB_pos c2, iteB_pos c3]
      show iteB ((u.2.2.2.1.getD i.toNat dT).1 != 24) (iteB ((l.getD (atV l (u.2.2.2.1.getD i.toNat dT).2.2.2.2.2.1).toNat dU).2.1 != ((u.2.2.2.1.getD i.toNat dT).args.length : Int)) _ _) _ = _
      have hb : ((l.getD (atV l (u.2.2.2.1.getD i.toNat dT).2.2.2.2.2.1).toNat dU).2.1 != ((u.2.2.2.1.getD i.toNat dT).args.length : Int)) = !((l.getD (atV l (u.2.2.2.1.getD i.toNat dT).2.2.2.2.2.1).toNat dU).2.1 == ((u.2.2.2.1.getD i.toNat dT).args.length : Int)) := rfl
      rw [hb]
      cases ((u.2.2.2.1.getD i.toNat dT).1 != 24) <;> cases ((l.getD (atV l (u.2.2.2.1.getD i.toNat dT).2.2.2.2.2.1).toNat dU).2.1 == ((u.2.2.2.1.getD i.toNat dT).args.length : Int)) <;> rfl
  rw [spec_UnitsOk.l8_s, iteB_pos h1, iteB_pos h0, iteB_pos h1, gate_pos (by omega), next_i h0 h1 (by omega)]
  show iteB ((u.2.2.2.1.getD i.toNat dT).1 != 11) (iteB ((u.2.2.2.1.getD i.toNat dT).1 != 14) (iteB ((u.2.2.2.1.getD i.toNat dT).1 != 24) _ (spec_UnitsOk.j12 k m2 n l x3 i u (u.2.2.2.1.getD i.toNat dT))) (spec_UnitsOk.j12 k m2 n l x3 i u (u.2.2.2.1.getD i.toNat dT))) (spec_UnitsOk.j12 k m2 n l x3 i u (u.2.2.2.1.getD i.toNat dT)) = _
  rw [hj]
  unfold innerV
  rw [s_bits]
  have b1 : ∀ c : Int, ((u.2.2.2.1.getD i.toNat dT).1 != c) = !((u.2.2.2.1.getD i.toNat dT).1 == c) := fun c => rfl
  rw [b1, b1, b1]
  cases ((u.2.2.2.1.getD i.toNat dT).1 == 11) <;> cases ((u.2.2.2.1.getD i.toNat dT).1 == 14) <;> cases ((u.2.2.2.1.getD i.toNat dT).1 == 24) <;> rfl
theorem impl_in_round (l : List TU) (hl : l.length ≤ 1048576) (k m2 : Nat) (hk : l.length < k) (x11 : List TU) (x12 x3 : Int) (c0 : List TT) (hu : c0.length ≤ 1048576) (hF : ∀ t ∈ c0, impl_owned k t.1 83 = some (bit (hasT t.1) 16)) (n : Nat) (i : Int) (h0 : 0 ≤ i) (h1 : i < (c0.length : Int)) :
    impl_UnitsOk.l9 k m2 (n + 1) l x11 x12 x3 c0 (c0.length : Int) i = iteB (innerV l (c0.getD i.toNat dT)) (impl_UnitsOk.l9 k m2 n l x11 x12 x3 c0 (c0.length : Int) (i + 1)) (some false) := by
  rw [impl_UnitsOk.l9_s, iteB_pos h1, iteB_pos h0, iteB_pos h1, next_i h0 h1 (by omega)]
  show bindO (impl_owned k (c0.getD i.toNat dT).1 83) _ = _
  rw [hF _ (getD_mem c0 dT h0 h1), bindO_some]
  unfold innerV
  cases hb : bit (hasT (c0.getD i.toNat dT).1) 16
  · rfl
  · rw [Bool.not_true, iteB_false, cond_true]
    show bindO (impl_unitAt k l (c0.getD i.toNat dT).2.2.2.2.2.1) _ = _
    rw [impl_at l _ hl k hk, bindO_some]
    unfold callV
    have bd := firstOf_bd (named (c0.getD i.toNat dT).2.2.2.2.2.1) l 0 (by omega)
    by_cases c : atV l (c0.getD i.toNat dT).2.2.2.2.2.1 < 0
    · rw [decide_eq_true c]; rfl
    · have c2 : 0 ≤ atV l (c0.getD i.toNat dT).2.2.2.2.2.1 := by omega
      have c3 : atV l (c0.getD i.toNat dT).2.2.2.2.2.1 < (l.length : Int) := by have := bd c2; unfold atV; omega
      rw [decide_eq_false c, Bool.not_false, iteB_true, iteB_pos c2, iteB_pos c3]
      show iteB ((c0.getD i.toNat dT).1 != 24) (iteB (((c0.getD i.toNat dT).args.length : Int) != (l.getD (atV l (c0.getD i.toNat dT).2.2.2.2.2.1).toNat dU).2.1) _ _) _ = _
      have hb : ((((c0.getD i.toNat dT).args.length : Int)) != (l.getD (atV l (c0.getD i.toNat dT).2.2.2.2.2.1).toNat dU).2.1) = !((l.getD (atV l (c0.getD i.toNat dT).2.2.2.2.2.1).toNat dU).2.1 == ((c0.getD i.toNat dT).args.length : Int)) := by
        rw [Bool.eq_iff_iff]; simp; constructor <;> intro h e <;> exact h e.symm
      rw [hb]
      cases ((c0.getD i.toNat dT).1 != 24) <;> cases ((l.getD (atV l (c0.getD i.toNat dT).2.2.2.2.2.1).toNat dU).2.1 == ((c0.getD i.toNat dT).args.length : Int)) <;> rfl
/-- The rounds inside, all of them. -/
theorem rounds_all {α : Type} (xs : List α) (d : α) {p : α → Bool} {L : Nat → Int → Option Bool} {e : Option Bool}
    (hL : ∀ n i, 0 ≤ i → i < (xs.length : Int) → L (n + 1) i = iteB (p (xs.getD i.toNat d)) (L n (i + 1)) (some false))
    (hE : ∀ n i, (xs.length : Int) ≤ i → L (n + 1) i = e) (k : Nat) (hk : xs.length < k) : L k 0 = iteB (xs.all p) e (some false) := by
  have key : ∀ (m : Nat) (i : Int) (q : Nat), 0 ≤ i → (xs.length : Int) - i = m → m < q → L q i = iteB ((xs.drop i.toNat).all p) e (some false) := by
    intro m
    induction m with
    | zero =>
      intro i q hi hm hq
      obtain ⟨q, rfl⟩ : ∃ p, q = p + 1 := ⟨q - 1, by omega⟩
      rw [hE q i (by omega), List.drop_eq_nil_of_le (by omega)]; rfl
    | succ m ih =>
      intro i q hi hm hq
      obtain ⟨q, rfl⟩ : ∃ p, q = p + 1 := ⟨q - 1, by omega⟩
      have hlt : i < (xs.length : Int) := by omega
      rw [hL q i hi hlt, ih (i + 1) q (by omega) (by omega) (by omega), drop_at xs d i hi hlt, List.all_cons]
      cases p (xs.getD i.toNat d) <;> rfl
  have := key xs.length 0 k (by omega) (by omega) hk
  simpa using this
def stepU (l : List TU) (i : Int) (u : TU) : Bool := unitV u && ((atV l u.1 == i) && u.2.2.2.1.all (innerV l))
structure FitU (u : TU) : Prop where
  a : u.2.2.2.1.length ≤ 1048576
  b : ∀ t ∈ u.2.2.2.1, (TT.args t).length ≤ 1048576
theorem spec_units (l : List TU) (hl : l.length ≤ 1048576) (hx : ∀ u ∈ l, FitU u) : Ev fun k => spec_UnitsOk k l = some (allI (stepU l) l 0 && decide ((l.length : Int) ≤ 80)) := by
  refine (all_idx l dU (F := fun k u => spec_UnitOk k u = some (unitV u) ∧ u.2.2.2.1.length < k ∧ l.length < k) (p := stepU l) (L := fun k n i => spec_UnitsOk.l2 k n l i) (e := fun _ => some (decide ((l.length : Int) ≤ 80))) (fun u m => (spec_unit u (hx u m).a (hx u m).b).and ((Ev.gt _).and (Ev.gt _))) (Ev.of fun _ => rfl) (fun k n i hF g0 g1 => ?_) (fun k n i hi => ?_)).mono fun k h => ?_
  · show spec_UnitsOk.l2 k (n + 1) l i = _
    have hm := getD_mem l dU g0 g1
    obtain ⟨f1, f2, f3⟩ := hF _ hm
    have in_all := rounds_all (l.getD i.toNat dU).2.2.2.1 dT (p := innerV l) (L := fun q j => spec_UnitsOk.l8 k n q l i j (l.getD i.toNat dU)) (e := spec_UnitsOk.l2 k n l (i + 1)) (fun q j h0 h1 => spec_in_round l hl k n f3 i (l.getD i.toNat dU) (hx _ hm).a q j h0 h1) (fun q j hj => by
      show spec_UnitsOk.l8 k n (q + 1) l i j _ = _
      rw [spec_UnitsOk.l8_s, iteB_neg (by omega), next_i g0 g1 (by omega)]) k f2
    rw [spec_UnitsOk.l2_s, iteB_pos g1, iteB_pos g0, iteB_pos g1]
    show bindO (spec_UnitOk k (l.getD i.toNat dU)) (fun r1 => iteB (!(!r1)) (bindO (spec_l10Unit k l (l.getD i.toNat dU).1) fun r2 => iteB (r2 != i) (some false) (gate k (spec_UnitsOk.j7 k n l i (l.getD i.toNat dU)))) (some false)) = _
    rw [f1, bindO_some, spec_at l _ hl k f3, bindO_some, gate_pos (by omega), spec_UnitsOk.j7_e, in_all]
    unfold stepU
    have hb : (atV l (l.getD i.toNat dU).1 != i) = !(atV l (l.getD i.toNat dU).1 == i) := rfl
    rw [hb]
    cases unitV (l.getD i.toNat dU) <;> cases (atV l (l.getD i.toNat dU).1 == i) <;> cases (l.getD i.toNat dU).2.2.2.1.all (innerV l) <;> rfl
  · show spec_UnitsOk.l2 k (n + 1) l i = _
    rw [spec_UnitsOk.l2_s, iteB_neg (by omega)]
  · rw [spec_UnitsOk_e]; exact h
theorem impl_units (l : List TU) (hl : l.length ≤ 1048576) (hx : ∀ u ∈ l, FitU u) : Ev fun k => impl_UnitsOk k l = some (allI (stepU l) l 0 && decide ((l.length : Int) ≤ 80)) := by
  refine (all_idx l dU (F := fun k u => impl_UnitOk k u = some (unitV u) ∧ (∀ t ∈ u.2.2.2.1, impl_owned k t.1 83 = some (bit (hasT t.1) 16)) ∧ u.2.2.2.1.length < k ∧ l.length < k) (p := stepU l) (L := fun k n i => impl_UnitsOk.l4 k n l l (l.length : Int) i) (e := fun _ => some true) (fun u m => (impl_unit u (hx u m).a (hx u m).b).and ((Ev.all fun t _ => own_s t.1).and ((Ev.gt _).and (Ev.gt _)))) (Ev.of fun _ => rfl) (fun k n i hF g0 g1 => ?_) (fun k n i hi => ?_)).mono fun k h => ?_
  · show impl_UnitsOk.l4 k (n + 1) l l _ i = _
    have hm := getD_mem l dU g0 g1
    obtain ⟨f1, f0, f2, f3⟩ := hF _ hm
    have in_all := rounds_all (l.getD i.toNat dU).2.2.2.1 dT (p := innerV l) (L := fun q j => impl_UnitsOk.l9 k n q l l (l.length : Int) i (l.getD i.toNat dU).2.2.2.1 ((l.getD i.toNat dU).2.2.2.1.length : Int) j) (e := impl_UnitsOk.l4 k n l l (l.length : Int) (i + 1)) (fun q j h0 h1 => impl_in_round l hl k n f3 l _ i _ (hx _ hm).a f0 q j h0 h1) (fun q j hj => by
      show impl_UnitsOk.l9 k n (q + 1) l l _ i _ _ j = _
      rw [impl_UnitsOk.l9_s, iteB_neg (by omega), next_i g0 g1 (by omega)]) k f2
    rw [impl_UnitsOk.l4_s, iteB_pos g1, iteB_pos g0, iteB_pos g1]
    show bindO (impl_UnitOk k (l.getD i.toNat dU)) (fun r1 => iteB (!(!r1)) (bindO (impl_unitAt k l (l.getD i.toNat dU).1) fun r2 => iteB (r2 != i) (some false) (gate k (impl_UnitsOk.j8 k n l l (l.length : Int) i (l.getD i.toNat dU)))) (some false)) = _
    rw [f1, bindO_some, impl_at l _ hl k f3, bindO_some, gate_pos (by omega), impl_UnitsOk.j8_e, in_all]
    unfold stepU
    have hb : (atV l (l.getD i.toNat dU).1 != i) = !(atV l (l.getD i.toNat dU).1 == i) := rfl
    rw [hb]
    cases unitV (l.getD i.toNat dU) <;> cases (atV l (l.getD i.toNat dU).1 == i) <;> cases (l.getD i.toNat dU).2.2.2.1.all (innerV l) <;> rfl
  · show impl_UnitsOk.l4 k (n + 1) l l _ i = _
    rw [impl_UnitsOk.l4_s, iteB_neg (by omega)]
  · have h' : impl_UnitsOk.l4 k k l l (l.length : Int) 0 = some (allI (stepU l) l 0 && true) := h
    rw [impl_UnitsOk_e, h', Bool.and_true]
    by_cases c : (l.length : Int) > 80
    · rw [iteB_pos c, decide_eq_false (by omega), Bool.and_false]
    · rw [iteB_neg c, decide_eq_true (by omega), Bool.and_true]

/-! The text of a mark. -/
theorem marks_l4 (k : Nat) : ∀ (m n : Nat) (x : Int) (t : ByteArray), 0 ≤ x → x ≤ 9223372036854775807 → x < 10 ^ m → m < n → t.size + m ≤ 1000 → ∃ u, laws_markText.l4 k n x t = some u
  | 0, n, x, t, h0, hb0, h1, h2, h3 => by
    obtain ⟨n, rfl⟩ : ∃ p, n = p + 1 := ⟨n - 1, by omega⟩
    have hx : x = 0 := by simp at h1; omega
    have hs : ByteArray.size (⟨#[109]⟩ : ByteArray) = 1 := rfl
    rw [laws_markText.l4_s, iteB_neg (by omega), hs, iteB_pos (by omega)]
    exact ⟨_, rfl⟩
  | m + 1, n, x, t, h0, hb0, h1, h2, h3 => by
    obtain ⟨n, rfl⟩ : ∃ p, n = p + 1 := ⟨n - 1, by omega⟩
    have hs : ByteArray.size (⟨#[109]⟩ : ByteArray) = 1 := rfl
    by_cases hx : x > 0
    · have hb : ∀ y : Int, ByteArray.size (bytesVal [y]) = 1 := fun y => rfl
      have hd : Int.tdiv x 10 = x / 10 := Int.tdiv_eq_ediv_of_nonneg h0
      rw [Int.pow_succ] at h1
      have hlt : x / 10 < 10 ^ m := by generalize (10 : Int) ^ m = P at h1; omega
      rw [laws_markText.l4_s, iteB_pos hx, hb, iteB_pos (by omega), hd, wrap_id (by omega) (by omega)]
      exact marks_l4 k m n (x / 10) _ (by omega) (by omega) hlt (by omega) (by rw [ByteArray.size_append, hb]; omega)
    · rw [laws_markText.l4_s, iteB_neg hx, hs, iteB_pos (by omega)]
      exact ⟨_, rfl⟩
theorem markText_ok : TextOk laws_markText := (Ev.gt 30).mono fun q hq kk h0 hM => by
  rw [laws_markText_e]
  by_cases h : kk ≤ 0
  · rw [iteB_pos h]; exact ⟨_, rfl⟩
  · rw [iteB_neg h]; exact marks_l4 q 20 q kk _ h0 (by omega) (by omega) (by omega) (by show 0 + 20 ≤ 1000; omega)

theorem szIntS_ok : SzOk (.row (.int .i64)) laws_szIntS := sz_flat (e := (.int .i64)) (fun _ => trivial) laws_szIntS_e
theorem szTac_ok : SzOk (.pair (.int .i64) (.pair (.int .i64) (.pair (.int .i64) (.pair (.int .i64) (.pair (.int .i64) (.pair .str (.pair (.row (.int .i64)) .unit))))))) laws_szTac := fun (a1 : Int × Int × Int × Int × Int × ByteArray × (List Int) × Unit) (hx : WfT (.pair (.int .i64) (.pair (.int .i64) (.pair (.int .i64) (.pair (.int .i64) (.pair (.int .i64) (.pair .str (.pair (.row (.int .i64)) .unit))))))) a1) a2 h0 h1 => ((SzE.sub (n := ByteArray.size a1.2.2.2.2.2.1) (G := fun k r => bindO (laws_szIntS k a1.2.2.2.2.2.2.1 (r)) fun r1 => (iteB (decide (r1 < 0)) (some (-1)) (some r1))) h0 h1 hx.2.2.2.2.2.1 fun r0_ p0_ q0_ => SzE.call p0_ (szIntS_ok a1.2.2.2.2.2.2.1 hx.2.2.2.2.2.2.1 _ p0_ (by omega)) fun r1 p1_ q1_ => SzE.done (Int.le_refl _)).to fun h => ⟨trivial, trivial, trivial, trivial, trivial, h.1, h.2.1, trivial⟩).eq fun k => laws_szTac_e k a1 a2
theorem szTacS_ok : SzOk (.row (.pair (.int .i64) (.pair (.int .i64) (.pair (.int .i64) (.pair (.int .i64) (.pair (.int .i64) (.pair .str (.pair (.row (.int .i64)) .unit)))))))) laws_szTacS := sz_row (α := (Int × Int × Int × Int × Int × ByteArray × (List Int) × Unit)) (W := WfT (.pair (.int .i64) (.pair (.int .i64) (.pair (.int .i64) (.pair (.int .i64) (.pair (.int .i64) (.pair .str (.pair (.row (.int .i64)) .unit)))))))) (F := FitT (.pair (.int .i64) (.pair (.int .i64) (.pair (.int .i64) (.pair (.int .i64) (.pair (.int .i64) (.pair .str (.pair (.row (.int .i64)) .unit)))))))) (d := (Ty.dflt (.pair (.int .i64) (.pair (.int .i64) (.pair (.int .i64) (.pair (.int .i64) (.pair (.int .i64) (.pair .str (.pair (.row (.int .i64)) .unit))))))))) (S := laws_szTacS) (L := laws_szTacS.l5) (f := laws_szTac) szTac_ok laws_szTacS.l5_s laws_szTacS_e
theorem szUnit_ok : SzOk (.pair .str (.pair (.int .i64) (.pair (.int .i64) (.pair (.row (.pair (.int .i64) (.pair (.int .i64) (.pair (.int .i64) (.pair (.int .i64) (.pair (.int .i64) (.pair .str (.pair (.row (.int .i64)) .unit)))))))) .unit)))) laws_szUnit := fun (a1 : ByteArray × Int × Int × (List (Int × Int × Int × Int × Int × ByteArray × (List Int) × Unit)) × Unit) (hx : WfT (.pair .str (.pair (.int .i64) (.pair (.int .i64) (.pair (.row (.pair (.int .i64) (.pair (.int .i64) (.pair (.int .i64) (.pair (.int .i64) (.pair (.int .i64) (.pair .str (.pair (.row (.int .i64)) .unit)))))))) .unit)))) a1) a2 h0 h1 => ((SzE.sub (n := ByteArray.size a1.1) (G := fun k r => bindO (laws_szTacS k a1.2.2.2.1 (r)) fun r1 => (iteB (decide (r1 < 0)) (some (-1)) (some r1))) h0 h1 hx.1 fun r0_ p0_ q0_ => SzE.call p0_ (szTacS_ok a1.2.2.2.1 hx.2.2.2.1 _ p0_ (by omega)) fun r1 p1_ q1_ => SzE.done (Int.le_refl _)).to fun h => ⟨h.1, trivial, trivial, h.2.1, trivial⟩).eq fun k => laws_szUnit_e k a1 a2
theorem szUnitS_ok : SzOk (.row (.pair .str (.pair (.int .i64) (.pair (.int .i64) (.pair (.row (.pair (.int .i64) (.pair (.int .i64) (.pair (.int .i64) (.pair (.int .i64) (.pair (.int .i64) (.pair .str (.pair (.row (.int .i64)) .unit)))))))) .unit))))) laws_szUnitS := sz_row (α := (ByteArray × Int × Int × (List (Int × Int × Int × Int × Int × ByteArray × (List Int) × Unit)) × Unit)) (W := WfT (.pair .str (.pair (.int .i64) (.pair (.int .i64) (.pair (.row (.pair (.int .i64) (.pair (.int .i64) (.pair (.int .i64) (.pair (.int .i64) (.pair (.int .i64) (.pair .str (.pair (.row (.int .i64)) .unit)))))))) .unit))))) (F := FitT (.pair .str (.pair (.int .i64) (.pair (.int .i64) (.pair (.row (.pair (.int .i64) (.pair (.int .i64) (.pair (.int .i64) (.pair (.int .i64) (.pair (.int .i64) (.pair .str (.pair (.row (.int .i64)) .unit)))))))) .unit))))) (d := (Ty.dflt (.pair .str (.pair (.int .i64) (.pair (.int .i64) (.pair (.row (.pair (.int .i64) (.pair (.int .i64) (.pair (.int .i64) (.pair (.int .i64) (.pair (.int .i64) (.pair .str (.pair (.row (.int .i64)) .unit)))))))) .unit)))))) (S := laws_szUnitS) (L := laws_szUnitS.l5) (f := laws_szUnit) szUnit_ok laws_szUnitS.l5_s laws_szUnitS_e
theorem toIntS_ok : ToOk (.row (.int .i64)) laws_toIntS := to_words (α := Int) (c := 8) (F := FitT (.int .i64)) (d := 0) (d' := 0) (S := laws_toIntS) (L := laws_toIntS.l3) laws_toIntS.l3_s laws_toIntS_e (by decide)
theorem toTac_ok : ToOk (.pair (.int .i64) (.pair (.int .i64) (.pair (.int .i64) (.pair (.int .i64) (.pair (.int .i64) (.pair .str (.pair (.row (.int .i64)) .unit))))))) laws_toTac := fun (a1 : Int × Int × Int × Int × Int × ByteArray × (List Int) × Unit) (hx : FitT (.pair (.int .i64) (.pair (.int .i64) (.pair (.int .i64) (.pair (.int .i64) (.pair (.int .i64) (.pair .str (.pair (.row (.int .i64)) .unit))))))) a1) => (show Ev fun k => (bindO (laws_toIntS k a1.2.2.2.2.2.2.1) fun r1 => (some (a1.1, a1.2.1, a1.2.2.1, a1.2.2.2.1, a1.2.2.2.2.1, a1.2.2.2.2.2.1, r1, ()))) = some a1 from To.call (toIntS_ok a1.2.2.2.2.2.2.1 hx.2.2.2.2.2.2.1) (Ev.of fun _ => rfl)).mono fun k h => (laws_toTac_e k a1).trans h
theorem toTacS_ok : ToOk (.row (.pair (.int .i64) (.pair (.int .i64) (.pair (.int .i64) (.pair (.int .i64) (.pair (.int .i64) (.pair .str (.pair (.row (.int .i64)) .unit)))))))) laws_toTacS := to_row (α := (Int × Int × Int × Int × Int × ByteArray × (List Int) × Unit)) (c := 80) (F := FitT (.pair (.int .i64) (.pair (.int .i64) (.pair (.int .i64) (.pair (.int .i64) (.pair (.int .i64) (.pair .str (.pair (.row (.int .i64)) .unit)))))))) (d := (Ty.dflt (.pair (.int .i64) (.pair (.int .i64) (.pair (.int .i64) (.pair (.int .i64) (.pair (.int .i64) (.pair .str (.pair (.row (.int .i64)) .unit))))))))) (d' := (Ty.dflt (.pair (.int .i64) (.pair (.int .i64) (.pair (.int .i64) (.pair (.int .i64) (.pair (.int .i64) (.pair .str (.pair (.row (.int .i64)) .unit))))))))) (S := laws_toTacS) (L := laws_toTacS.l3) (f := laws_toTac) toTac_ok laws_toTacS.l3_s laws_toTacS_e (by decide)
theorem toUnit_ok : ToOk (.pair .str (.pair (.int .i64) (.pair (.int .i64) (.pair (.row (.pair (.int .i64) (.pair (.int .i64) (.pair (.int .i64) (.pair (.int .i64) (.pair (.int .i64) (.pair .str (.pair (.row (.int .i64)) .unit)))))))) .unit)))) laws_toUnit := fun (a1 : ByteArray × Int × Int × (List (Int × Int × Int × Int × Int × ByteArray × (List Int) × Unit)) × Unit) (hx : FitT (.pair .str (.pair (.int .i64) (.pair (.int .i64) (.pair (.row (.pair (.int .i64) (.pair (.int .i64) (.pair (.int .i64) (.pair (.int .i64) (.pair (.int .i64) (.pair .str (.pair (.row (.int .i64)) .unit)))))))) .unit)))) a1) => (show Ev fun k => (bindO (laws_toTacS k a1.2.2.2.1) fun r1 => (some (a1.1, a1.2.1, a1.2.2.1, r1, ()))) = some a1 from To.call (toTacS_ok a1.2.2.2.1 hx.2.2.2.1) (Ev.of fun _ => rfl)).mono fun k h => (laws_toUnit_e k a1).trans h
theorem toUnitS_ok : ToOk (.row (.pair .str (.pair (.int .i64) (.pair (.int .i64) (.pair (.row (.pair (.int .i64) (.pair (.int .i64) (.pair (.int .i64) (.pair (.int .i64) (.pair (.int .i64) (.pair .str (.pair (.row (.int .i64)) .unit)))))))) .unit))))) laws_toUnitS := to_row (α := (ByteArray × Int × Int × (List (Int × Int × Int × Int × Int × ByteArray × (List Int) × Unit)) × Unit)) (c := 56) (F := FitT (.pair .str (.pair (.int .i64) (.pair (.int .i64) (.pair (.row (.pair (.int .i64) (.pair (.int .i64) (.pair (.int .i64) (.pair (.int .i64) (.pair (.int .i64) (.pair .str (.pair (.row (.int .i64)) .unit)))))))) .unit))))) (d := (Ty.dflt (.pair .str (.pair (.int .i64) (.pair (.int .i64) (.pair (.row (.pair (.int .i64) (.pair (.int .i64) (.pair (.int .i64) (.pair (.int .i64) (.pair (.int .i64) (.pair .str (.pair (.row (.int .i64)) .unit)))))))) .unit)))))) (d' := (Ty.dflt (.pair .str (.pair (.int .i64) (.pair (.int .i64) (.pair (.row (.pair (.int .i64) (.pair (.int .i64) (.pair (.int .i64) (.pair (.int .i64) (.pair (.int .i64) (.pair .str (.pair (.row (.int .i64)) .unit)))))))) .unit)))))) (S := laws_toUnitS) (L := laws_toUnitS.l3) (f := laws_toUnit) toUnit_ok laws_toUnitS.l3_s laws_toUnitS_e (by decide)
theorem eqIntS_ok : EqOk (.row (.int .i64)) laws_eqIntS := eq_words (α := Int) (F := FitT (.int .i64)) (d := 0) (S := laws_eqIntS) (L := laws_eqIntS.l4) (p := (fun x y => x != y)) (fun x => by simp) laws_eqIntS.l4_s laws_eqIntS_e
theorem eqTac_ok : EqOk (.pair (.int .i64) (.pair (.int .i64) (.pair (.int .i64) (.pair (.int .i64) (.pair (.int .i64) (.pair .str (.pair (.row (.int .i64)) .unit))))))) laws_eqTac := fun (a1 : Int × Int × Int × Int × Int × ByteArray × (List Int) × Unit) (hx : FitT (.pair (.int .i64) (.pair (.int .i64) (.pair (.int .i64) (.pair (.int .i64) (.pair (.int .i64) (.pair .str (.pair (.row (.int .i64)) .unit))))))) a1) => EqE.eq (fun k => laws_eqTac_e k a1 a1) (EqE.word (by simp) (EqE.word (by simp) (EqE.word (by simp) (EqE.word (by simp) (EqE.word (by simp) (EqE.word (by simp) (EqE.call (eqIntS_ok a1.2.2.2.2.2.2.1 hx.2.2.2.2.2.2.1) (EqE.done))))))))
theorem eqTacS_ok : EqOk (.row (.pair (.int .i64) (.pair (.int .i64) (.pair (.int .i64) (.pair (.int .i64) (.pair (.int .i64) (.pair .str (.pair (.row (.int .i64)) .unit)))))))) laws_eqTacS := eq_row (α := (Int × Int × Int × Int × Int × ByteArray × (List Int) × Unit)) (F := FitT (.pair (.int .i64) (.pair (.int .i64) (.pair (.int .i64) (.pair (.int .i64) (.pair (.int .i64) (.pair .str (.pair (.row (.int .i64)) .unit)))))))) (d := (Ty.dflt (.pair (.int .i64) (.pair (.int .i64) (.pair (.int .i64) (.pair (.int .i64) (.pair (.int .i64) (.pair .str (.pair (.row (.int .i64)) .unit))))))))) (S := laws_eqTacS) (L := laws_eqTacS.l4) (f := laws_eqTac) eqTac_ok laws_eqTacS.l4_s laws_eqTacS_e
theorem eqUnit_ok : EqOk (.pair .str (.pair (.int .i64) (.pair (.int .i64) (.pair (.row (.pair (.int .i64) (.pair (.int .i64) (.pair (.int .i64) (.pair (.int .i64) (.pair (.int .i64) (.pair .str (.pair (.row (.int .i64)) .unit)))))))) .unit)))) laws_eqUnit := fun (a1 : ByteArray × Int × Int × (List (Int × Int × Int × Int × Int × ByteArray × (List Int) × Unit)) × Unit) (hx : FitT (.pair .str (.pair (.int .i64) (.pair (.int .i64) (.pair (.row (.pair (.int .i64) (.pair (.int .i64) (.pair (.int .i64) (.pair (.int .i64) (.pair (.int .i64) (.pair .str (.pair (.row (.int .i64)) .unit)))))))) .unit)))) a1) => EqE.eq (fun k => laws_eqUnit_e k a1 a1) (EqE.word (by simp) (EqE.word (by simp) (EqE.word (by simp) (EqE.call (eqTacS_ok a1.2.2.2.1 hx.2.2.2.1) (EqE.done)))))
theorem eqUnitS_ok : EqOk (.row (.pair .str (.pair (.int .i64) (.pair (.int .i64) (.pair (.row (.pair (.int .i64) (.pair (.int .i64) (.pair (.int .i64) (.pair (.int .i64) (.pair (.int .i64) (.pair .str (.pair (.row (.int .i64)) .unit)))))))) .unit))))) laws_eqUnitS := eq_row (α := (ByteArray × Int × Int × (List (Int × Int × Int × Int × Int × ByteArray × (List Int) × Unit)) × Unit)) (F := FitT (.pair .str (.pair (.int .i64) (.pair (.int .i64) (.pair (.row (.pair (.int .i64) (.pair (.int .i64) (.pair (.int .i64) (.pair (.int .i64) (.pair (.int .i64) (.pair .str (.pair (.row (.int .i64)) .unit)))))))) .unit))))) (d := (Ty.dflt (.pair .str (.pair (.int .i64) (.pair (.int .i64) (.pair (.row (.pair (.int .i64) (.pair (.int .i64) (.pair (.int .i64) (.pair (.int .i64) (.pair (.int .i64) (.pair .str (.pair (.row (.int .i64)) .unit)))))))) .unit)))))) (S := laws_eqUnitS) (L := laws_eqUnitS.l4) (f := laws_eqUnit) eqUnit_ok laws_eqUnitS.l4_s laws_eqUnitS_e
theorem eqFrame_ok : EqOk (.pair (.int .i64) (.pair (.int .i64) (.pair (.row (.int .i64)) (.pair (.int .i64) .unit)))) laws_eqFrame := fun (a1 : Int × Int × (List Int) × Int × Unit) (hx : FitT (.pair (.int .i64) (.pair (.int .i64) (.pair (.row (.int .i64)) (.pair (.int .i64) .unit)))) a1) => EqE.eq (fun k => laws_eqFrame_e k a1 a1) (EqE.word (by simp) (EqE.word (by simp) (EqE.call (eqIntS_ok a1.2.2.1 hx.2.2.1) (EqE.word (by simp) (EqE.done)))))
theorem eqFrameS_ok : EqOk (.row (.pair (.int .i64) (.pair (.int .i64) (.pair (.row (.int .i64)) (.pair (.int .i64) .unit))))) laws_eqFrameS := eq_row (α := (Int × Int × (List Int) × Int × Unit)) (F := FitT (.pair (.int .i64) (.pair (.int .i64) (.pair (.row (.int .i64)) (.pair (.int .i64) .unit))))) (d := (Ty.dflt (.pair (.int .i64) (.pair (.int .i64) (.pair (.row (.int .i64)) (.pair (.int .i64) .unit)))))) (S := laws_eqFrameS) (L := laws_eqFrameS.l4) (f := laws_eqFrame) eqFrame_ok laws_eqFrameS.l4_s laws_eqFrameS_e
theorem eqBody_ok : EqOk (.pair (.row (.pair (.int .i64) (.pair (.int .i64) (.pair (.row (.int .i64)) (.pair (.int .i64) .unit))))) (.pair .bool (.pair .bool (.pair (.int .i64) (.pair (.int .i64) (.pair (.int .i64) (.pair (.int .i64) (.pair (.int .i64) .unit)))))))) laws_eqBody := fun (a1 : (List (Int × Int × (List Int) × Int × Unit)) × Bool × Bool × Int × Int × Int × Int × Int × Unit) (hx : FitT (.pair (.row (.pair (.int .i64) (.pair (.int .i64) (.pair (.row (.int .i64)) (.pair (.int .i64) .unit))))) (.pair .bool (.pair .bool (.pair (.int .i64) (.pair (.int .i64) (.pair (.int .i64) (.pair (.int .i64) (.pair (.int .i64) .unit)))))))) a1) => EqE.eq (fun k => laws_eqBody_e k a1 a1) (EqE.call (eqFrameS_ok a1.1 hx.1) (EqE.word (by simp) (EqE.word (by simp) (EqE.word (by simp) (EqE.word (by simp) (EqE.word (by simp) (EqE.word (by simp) (EqE.word (by simp) (EqE.done)))))))))
theorem eqBodyS_ok : EqOk (.row (.pair (.row (.pair (.int .i64) (.pair (.int .i64) (.pair (.row (.int .i64)) (.pair (.int .i64) .unit))))) (.pair .bool (.pair .bool (.pair (.int .i64) (.pair (.int .i64) (.pair (.int .i64) (.pair (.int .i64) (.pair (.int .i64) .unit))))))))) laws_eqBodyS := eq_row (α := ((List (Int × Int × (List Int) × Int × Unit)) × Bool × Bool × Int × Int × Int × Int × Int × Unit)) (F := FitT (.pair (.row (.pair (.int .i64) (.pair (.int .i64) (.pair (.row (.int .i64)) (.pair (.int .i64) .unit))))) (.pair .bool (.pair .bool (.pair (.int .i64) (.pair (.int .i64) (.pair (.int .i64) (.pair (.int .i64) (.pair (.int .i64) .unit))))))))) (d := (Ty.dflt (.pair (.row (.pair (.int .i64) (.pair (.int .i64) (.pair (.row (.int .i64)) (.pair (.int .i64) .unit))))) (.pair .bool (.pair .bool (.pair (.int .i64) (.pair (.int .i64) (.pair (.int .i64) (.pair (.int .i64) (.pair (.int .i64) .unit)))))))))) (S := laws_eqBodyS) (L := laws_eqBodyS.l4) (f := laws_eqBody) eqBody_ok laws_eqBodyS.l4_s laws_eqBodyS_e
theorem eqWait_ok : EqOk (.pair (.int .i64) (.pair (.int .i64) (.pair (.int .i64) (.pair (.int .i64) .unit)))) laws_eqWait := fun (a1 : Int × Int × Int × Int × Unit) (hx : FitT (.pair (.int .i64) (.pair (.int .i64) (.pair (.int .i64) (.pair (.int .i64) .unit)))) a1) => EqE.eq (fun k => laws_eqWait_e k a1 a1) (EqE.word (by simp) (EqE.word (by simp) (EqE.word (by simp) (EqE.word (by simp) (EqE.done)))))
theorem eqWaitS_ok : EqOk (.row (.pair (.int .i64) (.pair (.int .i64) (.pair (.int .i64) (.pair (.int .i64) .unit))))) laws_eqWaitS := eq_row (α := (Int × Int × Int × Int × Unit)) (F := FitT (.pair (.int .i64) (.pair (.int .i64) (.pair (.int .i64) (.pair (.int .i64) .unit))))) (d := (Ty.dflt (.pair (.int .i64) (.pair (.int .i64) (.pair (.int .i64) (.pair (.int .i64) .unit)))))) (S := laws_eqWaitS) (L := laws_eqWaitS.l4) (f := laws_eqWait) eqWait_ok laws_eqWaitS.l4_s laws_eqWaitS_e
theorem eqChan_ok : EqOk (.pair (.int .i64) (.pair .bool (.pair (.row (.int .i64)) (.pair (.row (.pair (.int .i64) (.pair (.int .i64) (.pair (.int .i64) (.pair (.int .i64) .unit))))) (.pair (.row (.pair (.int .i64) (.pair (.int .i64) (.pair (.int .i64) (.pair (.int .i64) .unit))))) .unit))))) laws_eqChan := fun (a1 : Int × Bool × (List Int) × (List (Int × Int × Int × Int × Unit)) × (List (Int × Int × Int × Int × Unit)) × Unit) (hx : FitT (.pair (.int .i64) (.pair .bool (.pair (.row (.int .i64)) (.pair (.row (.pair (.int .i64) (.pair (.int .i64) (.pair (.int .i64) (.pair (.int .i64) .unit))))) (.pair (.row (.pair (.int .i64) (.pair (.int .i64) (.pair (.int .i64) (.pair (.int .i64) .unit))))) .unit))))) a1) => EqE.eq (fun k => laws_eqChan_e k a1 a1) (EqE.word (by simp) (EqE.word (by simp) (EqE.call (eqIntS_ok a1.2.2.1 hx.2.2.1) (EqE.call (eqWaitS_ok a1.2.2.2.1 hx.2.2.2.1) (EqE.call (eqWaitS_ok a1.2.2.2.2.1 hx.2.2.2.2.1) (EqE.done))))))
theorem eqChanS_ok : EqOk (.row (.pair (.int .i64) (.pair .bool (.pair (.row (.int .i64)) (.pair (.row (.pair (.int .i64) (.pair (.int .i64) (.pair (.int .i64) (.pair (.int .i64) .unit))))) (.pair (.row (.pair (.int .i64) (.pair (.int .i64) (.pair (.int .i64) (.pair (.int .i64) .unit))))) .unit)))))) laws_eqChanS := eq_row (α := (Int × Bool × (List Int) × (List (Int × Int × Int × Int × Unit)) × (List (Int × Int × Int × Int × Unit)) × Unit)) (F := FitT (.pair (.int .i64) (.pair .bool (.pair (.row (.int .i64)) (.pair (.row (.pair (.int .i64) (.pair (.int .i64) (.pair (.int .i64) (.pair (.int .i64) .unit))))) (.pair (.row (.pair (.int .i64) (.pair (.int .i64) (.pair (.int .i64) (.pair (.int .i64) .unit))))) .unit)))))) (d := (Ty.dflt (.pair (.int .i64) (.pair .bool (.pair (.row (.int .i64)) (.pair (.row (.pair (.int .i64) (.pair (.int .i64) (.pair (.int .i64) (.pair (.int .i64) .unit))))) (.pair (.row (.pair (.int .i64) (.pair (.int .i64) (.pair (.int .i64) (.pair (.int .i64) .unit))))) .unit))))))) (S := laws_eqChanS) (L := laws_eqChanS.l4) (f := laws_eqChan) eqChan_ok laws_eqChanS.l4_s laws_eqChanS_e
theorem eqWorld_ok : EqOk (.pair (.row (.pair .str (.pair (.int .i64) (.pair (.int .i64) (.pair (.row (.pair (.int .i64) (.pair (.int .i64) (.pair (.int .i64) (.pair (.int .i64) (.pair (.int .i64) (.pair .str (.pair (.row (.int .i64)) .unit)))))))) .unit))))) (.pair (.row (.pair (.row (.pair (.int .i64) (.pair (.int .i64) (.pair (.row (.int .i64)) (.pair (.int .i64) .unit))))) (.pair .bool (.pair .bool (.pair (.int .i64) (.pair (.int .i64) (.pair (.int .i64) (.pair (.int .i64) (.pair (.int .i64) .unit))))))))) (.pair (.row (.pair (.int .i64) (.pair .bool (.pair (.row (.int .i64)) (.pair (.row (.pair (.int .i64) (.pair (.int .i64) (.pair (.int .i64) (.pair (.int .i64) .unit))))) (.pair (.row (.pair (.int .i64) (.pair (.int .i64) (.pair (.int .i64) (.pair (.int .i64) .unit))))) .unit)))))) (.pair (.row (.int .i64)) (.pair .bool (.pair (.int .i64) .unit)))))) laws_eqWorld := fun (a1 : (List (ByteArray × Int × Int × (List (Int × Int × Int × Int × Int × ByteArray × (List Int) × Unit)) × Unit)) × (List ((List (Int × Int × (List Int) × Int × Unit)) × Bool × Bool × Int × Int × Int × Int × Int × Unit)) × (List (Int × Bool × (List Int) × (List (Int × Int × Int × Int × Unit)) × (List (Int × Int × Int × Int × Unit)) × Unit)) × (List Int) × Bool × Int × Unit) (hx : FitT (.pair (.row (.pair .str (.pair (.int .i64) (.pair (.int .i64) (.pair (.row (.pair (.int .i64) (.pair (.int .i64) (.pair (.int .i64) (.pair (.int .i64) (.pair (.int .i64) (.pair .str (.pair (.row (.int .i64)) .unit)))))))) .unit))))) (.pair (.row (.pair (.row (.pair (.int .i64) (.pair (.int .i64) (.pair (.row (.int .i64)) (.pair (.int .i64) .unit))))) (.pair .bool (.pair .bool (.pair (.int .i64) (.pair (.int .i64) (.pair (.int .i64) (.pair (.int .i64) (.pair (.int .i64) .unit))))))))) (.pair (.row (.pair (.int .i64) (.pair .bool (.pair (.row (.int .i64)) (.pair (.row (.pair (.int .i64) (.pair (.int .i64) (.pair (.int .i64) (.pair (.int .i64) .unit))))) (.pair (.row (.pair (.int .i64) (.pair (.int .i64) (.pair (.int .i64) (.pair (.int .i64) .unit))))) .unit)))))) (.pair (.row (.int .i64)) (.pair .bool (.pair (.int .i64) .unit)))))) a1) => EqE.eq (fun k => laws_eqWorld_e k a1 a1) (EqE.call (eqUnitS_ok a1.1 hx.1) (EqE.call (eqBodyS_ok a1.2.1 hx.2.1) (EqE.call (eqChanS_ok a1.2.2.1 hx.2.2.1) (EqE.call (eqIntS_ok a1.2.2.2.1 hx.2.2.2.1) (EqE.word (by simp) (EqE.word (by simp) (EqE.done)))))))
theorem markIntS_ok : MarkOk (FitT (.row (.int .i64))) laws_markIntS 1048576 := mark_row (α := Int) (d := 0) (F := FitT (.int .i64)) (B := 1) (L := laws_markIntS.l2) (by omega) (fun x hx => ((Ev.of fun _ => trivial)).mono fun q hq kk h0 hM n ys i i0 i1 hl hx' => by
  obtain ⟨_⟩ := hq
  refine ⟨kk + 1, ?_, by omega, by omega, ?_⟩
  rotate_left
  · rw [laws_markIntS.l2_s]
    simp (disch := omega) only [List.length_set, List.set_set, getD_set_same, iteB_pos, wrap_next, hx', bindO_some]
    first | exact rfl | (simp (disch := omega) only [bindO_some, wrap_next, List.length_set, List.set_set, getD_set_same, iteB_pos]; exact rfl)) (fun q n kk i ys h => by rw [laws_markIntS.l2_s, iteB_neg (by omega)]) (fun q xs kk => laws_markIntS_e q xs kk) (by omega)
theorem markTacS_ok : MarkOk (FitT (.row (.pair (.int .i64) (.pair (.int .i64) (.pair (.int .i64) (.pair (.int .i64) (.pair (.int .i64) (.pair .str (.pair (.row (.int .i64)) .unit))))))))) laws_markTacS 1099517919232 := mark_row (α := (Int × Int × Int × Int × Int × ByteArray × (List Int) × Unit)) (d := (Ty.dflt (.pair (.int .i64) (.pair (.int .i64) (.pair (.int .i64) (.pair (.int .i64) (.pair (.int .i64) (.pair .str (.pair (.row (.int .i64)) .unit))))))))) (F := FitT (.pair (.int .i64) (.pair (.int .i64) (.pair (.int .i64) (.pair (.int .i64) (.pair (.int .i64) (.pair .str (.pair (.row (.int .i64)) .unit)))))))) (B := 1048582) (L := laws_markTacS.l2) (by omega) (fun x hx => (((markText_ok).and (((markIntS_ok (x.2.2.2.2.2.2.1) hx.2.2.2.2.2.2.1)).and (Ev.of fun _ => trivial)))).mono fun q hq kk h0 hM n ys i i0 i1 hl hx' => by
  obtain ⟨t0, p1, _⟩ := hq
  obtain ⟨s1, w1⟩ := t0 (kk + 1 + 1 + 1 + 1 + 1) (by omega) (by omega)
  obtain ⟨r1, (z1 : List Int), e1, l1, u1⟩ := p1 (kk + 1 + 1 + 1 + 1 + 1 + 1) (by omega) (by omega)
  replace e1 : laws_markIntS q x.2.2.2.2.2.2.1 (kk + 1 + 1 + 1 + 1 + 1 + 1) = some (r1, z1) := e1
  refine ⟨r1, ?_, by omega, by omega, ?_⟩
  rotate_left
  · rw [laws_markTacS.l2_s]
    obtain ⟨dd, hdd⟩ : ∃ d : (Int × Int × Int × Int × Int × ByteArray × (List Int) × Unit), d = Ty.dflt (.pair (.int .i64) (.pair (.int .i64) (.pair (.int .i64) (.pair (.int .i64) (.pair (.int .i64) (.pair .str (.pair (.row (.int .i64)) .unit))))))) := ⟨_, rfl⟩
    rw [← hdd] at hx' ⊢
    simp (disch := omega) only [List.length_set, List.set_set, getD_set_same, iteB_pos, wrap_next, hx', bindO_some, w1, e1]
    first | exact rfl | (simp (disch := omega) only [bindO_some, wrap_next, List.length_set, List.set_set, getD_set_same, iteB_pos]; exact rfl)) (fun q n kk i ys h => by rw [laws_markTacS.l2_s, iteB_neg (by omega)]) (fun q xs kk => laws_markTacS_e q xs kk) (by omega)
theorem markUnitS_ok : MarkOk (FitT (.row (.pair .str (.pair (.int .i64) (.pair (.int .i64) (.pair (.row (.pair (.int .i64) (.pair (.int .i64) (.pair (.int .i64) (.pair (.int .i64) (.pair (.int .i64) (.pair .str (.pair (.row (.int .i64)) .unit)))))))) .unit)))))) laws_markUnitS 1152928101679759360 := mark_row (α := (ByteArray × Int × Int × (List (Int × Int × Int × Int × Int × ByteArray × (List Int) × Unit)) × Unit)) (d := (Ty.dflt (.pair .str (.pair (.int .i64) (.pair (.int .i64) (.pair (.row (.pair (.int .i64) (.pair (.int .i64) (.pair (.int .i64) (.pair (.int .i64) (.pair (.int .i64) (.pair .str (.pair (.row (.int .i64)) .unit)))))))) .unit)))))) (F := FitT (.pair .str (.pair (.int .i64) (.pair (.int .i64) (.pair (.row (.pair (.int .i64) (.pair (.int .i64) (.pair (.int .i64) (.pair (.int .i64) (.pair (.int .i64) (.pair .str (.pair (.row (.int .i64)) .unit)))))))) .unit))))) (B := 1099517919235) (L := laws_markUnitS.l2) (by omega) (fun x hx => (((markText_ok).and (((markTacS_ok (x.2.2.2.1) hx.2.2.2.1)).and (Ev.of fun _ => trivial)))).mono fun q hq kk h0 hM n ys i i0 i1 hl hx' => by
  obtain ⟨t0, p1, _⟩ := hq
  obtain ⟨s1, w1⟩ := t0 (kk) (by omega) (by omega)
  obtain ⟨r1, (z1 : List (Int × Int × Int × Int × Int × ByteArray × (List Int) × Unit)), e1, l1, u1⟩ := p1 (kk + 1 + 1 + 1) (by omega) (by omega)
  replace e1 : laws_markTacS q x.2.2.2.1 (kk + 1 + 1 + 1) = some (r1, z1) := e1
  refine ⟨r1, ?_, by omega, by omega, ?_⟩
  rotate_left
  · rw [laws_markUnitS.l2_s]
    obtain ⟨dd, hdd⟩ : ∃ d : (ByteArray × Int × Int × (List (Int × Int × Int × Int × Int × ByteArray × (List Int) × Unit)) × Unit), d = Ty.dflt (.pair .str (.pair (.int .i64) (.pair (.int .i64) (.pair (.row (.pair (.int .i64) (.pair (.int .i64) (.pair (.int .i64) (.pair (.int .i64) (.pair (.int .i64) (.pair .str (.pair (.row (.int .i64)) .unit)))))))) .unit)))) := ⟨_, rfl⟩
    rw [← hdd] at hx' ⊢
    simp (disch := omega) only [List.length_set, List.set_set, getD_set_same, iteB_pos, wrap_next, hx', bindO_some, w1, e1]
    first | exact rfl | (simp (disch := omega) only [bindO_some, wrap_next, List.length_set, List.set_set, getD_set_same, iteB_pos]; exact rfl)) (fun q n kk i ys h => by rw [laws_markUnitS.l2_s, iteB_neg (by omega)]) (fun q xs kk => laws_markUnitS_e q xs kk) (by omega)
theorem markFrameS_ok : MarkOk (FitT (.row (.pair (.int .i64) (.pair (.int .i64) (.pair (.row (.int .i64)) (.pair (.int .i64) .unit)))))) laws_markFrameS 1099514773504 := mark_row (α := (Int × Int × (List Int) × Int × Unit)) (d := (Ty.dflt (.pair (.int .i64) (.pair (.int .i64) (.pair (.row (.int .i64)) (.pair (.int .i64) .unit)))))) (F := FitT (.pair (.int .i64) (.pair (.int .i64) (.pair (.row (.int .i64)) (.pair (.int .i64) .unit))))) (B := 1048579) (L := laws_markFrameS.l2) (by omega) (fun x hx => ((((markIntS_ok (x.2.2.1) hx.2.2.1)).and (Ev.of fun _ => trivial))).mono fun q hq kk h0 hM n ys i i0 i1 hl hx' => by
  obtain ⟨p1, _⟩ := hq
  obtain ⟨r1, (z1 : List Int), e1, l1, u1⟩ := p1 (kk + 1 + 1) (by omega) (by omega)
  replace e1 : laws_markIntS q x.2.2.1 (kk + 1 + 1) = some (r1, z1) := e1
  refine ⟨r1 + 1, ?_, by omega, by omega, ?_⟩
  rotate_left
  · rw [laws_markFrameS.l2_s]
    obtain ⟨dd, hdd⟩ : ∃ d : (Int × Int × (List Int) × Int × Unit), d = Ty.dflt (.pair (.int .i64) (.pair (.int .i64) (.pair (.row (.int .i64)) (.pair (.int .i64) .unit)))) := ⟨_, rfl⟩
    rw [← hdd] at hx' ⊢
    simp (disch := omega) only [List.length_set, List.set_set, getD_set_same, iteB_pos, wrap_next, hx', bindO_some, e1]
    first | exact rfl | (simp (disch := omega) only [bindO_some, wrap_next, List.length_set, List.set_set, getD_set_same, iteB_pos]; exact rfl)) (fun q n kk i ys h => by rw [laws_markFrameS.l2_s, iteB_neg (by omega)]) (fun q xs kk => laws_markFrameS_e q xs kk) (by omega)
theorem markBodyS_ok : MarkOk (FitT (.row (.pair (.row (.pair (.int .i64) (.pair (.int .i64) (.pair (.row (.int .i64)) (.pair (.int .i64) .unit))))) (.pair .bool (.pair .bool (.pair (.int .i64) (.pair (.int .i64) (.pair (.int .i64) (.pair (.int .i64) (.pair (.int .i64) .unit)))))))))) laws_markBodyS 1152924803149070336 := mark_row (α := ((List (Int × Int × (List Int) × Int × Unit)) × Bool × Bool × Int × Int × Int × Int × Int × Unit)) (d := (Ty.dflt (.pair (.row (.pair (.int .i64) (.pair (.int .i64) (.pair (.row (.int .i64)) (.pair (.int .i64) .unit))))) (.pair .bool (.pair .bool (.pair (.int .i64) (.pair (.int .i64) (.pair (.int .i64) (.pair (.int .i64) (.pair (.int .i64) .unit)))))))))) (F := FitT (.pair (.row (.pair (.int .i64) (.pair (.int .i64) (.pair (.row (.int .i64)) (.pair (.int .i64) .unit))))) (.pair .bool (.pair .bool (.pair (.int .i64) (.pair (.int .i64) (.pair (.int .i64) (.pair (.int .i64) (.pair (.int .i64) .unit))))))))) (B := 1099514773511) (L := laws_markBodyS.l2) (by omega) (fun x hx => ((((markFrameS_ok (x.1) hx.1)).and (Ev.of fun _ => trivial))).mono fun q hq kk h0 hM n ys i i0 i1 hl hx' => by
  obtain ⟨p1, _⟩ := hq
  obtain ⟨r1, (z1 : List (Int × Int × (List Int) × Int × Unit)), e1, l1, u1⟩ := p1 (kk) (by omega) (by omega)
  replace e1 : laws_markFrameS q x.1 (kk) = some (r1, z1) := e1
  refine ⟨r1 + 1 + 1 + 1 + 1 + 1 + 1 + 1, ?_, by omega, by omega, ?_⟩
  rotate_left
  · rw [laws_markBodyS.l2_s]
    obtain ⟨dd, hdd⟩ : ∃ d : ((List (Int × Int × (List Int) × Int × Unit)) × Bool × Bool × Int × Int × Int × Int × Int × Unit), d = Ty.dflt (.pair (.row (.pair (.int .i64) (.pair (.int .i64) (.pair (.row (.int .i64)) (.pair (.int .i64) .unit))))) (.pair .bool (.pair .bool (.pair (.int .i64) (.pair (.int .i64) (.pair (.int .i64) (.pair (.int .i64) (.pair (.int .i64) .unit)))))))) := ⟨_, rfl⟩
    rw [← hdd] at hx' ⊢
    simp (disch := omega) only [List.length_set, List.set_set, getD_set_same, iteB_pos, wrap_next, hx', bindO_some, e1]
    first | exact rfl | (simp (disch := omega) only [bindO_some, wrap_next, List.length_set, List.set_set, getD_set_same, iteB_pos]; exact rfl)) (fun q n kk i ys h => by rw [laws_markBodyS.l2_s, iteB_neg (by omega)]) (fun q xs kk => laws_markBodyS_e q xs kk) (by omega)
theorem markWaitS_ok : MarkOk (FitT (.row (.pair (.int .i64) (.pair (.int .i64) (.pair (.int .i64) (.pair (.int .i64) .unit)))))) laws_markWaitS 4194304 := mark_row (α := (Int × Int × Int × Int × Unit)) (d := (Ty.dflt (.pair (.int .i64) (.pair (.int .i64) (.pair (.int .i64) (.pair (.int .i64) .unit)))))) (F := FitT (.pair (.int .i64) (.pair (.int .i64) (.pair (.int .i64) (.pair (.int .i64) .unit))))) (B := 4) (L := laws_markWaitS.l2) (by omega) (fun x hx => ((Ev.of fun _ => trivial)).mono fun q hq kk h0 hM n ys i i0 i1 hl hx' => by
  obtain ⟨_⟩ := hq
  refine ⟨kk + 1 + 1 + 1 + 1, ?_, by omega, by omega, ?_⟩
  rotate_left
  · rw [laws_markWaitS.l2_s]
    obtain ⟨dd, hdd⟩ : ∃ d : (Int × Int × Int × Int × Unit), d = Ty.dflt (.pair (.int .i64) (.pair (.int .i64) (.pair (.int .i64) (.pair (.int .i64) .unit)))) := ⟨_, rfl⟩
    rw [← hdd] at hx' ⊢
    simp (disch := omega) only [List.length_set, List.set_set, getD_set_same, iteB_pos, wrap_next, hx', bindO_some]
    first | exact rfl | (simp (disch := omega) only [bindO_some, wrap_next, List.length_set, List.set_set, getD_set_same, iteB_pos]; exact rfl)) (fun q n kk i ys h => by rw [laws_markWaitS.l2_s, iteB_neg (by omega)]) (fun q xs kk => laws_markWaitS_e q xs kk) (by omega)
theorem markChanS_ok : MarkOk (FitT (.row (.pair (.int .i64) (.pair .bool (.pair (.row (.int .i64)) (.pair (.row (.pair (.int .i64) (.pair (.int .i64) (.pair (.int .i64) (.pair (.int .i64) .unit))))) (.pair (.row (.pair (.int .i64) (.pair (.int .i64) (.pair (.int .i64) (.pair (.int .i64) .unit))))) .unit))))))) laws_markChanS 9895606747136 := mark_row (α := (Int × Bool × (List Int) × (List (Int × Int × Int × Int × Unit)) × (List (Int × Int × Int × Int × Unit)) × Unit)) (d := (Ty.dflt (.pair (.int .i64) (.pair .bool (.pair (.row (.int .i64)) (.pair (.row (.pair (.int .i64) (.pair (.int .i64) (.pair (.int .i64) (.pair (.int .i64) .unit))))) (.pair (.row (.pair (.int .i64) (.pair (.int .i64) (.pair (.int .i64) (.pair (.int .i64) .unit))))) .unit))))))) (F := FitT (.pair (.int .i64) (.pair .bool (.pair (.row (.int .i64)) (.pair (.row (.pair (.int .i64) (.pair (.int .i64) (.pair (.int .i64) (.pair (.int .i64) .unit))))) (.pair (.row (.pair (.int .i64) (.pair (.int .i64) (.pair (.int .i64) (.pair (.int .i64) .unit))))) .unit)))))) (B := 9437186) (L := laws_markChanS.l2) (by omega) (fun x hx => ((((markIntS_ok (x.2.2.1) hx.2.2.1)).and (((markWaitS_ok (x.2.2.2.1) hx.2.2.2.1)).and (((markWaitS_ok (x.2.2.2.2.1) hx.2.2.2.2.1)).and (Ev.of fun _ => trivial))))).mono fun q hq kk h0 hM n ys i i0 i1 hl hx' => by
  obtain ⟨p1, p2, p3, _⟩ := hq
  obtain ⟨r1, (z1 : List Int), e1, l1, u1⟩ := p1 (kk + 1 + 1) (by omega) (by omega)
  replace e1 : laws_markIntS q x.2.2.1 (kk + 1 + 1) = some (r1, z1) := e1
  obtain ⟨r2, (z2 : List (Int × Int × Int × Int × Unit)), e2, l2, u2⟩ := p2 (r1) (by omega) (by omega)
  replace e2 : laws_markWaitS q x.2.2.2.1 (r1) = some (r2, z2) := e2
  obtain ⟨r3, (z3 : List (Int × Int × Int × Int × Unit)), e3, l3, u3⟩ := p3 (r2) (by omega) (by omega)
  replace e3 : laws_markWaitS q x.2.2.2.2.1 (r2) = some (r3, z3) := e3
  refine ⟨r3, ?_, by omega, by omega, ?_⟩
  rotate_left
  · rw [laws_markChanS.l2_s]
    obtain ⟨dd, hdd⟩ : ∃ d : (Int × Bool × (List Int) × (List (Int × Int × Int × Int × Unit)) × (List (Int × Int × Int × Int × Unit)) × Unit), d = Ty.dflt (.pair (.int .i64) (.pair .bool (.pair (.row (.int .i64)) (.pair (.row (.pair (.int .i64) (.pair (.int .i64) (.pair (.int .i64) (.pair (.int .i64) .unit))))) (.pair (.row (.pair (.int .i64) (.pair (.int .i64) (.pair (.int .i64) (.pair (.int .i64) .unit))))) .unit))))) := ⟨_, rfl⟩
    rw [← hdd] at hx' ⊢
    simp (disch := omega) only [List.length_set, List.set_set, getD_set_same, iteB_pos, wrap_next, hx', bindO_some, e1, e2, e3]
    first | exact rfl | (simp (disch := omega) only [bindO_some, wrap_next, List.length_set, List.set_set, getD_set_same, iteB_pos]; exact rfl)) (fun q n kk i ys h => by rw [laws_markChanS.l2_s, iteB_neg (by omega)]) (fun q xs kk => laws_markChanS_e q xs kk) (by omega)

/-! Marks, and what is held of them. -/
def MHOk {α : Type} (F : α → Prop) (f : Nat → α → Int → Option (Int × α)) (g : Nat → α → Int → Option Int) (B : Int) : Prop :=
  ∀ x, F x → Ev fun q => ∀ kk : Int, 0 ≤ kk → kk + B ≤ 9223372036854775000 → ∃ r y, f q x kk = some (r, y) ∧ kk ≤ r ∧ r ≤ kk + B ∧ g q y kk = some r
theorem mh_row {α : Type} {d : α} {F : α → Prop} {B : Int} (hB : 0 ≤ B) {f : Nat → List α → Int → Option (Int × List α)} {g : Nat → List α → Int → Option Int} {L : Nat → Nat → Int → Int → List α → Option (Int × List α)} {H : Nat → Nat → List α → Int → Int → Option Int}
    (hS : ∀ x, F x → Ev fun q => ∀ (kk : Int), 0 ≤ kk → kk + B ≤ 9223372036854775000 → ∃ r y, kk ≤ r ∧ r ≤ kk + B ∧
      (∀ (n : Nat) (ys : List α) (i : Int), 0 ≤ i → i < (ys.length : Int) → ys.length ≤ 1048576 → ys.getD i.toNat d = x → L q (n + 1) kk i ys = L q n r (i + 1) (ys.set i.toNat y)) ∧
      (∀ (n : Nat) (ys : List α) (i : Int), 0 ≤ i → i < (ys.length : Int) → ys.length ≤ 1048576 → ys.getD i.toNat d = y → H q (n + 1) ys kk i = H q n ys r (i + 1)))
    (hE : ∀ q n kk i (ys : List α), (ys.length : Int) ≤ i → L q (n + 1) kk i ys = some (kk, ys)) (hHE : ∀ q n kk i (ys : List α), (ys.length : Int) ≤ i → H q (n + 1) ys kk i = some kk)
    (hf : ∀ q (xs : List α) kk, f q xs kk = L q q kk 0 xs) (hg : ∀ q (xs : List α) kk, g q xs kk = H q q xs kk 0) {C : Int} (hC : 1048576 * B ≤ C) : MHOk (fun xs : List α => xs.length ≤ 1048576 ∧ ∀ x, List.Mem x xs → F x) f g C := by
  intro xs ⟨hl, hx⟩
  refine (Ev.all fun x m => hS x (hx x m)).two (Ev.gt xs.length) fun q h1 h2 kk h0 hM => ?_
  have key : ∀ (m : Nat) (i : Int) (kk : Int) (ys : List α), 0 ≤ i → (ys.length : Int) - i = m → ys.length = xs.length → ys.drop i.toNat = xs.drop i.toNat → 0 ≤ kk → kk + m * B ≤ 9223372036854775000 →
      ∃ r zs, (∀ p, m < p → L q p kk i ys = some (r, zs)) ∧ kk ≤ r ∧ r ≤ kk + m * B ∧ zs.length = ys.length ∧ zs.take i.toNat = ys.take i.toNat ∧ ∀ p, m < p → H q p zs kk i = some r := by
    intro m
    induction m with
    | zero =>
      intro i kk ys hi hm hyl hd g0 gM
      refine ⟨kk, ys, fun p hp => ?_, Int.le_refl _, by omega, rfl, rfl, fun p hp => ?_⟩
      · obtain ⟨p, rfl⟩ : ∃ q, p = q + 1 := ⟨p - 1, by omega⟩
        exact hE q p kk i ys (by omega)
      · obtain ⟨p, rfl⟩ : ∃ q, p = q + 1 := ⟨p - 1, by omega⟩
        exact hHE q p kk i ys (by omega)
    | succ m ih =>
      intro i kk ys hi hm hyl hd g0 gM
      have hlt : i < (ys.length : Int) := by omega
      have hmul : ((m + 1 : Nat) : Int) * B = m * B + B := by rw [Int.natCast_succ, Int.add_mul, Int.one_mul]
      rw [hmul] at gM ⊢
      have hmB : 0 ≤ (m : Int) * B := Int.mul_nonneg (by omega) hB
      have h3 : (i + 1).toNat = i.toNat + 1 := by omega
      have hdd : ys.getD i.toNat d = xs.getD i.toNat d := by
        have e1 := drop_at ys d i hi hlt
        have e2 := drop_at xs d i hi (by omega)
        rw [e1, e2] at hd
        exact (List.cons.inj hd).1
      have hmem : xs.getD i.toNat d ∈ xs := getD_mem xs d hi (by omega)
      obtain ⟨r, y, r1, r2, eL, eH⟩ := h1 _ hmem kk g0 (by omega)
      obtain ⟨r', zs, e', s1, s2, s3, s4, s5⟩ := ih (i + 1) r (ys.set i.toNat y) (by omega) (by simp; omega) (by simpa using hyl) (by
        rw [h3, List.drop_set_of_lt (by omega), ← List.drop_drop, ← List.drop_drop, hd]) (by omega) (by omega)
      have hzl : zs.length = ys.length := by rw [s3]; simp
      rw [h3] at s4
      have hzi : zs.getD i.toNat d = y := by
        have e1 : zs.getD i.toNat d = (zs.take (i.toNat + 1)).getD i.toNat d := by simp [List.getD_eq_getElem?_getD, List.getElem?_take]
        rw [e1, s4]
        have : i.toNat < ys.length := by omega
        simp [List.getD_eq_getElem?_getD, List.getElem?_take, this]
      refine ⟨r', zs, fun p hp => ?_, by omega, by omega, hzl, ?_, fun p hp => ?_⟩
      · obtain ⟨p, rfl⟩ : ∃ q, p = q + 1 := ⟨p - 1, by omega⟩
        rw [eL p ys i hi hlt (by omega) hdd]; exact e' p (by omega)
      · have : zs.take i.toNat = (zs.take (i.toNat + 1)).take i.toNat := by rw [List.take_take, Nat.min_eq_left (by omega)]
        rw [this, s4, List.take_take, Nat.min_eq_left (by omega), List.take_set, List.set_eq_of_length_le (by simp; omega)]
      · obtain ⟨p, rfl⟩ : ∃ q, p = q + 1 := ⟨p - 1, by omega⟩
        rw [eH p zs i hi (by omega) (by omega) hzi]; exact s5 p (by omega)
  have hmb : (xs.length : Int) * B ≤ 1048576 * B := Int.mul_le_mul_of_nonneg_right (by omega) hB
  obtain ⟨r, zs, e, s1, s2, _, _, s5⟩ := key xs.length 0 kk xs (by omega) (by omega) rfl rfl h0 (by omega)
  exact ⟨r, zs, by rw [hf]; exact e q h2, s1, by omega, by rw [hg]; exact s5 q h2⟩

theorem mhIntS_ok : MHOk (FitT (.row (.int .i64))) laws_markIntS laws_heldIntS 1048576 := mh_row (α := Int) (d := 0) (F := FitT (.int .i64)) (B := 1) (L := laws_markIntS.l2) (H := laws_heldIntS.l2) (by omega) (fun x hx => ((Ev.of fun _ => trivial)).mono fun q hq kk h0 hM => by
  obtain ⟨_⟩ := hq
  refine ⟨kk + 1, kk, by omega, by omega, fun n ys i i0 i1 hl hx' => ?_, fun n ys i i0 i1 hl hx' => ?_⟩
  · rw [laws_markIntS.l2_s]
    simp (disch := omega) only [List.length_set, List.set_set, getD_set_same, iteB_pos, wrap_next, hx', bindO_some]
    try (first | exact rfl | (simp (disch := omega) only [bindO_some, wrap_next, List.length_set, List.set_set, getD_set_same, iteB_pos]; exact rfl))
  · rw [laws_heldIntS.l2_s]
    simp (disch := omega) only [iteB_pos, iteB_neg, wrap_next, hx', bindO_some, bne_self_eq_false, beq_self_eq_true, Bool.not_true, iteB_false]
    first | done | exact rfl) (fun q n kk i ys h => by rw [laws_markIntS.l2_s, iteB_neg (by omega)]) (fun q n kk i ys h => by rw [laws_heldIntS.l2_s, iteB_neg (by omega)]) (fun q xs kk => laws_markIntS_e q xs kk) (fun q xs kk => laws_heldIntS_e q xs kk) (by omega)
theorem mhTacS_ok : MHOk (FitT (.row (.pair (.int .i64) (.pair (.int .i64) (.pair (.int .i64) (.pair (.int .i64) (.pair (.int .i64) (.pair .str (.pair (.row (.int .i64)) .unit))))))))) laws_markTacS laws_heldTacS 1099517919232 := mh_row (α := (Int × Int × Int × Int × Int × ByteArray × (List Int) × Unit)) (d := (Ty.dflt (.pair (.int .i64) (.pair (.int .i64) (.pair (.int .i64) (.pair (.int .i64) (.pair (.int .i64) (.pair .str (.pair (.row (.int .i64)) .unit))))))))) (F := FitT (.pair (.int .i64) (.pair (.int .i64) (.pair (.int .i64) (.pair (.int .i64) (.pair (.int .i64) (.pair .str (.pair (.row (.int .i64)) .unit)))))))) (B := 1048582) (L := laws_markTacS.l2) (H := laws_heldTacS.l2) (by omega) (fun x hx => (((markText_ok).and (((mhIntS_ok (x.2.2.2.2.2.2.1) hx.2.2.2.2.2.2.1)).and (Ev.of fun _ => trivial)))).mono fun q hq kk h0 hM => by
  obtain ⟨t0, p1, _⟩ := hq
  obtain ⟨s1, w1⟩ := t0 (kk + 1 + 1 + 1 + 1 + 1) (by omega) (by omega)
  obtain ⟨r1, (z1 : List Int), e1, l1, u1, q1⟩ := p1 (kk + 1 + 1 + 1 + 1 + 1 + 1) (by omega) (by omega)
  replace e1 : laws_markIntS q (x.2.2.2.2.2.2.1) (kk + 1 + 1 + 1 + 1 + 1 + 1) = some (r1, z1) := e1
  replace q1 : laws_heldIntS q z1 (kk + 1 + 1 + 1 + 1 + 1 + 1) = some r1 := q1
  refine ⟨r1, (kk, kk + 1, kk + 1 + 1, kk + 1 + 1 + 1, kk + 1 + 1 + 1 + 1, s1, z1, ()), by omega, by omega, fun n ys i i0 i1 hl hx' => ?_, fun n ys i i0 i1 hl hx' => ?_⟩
  · rw [laws_markTacS.l2_s]
    obtain ⟨dd, hdd⟩ : ∃ d : (Int × Int × Int × Int × Int × ByteArray × (List Int) × Unit), d = Ty.dflt (.pair (.int .i64) (.pair (.int .i64) (.pair (.int .i64) (.pair (.int .i64) (.pair (.int .i64) (.pair .str (.pair (.row (.int .i64)) .unit))))))) := ⟨_, rfl⟩
    rw [← hdd] at hx' ⊢
    simp (disch := omega) only [List.length_set, List.set_set, getD_set_same, iteB_pos, wrap_next, hx', bindO_some, w1, e1]
    try (first | exact rfl | (simp (disch := omega) only [bindO_some, wrap_next, List.length_set, List.set_set, getD_set_same, iteB_pos]; exact rfl))
  · rw [laws_heldTacS.l2_s]
    obtain ⟨dd, hdd⟩ : ∃ d : (Int × Int × Int × Int × Int × ByteArray × (List Int) × Unit), d = Ty.dflt (.pair (.int .i64) (.pair (.int .i64) (.pair (.int .i64) (.pair (.int .i64) (.pair (.int .i64) (.pair .str (.pair (.row (.int .i64)) .unit))))))) := ⟨_, rfl⟩
    rw [← hdd] at hx' ⊢
    simp (disch := omega) only [iteB_pos, iteB_neg, wrap_next, hx', bindO_some, bne_self_eq_false, beq_self_eq_true, Bool.not_true, iteB_false, w1, q1]
    first | done | exact rfl) (fun q n kk i ys h => by rw [laws_markTacS.l2_s, iteB_neg (by omega)]) (fun q n kk i ys h => by rw [laws_heldTacS.l2_s, iteB_neg (by omega)]) (fun q xs kk => laws_markTacS_e q xs kk) (fun q xs kk => laws_heldTacS_e q xs kk) (by omega)
theorem mhUnitS_ok : MHOk (FitT (.row (.pair .str (.pair (.int .i64) (.pair (.int .i64) (.pair (.row (.pair (.int .i64) (.pair (.int .i64) (.pair (.int .i64) (.pair (.int .i64) (.pair (.int .i64) (.pair .str (.pair (.row (.int .i64)) .unit)))))))) .unit)))))) laws_markUnitS laws_heldUnitS 1152928101679759360 := mh_row (α := (ByteArray × Int × Int × (List (Int × Int × Int × Int × Int × ByteArray × (List Int) × Unit)) × Unit)) (d := (Ty.dflt (.pair .str (.pair (.int .i64) (.pair (.int .i64) (.pair (.row (.pair (.int .i64) (.pair (.int .i64) (.pair (.int .i64) (.pair (.int .i64) (.pair (.int .i64) (.pair .str (.pair (.row (.int .i64)) .unit)))))))) .unit)))))) (F := FitT (.pair .str (.pair (.int .i64) (.pair (.int .i64) (.pair (.row (.pair (.int .i64) (.pair (.int .i64) (.pair (.int .i64) (.pair (.int .i64) (.pair (.int .i64) (.pair .str (.pair (.row (.int .i64)) .unit)))))))) .unit))))) (B := 1099517919235) (L := laws_markUnitS.l2) (H := laws_heldUnitS.l2) (by omega) (fun x hx => (((markText_ok).and (((mhTacS_ok (x.2.2.2.1) hx.2.2.2.1)).and (Ev.of fun _ => trivial)))).mono fun q hq kk h0 hM => by
  obtain ⟨t0, p1, _⟩ := hq
  obtain ⟨s1, w1⟩ := t0 (kk) (by omega) (by omega)
  obtain ⟨r1, (z1 : List (Int × Int × Int × Int × Int × ByteArray × (List Int) × Unit)), e1, l1, u1, q1⟩ := p1 (kk + 1 + 1 + 1) (by omega) (by omega)
  replace e1 : laws_markTacS q (x.2.2.2.1) (kk + 1 + 1 + 1) = some (r1, z1) := e1
  replace q1 : laws_heldTacS q z1 (kk + 1 + 1 + 1) = some r1 := q1
  refine ⟨r1, (s1, kk + 1, kk + 1 + 1, z1, ()), by omega, by omega, fun n ys i i0 i1 hl hx' => ?_, fun n ys i i0 i1 hl hx' => ?_⟩
  · rw [laws_markUnitS.l2_s]
    obtain ⟨dd, hdd⟩ : ∃ d : (ByteArray × Int × Int × (List (Int × Int × Int × Int × Int × ByteArray × (List Int) × Unit)) × Unit), d = Ty.dflt (.pair .str (.pair (.int .i64) (.pair (.int .i64) (.pair (.row (.pair (.int .i64) (.pair (.int .i64) (.pair (.int .i64) (.pair (.int .i64) (.pair (.int .i64) (.pair .str (.pair (.row (.int .i64)) .unit)))))))) .unit)))) := ⟨_, rfl⟩
    rw [← hdd] at hx' ⊢
    simp (disch := omega) only [List.length_set, List.set_set, getD_set_same, iteB_pos, wrap_next, hx', bindO_some, w1, e1]
    try (first | exact rfl | (simp (disch := omega) only [bindO_some, wrap_next, List.length_set, List.set_set, getD_set_same, iteB_pos]; exact rfl))
  · rw [laws_heldUnitS.l2_s]
    obtain ⟨dd, hdd⟩ : ∃ d : (ByteArray × Int × Int × (List (Int × Int × Int × Int × Int × ByteArray × (List Int) × Unit)) × Unit), d = Ty.dflt (.pair .str (.pair (.int .i64) (.pair (.int .i64) (.pair (.row (.pair (.int .i64) (.pair (.int .i64) (.pair (.int .i64) (.pair (.int .i64) (.pair (.int .i64) (.pair .str (.pair (.row (.int .i64)) .unit)))))))) .unit)))) := ⟨_, rfl⟩
    rw [← hdd] at hx' ⊢
    simp (disch := omega) only [iteB_pos, iteB_neg, wrap_next, hx', bindO_some, bne_self_eq_false, beq_self_eq_true, Bool.not_true, iteB_false, w1, q1]
    first | done | exact rfl) (fun q n kk i ys h => by rw [laws_markUnitS.l2_s, iteB_neg (by omega)]) (fun q n kk i ys h => by rw [laws_heldUnitS.l2_s, iteB_neg (by omega)]) (fun q xs kk => laws_markUnitS_e q xs kk) (fun q xs kk => laws_heldUnitS_e q xs kk) (by omega)
theorem mhFrameS_ok : MHOk (FitT (.row (.pair (.int .i64) (.pair (.int .i64) (.pair (.row (.int .i64)) (.pair (.int .i64) .unit)))))) laws_markFrameS laws_heldFrameS 1099514773504 := mh_row (α := (Int × Int × (List Int) × Int × Unit)) (d := (Ty.dflt (.pair (.int .i64) (.pair (.int .i64) (.pair (.row (.int .i64)) (.pair (.int .i64) .unit)))))) (F := FitT (.pair (.int .i64) (.pair (.int .i64) (.pair (.row (.int .i64)) (.pair (.int .i64) .unit))))) (B := 1048579) (L := laws_markFrameS.l2) (H := laws_heldFrameS.l2) (by omega) (fun x hx => ((((mhIntS_ok (x.2.2.1) hx.2.2.1)).and (Ev.of fun _ => trivial))).mono fun q hq kk h0 hM => by
  obtain ⟨p1, _⟩ := hq
  obtain ⟨r1, (z1 : List Int), e1, l1, u1, q1⟩ := p1 (kk + 1 + 1) (by omega) (by omega)
  replace e1 : laws_markIntS q (x.2.2.1) (kk + 1 + 1) = some (r1, z1) := e1
  replace q1 : laws_heldIntS q z1 (kk + 1 + 1) = some r1 := q1
  refine ⟨r1 + 1, (kk, kk + 1, z1, r1, ()), by omega, by omega, fun n ys i i0 i1 hl hx' => ?_, fun n ys i i0 i1 hl hx' => ?_⟩
  · rw [laws_markFrameS.l2_s]
    obtain ⟨dd, hdd⟩ : ∃ d : (Int × Int × (List Int) × Int × Unit), d = Ty.dflt (.pair (.int .i64) (.pair (.int .i64) (.pair (.row (.int .i64)) (.pair (.int .i64) .unit)))) := ⟨_, rfl⟩
    rw [← hdd] at hx' ⊢
    simp (disch := omega) only [List.length_set, List.set_set, getD_set_same, iteB_pos, wrap_next, hx', bindO_some, e1]
    try (first | exact rfl | (simp (disch := omega) only [bindO_some, wrap_next, List.length_set, List.set_set, getD_set_same, iteB_pos]; exact rfl))
  · rw [laws_heldFrameS.l2_s]
    obtain ⟨dd, hdd⟩ : ∃ d : (Int × Int × (List Int) × Int × Unit), d = Ty.dflt (.pair (.int .i64) (.pair (.int .i64) (.pair (.row (.int .i64)) (.pair (.int .i64) .unit)))) := ⟨_, rfl⟩
    rw [← hdd] at hx' ⊢
    simp (disch := omega) only [iteB_pos, iteB_neg, wrap_next, hx', bindO_some, bne_self_eq_false, beq_self_eq_true, Bool.not_true, iteB_false, q1]
    first | done | exact rfl) (fun q n kk i ys h => by rw [laws_markFrameS.l2_s, iteB_neg (by omega)]) (fun q n kk i ys h => by rw [laws_heldFrameS.l2_s, iteB_neg (by omega)]) (fun q xs kk => laws_markFrameS_e q xs kk) (fun q xs kk => laws_heldFrameS_e q xs kk) (by omega)
theorem mhBodyS_ok : MHOk (FitT (.row (.pair (.row (.pair (.int .i64) (.pair (.int .i64) (.pair (.row (.int .i64)) (.pair (.int .i64) .unit))))) (.pair .bool (.pair .bool (.pair (.int .i64) (.pair (.int .i64) (.pair (.int .i64) (.pair (.int .i64) (.pair (.int .i64) .unit)))))))))) laws_markBodyS laws_heldBodyS 1152924803149070336 := mh_row (α := ((List (Int × Int × (List Int) × Int × Unit)) × Bool × Bool × Int × Int × Int × Int × Int × Unit)) (d := (Ty.dflt (.pair (.row (.pair (.int .i64) (.pair (.int .i64) (.pair (.row (.int .i64)) (.pair (.int .i64) .unit))))) (.pair .bool (.pair .bool (.pair (.int .i64) (.pair (.int .i64) (.pair (.int .i64) (.pair (.int .i64) (.pair (.int .i64) .unit)))))))))) (F := FitT (.pair (.row (.pair (.int .i64) (.pair (.int .i64) (.pair (.row (.int .i64)) (.pair (.int .i64) .unit))))) (.pair .bool (.pair .bool (.pair (.int .i64) (.pair (.int .i64) (.pair (.int .i64) (.pair (.int .i64) (.pair (.int .i64) .unit))))))))) (B := 1099514773511) (L := laws_markBodyS.l2) (H := laws_heldBodyS.l2) (by omega) (fun x hx => ((((mhFrameS_ok (x.1) hx.1)).and (Ev.of fun _ => trivial))).mono fun q hq kk h0 hM => by
  obtain ⟨p1, _⟩ := hq
  obtain ⟨r1, (z1 : List (Int × Int × (List Int) × Int × Unit)), e1, l1, u1, q1⟩ := p1 (kk) (by omega) (by omega)
  replace e1 : laws_markFrameS q (x.1) (kk) = some (r1, z1) := e1
  replace q1 : laws_heldFrameS q z1 (kk) = some r1 := q1
  refine ⟨r1 + 1 + 1 + 1 + 1 + 1 + 1 + 1, (z1, (Int.tmod (r1) 3 == 0), (Int.tmod (r1 + 1) 3 == 0), r1 + 1 + 1, r1 + 1 + 1 + 1, r1 + 1 + 1 + 1 + 1, r1 + 1 + 1 + 1 + 1 + 1, r1 + 1 + 1 + 1 + 1 + 1 + 1, ()), by omega, by omega, fun n ys i i0 i1 hl hx' => ?_, fun n ys i i0 i1 hl hx' => ?_⟩
  · rw [laws_markBodyS.l2_s]
    obtain ⟨dd, hdd⟩ : ∃ d : ((List (Int × Int × (List Int) × Int × Unit)) × Bool × Bool × Int × Int × Int × Int × Int × Unit), d = Ty.dflt (.pair (.row (.pair (.int .i64) (.pair (.int .i64) (.pair (.row (.int .i64)) (.pair (.int .i64) .unit))))) (.pair .bool (.pair .bool (.pair (.int .i64) (.pair (.int .i64) (.pair (.int .i64) (.pair (.int .i64) (.pair (.int .i64) .unit)))))))) := ⟨_, rfl⟩
    rw [← hdd] at hx' ⊢
    simp (disch := omega) only [List.length_set, List.set_set, getD_set_same, iteB_pos, wrap_next, hx', bindO_some, e1]
    try (first | exact rfl | (simp (disch := omega) only [bindO_some, wrap_next, List.length_set, List.set_set, getD_set_same, iteB_pos]; exact rfl))
  · rw [laws_heldBodyS.l2_s]
    obtain ⟨dd, hdd⟩ : ∃ d : ((List (Int × Int × (List Int) × Int × Unit)) × Bool × Bool × Int × Int × Int × Int × Int × Unit), d = Ty.dflt (.pair (.row (.pair (.int .i64) (.pair (.int .i64) (.pair (.row (.int .i64)) (.pair (.int .i64) .unit))))) (.pair .bool (.pair .bool (.pair (.int .i64) (.pair (.int .i64) (.pair (.int .i64) (.pair (.int .i64) (.pair (.int .i64) .unit)))))))) := ⟨_, rfl⟩
    rw [← hdd] at hx' ⊢
    simp (disch := omega) only [iteB_pos, iteB_neg, wrap_next, hx', bindO_some, bne_self_eq_false, beq_self_eq_true, Bool.not_true, iteB_false, q1]
    first | done | exact rfl) (fun q n kk i ys h => by rw [laws_markBodyS.l2_s, iteB_neg (by omega)]) (fun q n kk i ys h => by rw [laws_heldBodyS.l2_s, iteB_neg (by omega)]) (fun q xs kk => laws_markBodyS_e q xs kk) (fun q xs kk => laws_heldBodyS_e q xs kk) (by omega)
theorem mhWaitS_ok : MHOk (FitT (.row (.pair (.int .i64) (.pair (.int .i64) (.pair (.int .i64) (.pair (.int .i64) .unit)))))) laws_markWaitS laws_heldWaitS 4194304 := mh_row (α := (Int × Int × Int × Int × Unit)) (d := (Ty.dflt (.pair (.int .i64) (.pair (.int .i64) (.pair (.int .i64) (.pair (.int .i64) .unit)))))) (F := FitT (.pair (.int .i64) (.pair (.int .i64) (.pair (.int .i64) (.pair (.int .i64) .unit))))) (B := 4) (L := laws_markWaitS.l2) (H := laws_heldWaitS.l2) (by omega) (fun x hx => ((Ev.of fun _ => trivial)).mono fun q hq kk h0 hM => by
  obtain ⟨_⟩ := hq
  refine ⟨kk + 1 + 1 + 1 + 1, (kk, kk + 1, kk + 1 + 1, kk + 1 + 1 + 1, ()), by omega, by omega, fun n ys i i0 i1 hl hx' => ?_, fun n ys i i0 i1 hl hx' => ?_⟩
  · rw [laws_markWaitS.l2_s]
    obtain ⟨dd, hdd⟩ : ∃ d : (Int × Int × Int × Int × Unit), d = Ty.dflt (.pair (.int .i64) (.pair (.int .i64) (.pair (.int .i64) (.pair (.int .i64) .unit)))) := ⟨_, rfl⟩
    rw [← hdd] at hx' ⊢
    simp (disch := omega) only [List.length_set, List.set_set, getD_set_same, iteB_pos, wrap_next, hx', bindO_some]
    try (first | exact rfl | (simp (disch := omega) only [bindO_some, wrap_next, List.length_set, List.set_set, getD_set_same, iteB_pos]; exact rfl))
  · rw [laws_heldWaitS.l2_s]
    obtain ⟨dd, hdd⟩ : ∃ d : (Int × Int × Int × Int × Unit), d = Ty.dflt (.pair (.int .i64) (.pair (.int .i64) (.pair (.int .i64) (.pair (.int .i64) .unit)))) := ⟨_, rfl⟩
    rw [← hdd] at hx' ⊢
    simp (disch := omega) only [iteB_pos, iteB_neg, wrap_next, hx', bindO_some, bne_self_eq_false, beq_self_eq_true, Bool.not_true, iteB_false]
    first | done | exact rfl) (fun q n kk i ys h => by rw [laws_markWaitS.l2_s, iteB_neg (by omega)]) (fun q n kk i ys h => by rw [laws_heldWaitS.l2_s, iteB_neg (by omega)]) (fun q xs kk => laws_markWaitS_e q xs kk) (fun q xs kk => laws_heldWaitS_e q xs kk) (by omega)
theorem mhChanS_ok : MHOk (FitT (.row (.pair (.int .i64) (.pair .bool (.pair (.row (.int .i64)) (.pair (.row (.pair (.int .i64) (.pair (.int .i64) (.pair (.int .i64) (.pair (.int .i64) .unit))))) (.pair (.row (.pair (.int .i64) (.pair (.int .i64) (.pair (.int .i64) (.pair (.int .i64) .unit))))) .unit))))))) laws_markChanS laws_heldChanS 9895606747136 := mh_row (α := (Int × Bool × (List Int) × (List (Int × Int × Int × Int × Unit)) × (List (Int × Int × Int × Int × Unit)) × Unit)) (d := (Ty.dflt (.pair (.int .i64) (.pair .bool (.pair (.row (.int .i64)) (.pair (.row (.pair (.int .i64) (.pair (.int .i64) (.pair (.int .i64) (.pair (.int .i64) .unit))))) (.pair (.row (.pair (.int .i64) (.pair (.int .i64) (.pair (.int .i64) (.pair (.int .i64) .unit))))) .unit))))))) (F := FitT (.pair (.int .i64) (.pair .bool (.pair (.row (.int .i64)) (.pair (.row (.pair (.int .i64) (.pair (.int .i64) (.pair (.int .i64) (.pair (.int .i64) .unit))))) (.pair (.row (.pair (.int .i64) (.pair (.int .i64) (.pair (.int .i64) (.pair (.int .i64) .unit))))) .unit)))))) (B := 9437186) (L := laws_markChanS.l2) (H := laws_heldChanS.l2) (by omega) (fun x hx => ((((mhIntS_ok (x.2.2.1) hx.2.2.1)).and (((mhWaitS_ok (x.2.2.2.1) hx.2.2.2.1)).and (((mhWaitS_ok (x.2.2.2.2.1) hx.2.2.2.2.1)).and (Ev.of fun _ => trivial))))).mono fun q hq kk h0 hM => by
  obtain ⟨p1, p2, p3, _⟩ := hq
  obtain ⟨r1, (z1 : List Int), e1, l1, u1, q1⟩ := p1 (kk + 1 + 1) (by omega) (by omega)
  replace e1 : laws_markIntS q (x.2.2.1) (kk + 1 + 1) = some (r1, z1) := e1
  replace q1 : laws_heldIntS q z1 (kk + 1 + 1) = some r1 := q1
  obtain ⟨r2, (z2 : List (Int × Int × Int × Int × Unit)), e2, l2, u2, q2⟩ := p2 (r1) (by omega) (by omega)
  replace e2 : laws_markWaitS q (x.2.2.2.1) (r1) = some (r2, z2) := e2
  replace q2 : laws_heldWaitS q z2 (r1) = some r2 := q2
  obtain ⟨r3, (z3 : List (Int × Int × Int × Int × Unit)), e3, l3, u3, q3⟩ := p3 (r2) (by omega) (by omega)
  replace e3 : laws_markWaitS q (x.2.2.2.2.1) (r2) = some (r3, z3) := e3
  replace q3 : laws_heldWaitS q z3 (r2) = some r3 := q3
  refine ⟨r3, (kk, (Int.tmod (kk + 1) 3 == 0), z1, z2, z3, ()), by omega, by omega, fun n ys i i0 i1 hl hx' => ?_, fun n ys i i0 i1 hl hx' => ?_⟩
  · rw [laws_markChanS.l2_s]
    obtain ⟨dd, hdd⟩ : ∃ d : (Int × Bool × (List Int) × (List (Int × Int × Int × Int × Unit)) × (List (Int × Int × Int × Int × Unit)) × Unit), d = Ty.dflt (.pair (.int .i64) (.pair .bool (.pair (.row (.int .i64)) (.pair (.row (.pair (.int .i64) (.pair (.int .i64) (.pair (.int .i64) (.pair (.int .i64) .unit))))) (.pair (.row (.pair (.int .i64) (.pair (.int .i64) (.pair (.int .i64) (.pair (.int .i64) .unit))))) .unit))))) := ⟨_, rfl⟩
    rw [← hdd] at hx' ⊢
    simp (disch := omega) only [List.length_set, List.set_set, getD_set_same, iteB_pos, wrap_next, hx', bindO_some, e1, e2, e3]
    try (first | exact rfl | (simp (disch := omega) only [bindO_some, wrap_next, List.length_set, List.set_set, getD_set_same, iteB_pos]; exact rfl))
  · rw [laws_heldChanS.l2_s]
    obtain ⟨dd, hdd⟩ : ∃ d : (Int × Bool × (List Int) × (List (Int × Int × Int × Int × Unit)) × (List (Int × Int × Int × Int × Unit)) × Unit), d = Ty.dflt (.pair (.int .i64) (.pair .bool (.pair (.row (.int .i64)) (.pair (.row (.pair (.int .i64) (.pair (.int .i64) (.pair (.int .i64) (.pair (.int .i64) .unit))))) (.pair (.row (.pair (.int .i64) (.pair (.int .i64) (.pair (.int .i64) (.pair (.int .i64) .unit))))) .unit))))) := ⟨_, rfl⟩
    rw [← hdd] at hx' ⊢
    simp (disch := omega) only [iteB_pos, iteB_neg, wrap_next, hx', bindO_some, bne_self_eq_false, beq_self_eq_true, Bool.not_true, iteB_false, q1, q2, q3]
    first | done | exact rfl) (fun q n kk i ys h => by rw [laws_markChanS.l2_s, iteB_neg (by omega)]) (fun q n kk i ys h => by rw [laws_heldChanS.l2_s, iteB_neg (by omega)]) (fun q xs kk => laws_markChanS_e q xs kk) (fun q xs kk => laws_heldChanS_e q xs kk) (by omega)

/-! Copies of units. -/
theorem copy_rounds {α : Type} (d : α) (l : List α) (hl : l.length ≤ 1048576) (L : Nat → Int → List α → Option (List α))
    (hS : ∀ (n : Nat) (i : Int) (acc : List α), 0 ≤ i → i < (l.length : Int) → acc.length ≤ 1048576 → L (n + 1) i acc = L n (i + 1) (acc ++ [l.getD i.toNat d]))
    (hE : ∀ (n : Nat) (i : Int) (acc : List α), (l.length : Int) ≤ i → L (n + 1) i acc = some acc) (n : Nat) (hn : l.length < n) : L n 0 [] = some l := by
  have key : ∀ (m : Nat) (i : Int) (n : Nat) (acc : List α), 0 ≤ i → (l.length : Int) - i = m → m < n → (acc.length : Int) ≤ i → L n i acc = some (acc ++ l.drop i.toNat) := by
    intro m
    induction m with
    | zero =>
      intro i n acc h0 h1 h2 h3
      obtain ⟨n, rfl⟩ : ∃ p, n = p + 1 := ⟨n - 1, by omega⟩
      rw [hE n i acc (by omega), List.drop_eq_nil_of_le (by omega), List.append_nil]
    | succ m ih =>
      intro i n acc h0 h1 h2 h3
      obtain ⟨n, rfl⟩ : ∃ p, n = p + 1 := ⟨n - 1, by omega⟩
      rw [hS n i acc h0 (by omega) (by omega), ih (i + 1) n _ (by omega) (by omega) (by omega) (by rw [List.length_append]; simp only [List.length_cons, List.length_nil]; omega), drop_at l d i h0 (by omega)]
      simp
  have := key l.length 0 n [] (Int.le_refl _) (by omega) hn (Int.le_refl _)
  rw [this]; rfl
theorem limK {α : Type} {l : List α} {c : Nat} (h : l.length ≤ 2000000) (hc : c ≤ 200) : decide ((List.length l) * c ≤ lim) = true := decide_eq_true (by
  have : l.length * c ≤ 2000000 * 200 := Nat.mul_le_mul h hc
  simp [lim]; omega)
structure CpT (t : TT) : Prop where
  a : t.2.2.2.2.2.2.1.length ≤ 1048576
structure CpU (u : TU) : Prop where
  a : u.2.2.2.1.length ≤ 1048576
  b : ∀ t ∈ u.2.2.2.1, CpT t
theorem spec_ctac (k : Nat) (t : TT) (h : CpT t) : spec_l10Tac k t = some t := by
  have := h.a
  rw [spec_l10Tac_e, List.nil_append, limK (by omega) (by omega), iteB_true]
theorem impl_ctac (k : Nat) (t : TT) (h : CpT t) : impl_copyTac k t = some t := by
  have := h.a
  rw [impl_copyTac_e, slices_Clone_int_e, limK (by omega) (by omega), iteB_true, bindO_some]
theorem spec_ccode_l3 (k : Nat) (l : List TT) : ∀ (n : Nat) (i : Int), spec_l10Code.l3 k n l i = spec_l10Code.l3b k n l i [] := by
  intro n; cases n with
  | zero => intro i; rw [spec_l10Code.l3_0, spec_l10Code.l3b_0]
  | succ n => intro i; rw [spec_l10Code.l3_s, spec_l10Code.l3b_s]
theorem spec_ccode (l : List TT) (hl : l.length ≤ 1048576) (h : ∀ t ∈ l, CpT t) (k : Nat) (hk : l.length < k) : spec_l10Code k l = some l := by
  rw [spec_l10Code_e, spec_ccode_l3]
  refine copy_rounds dT l hl (fun n i acc => spec_l10Code.l3b k n l i acc) (fun n i acc h0 h1 h2 => ?_) (fun n i acc h1 => ?_) k hk
  · show spec_l10Code.l3b k (n + 1) l i acc = _
    rw [spec_l10Code.l3b_s, decide_eq_true h1, iteB_true, decide_eq_true h0, iteB_true, iteB_true, spec_ctac k _ (h _ (getD_mem l dT h0 h1)), bindO_some, next_i h0 h1 (by omega), limK (by rw [List.length_append]; show acc.length + 1 ≤ 2000000; omega) (by omega), iteB_true]
  · show spec_l10Code.l3b k (n + 1) l i acc = _
    rw [spec_l10Code.l3b_s, decide_eq_false (by omega), iteB_false]
theorem spec_cunit (u : TU) (h : CpU u) (k : Nat) (hk : u.2.2.2.1.length < k) : spec_l10Copy k u = some u := by
  rw [spec_l10Copy_e, spec_ccode u.2.2.2.1 h.a h.b k hk, bindO_some]
theorem impl_cunit_l3 (k : Nat) (l : List TT) (m : Int) (u : TU) (a : ByteArray) (b c : Int) : ∀ (n : Nat) (i : Int), impl_copyUnit.l3 k n l m i u a b c = impl_copyUnit.l3b k n l m i u a b c [] := by
  intro n; cases n with
  | zero => intro i; rw [impl_copyUnit.l3_0, impl_copyUnit.l3b_0]
  | succ n => intro i; rw [impl_copyUnit.l3_s, impl_copyUnit.l3b_s]
theorem impl_cunit (u : TU) (h : CpU u) (k : Nat) (hk : u.2.2.2.1.length < k) : impl_copyUnit k u = some u := by
  have hl := h.a
  have key : ∀ (m : Nat) (i : Int) (n : Nat) (acc : List TT), 0 ≤ i → (u.2.2.2.1.length : Int) - i = m → m < n → (acc.length : Int) ≤ i → impl_copyUnit.l3b k n u.2.2.2.1 (u.2.2.2.1.length : Int) i u ByteArray.empty 0 0 acc = some (u.1, u.2.1, u.2.2.1, acc ++ u.2.2.2.1.drop i.toNat, ()) := by
    intro m
    induction m with
    | zero =>
      intro i n acc h0 h1 h2 h3
      obtain ⟨n, rfl⟩ : ∃ p, n = p + 1 := ⟨n - 1, by omega⟩
      rw [impl_copyUnit.l3b_s, decide_eq_false (by omega), iteB_false, List.drop_eq_nil_of_le (by omega), List.append_nil]
    | succ m ih =>
      intro i n acc h0 h1 h2 h3
      obtain ⟨n, rfl⟩ : ∃ p, n = p + 1 := ⟨n - 1, by omega⟩
      have hlt : i < (u.2.2.2.1.length : Int) := by omega
      rw [impl_copyUnit.l3b_s, decide_eq_true hlt, iteB_true, decide_eq_true h0, iteB_true, iteB_true, impl_ctac k _ (h.b _ (getD_mem u.2.2.2.1 dT h0 hlt)), bindO_some, next_i h0 hlt (by omega), limK (by rw [List.length_append]; show acc.length + 1 ≤ 2000000; omega) (by omega), iteB_true]
      have := ih (i + 1) n (acc ++ [u.2.2.2.1.getD i.toNat dT]) (by omega) (by omega) (by omega) (by rw [List.length_append]; simp only [List.length_cons, List.length_nil]; omega)
      rw [drop_at u.2.2.2.1 dT i h0 hlt]
      rw [List.append_assoc] at this
      exact this
  rw [impl_copyUnit_e, impl_cunit_l3]
  exact key u.2.2.2.1.length 0 k [] (Int.le_refl _) (by omega) hk (Int.le_refl _)
theorem spec_cunits_l3 (k : Nat) (l : List TU) : ∀ (n : Nat) (i : Int), spec_l10Units.l3 k n l i = spec_l10Units.l3b k n l i [] := by
  intro n; cases n with
  | zero => intro i; rw [spec_l10Units.l3_0, spec_l10Units.l3b_0]
  | succ n => intro i; rw [spec_l10Units.l3_s, spec_l10Units.l3b_s]
theorem spec_cunits (l : List TU) (hl : l.length ≤ 1048576) (h : ∀ u ∈ l, CpU u) : Ev fun k => spec_l10Units k l = some l := by
  refine (Ev.all (p := fun u k => u.2.2.2.1.length < k) fun u (hu : u ∈ l) => Ev.gt u.2.2.2.1.length).two (Ev.gt l.length) fun k h1 hk => ?_
  rw [spec_l10Units_e, spec_cunits_l3]
  refine copy_rounds dU l hl (fun n i acc => spec_l10Units.l3b k n l i acc) (fun n i acc h0 h2 h3 => ?_) (fun n i acc h1 => ?_) k hk
  · show spec_l10Units.l3b k (n + 1) l i acc = _
    have hm := getD_mem l dU h0 h2
    rw [spec_l10Units.l3b_s, decide_eq_true h2, iteB_true, decide_eq_true h0, iteB_true, iteB_true, spec_cunit _ (h _ hm) k (h1 _ hm), bindO_some, next_i h0 h2 (by omega), limK (by rw [List.length_append]; show acc.length + 1 ≤ 2000000; omega) (by omega), iteB_true]
  · show spec_l10Units.l3b k (n + 1) l i acc = _
    rw [spec_l10Units.l3b_s, decide_eq_false (by omega), iteB_false]
theorem impl_cunits_l3 (k : Nat) (l : List TU) (m : Int) : ∀ (n : Nat) (i : Int), impl_copyUnits.l3 k n l m i = impl_copyUnits.l3b k n l m i [] := by
  intro n; cases n with
  | zero => intro i; rw [impl_copyUnits.l3_0, impl_copyUnits.l3b_0]
  | succ n => intro i; rw [impl_copyUnits.l3_s, impl_copyUnits.l3b_s]
theorem impl_cunits (l : List TU) (hl : l.length ≤ 1048576) (h : ∀ u ∈ l, CpU u) : Ev fun k => impl_copyUnits k l = some l := by
  refine (Ev.all (p := fun u k => u.2.2.2.1.length < k) fun u (hu : u ∈ l) => Ev.gt u.2.2.2.1.length).two (Ev.gt l.length) fun k h1 hk => ?_
  rw [impl_copyUnits_e, impl_cunits_l3]
  refine copy_rounds dU l hl (fun n i acc => impl_copyUnits.l3b k n l (l.length : Int) i acc) (fun n i acc h0 h2 h3 => ?_) (fun n i acc h1 => ?_) k hk
  · show impl_copyUnits.l3b k (n + 1) l (l.length : Int) i acc = _
    have hm := getD_mem l dU h0 h2
    rw [impl_copyUnits.l3b_s, decide_eq_true h2, iteB_true, decide_eq_true h0, iteB_true, iteB_true, impl_cunit _ (h _ hm) k (h1 _ hm), bindO_some, next_i h0 h2 (by omega), limK (by rw [List.length_append]; show acc.length + 1 ≤ 2000000; omega) (by omega), iteB_true]
  · show impl_copyUnits.l3b k (n + 1) l (l.length : Int) i acc = _
    rw [impl_copyUnits.l3b_s, decide_eq_false (by omega), iteB_false]

/-! A new world. -/
def unitsV (l : List TU) : Bool := allI (stepU l) l 0 && decide ((l.length : Int) ≤ 80)
theorem units_in {l : List TU} (h : unitsV l = true) : ∀ u ∈ l, 0 ≤ u.2.2.1 ∧ u.2.2.1 ≤ 250 := by
  have key : ∀ (r : List TU) (i : Int), allI (stepU l) r i = true → ∀ u ∈ r, 0 ≤ u.2.2.1 ∧ u.2.2.1 ≤ 250 := by
    intro r
    induction r with
    | nil => intro i _ u hu; simp at hu
    | cons a r ih =>
      intro i h u hu
      have h' : (stepU l i a && allI (stepU l) r (i + 1)) = true := h
      rw [Bool.and_eq_true] at h'
      rcases List.mem_cons.1 hu with rfl | hu
      · have := h'.1
        unfold stepU unitV at this
        simp only [Bool.and_eq_true, decide_eq_true_eq] at this
        exact this.1.1
      · exact ih (i + 1) h'.2 u hu
  unfold unitsV at h
  rw [Bool.and_eq_true] at h
  exact key l 0 h.1
abbrev TF : Type := Int × Int × (List Int) × Int × Unit
abbrev TB : Type := (List TF) × Bool × Bool × Int × Int × Int × Int × Int × Unit
abbrev TW : Type := Int × Int × Int × Int × Unit
abbrev TCh : Type := Int × Bool × (List Int) × (List TW) × (List TW) × Unit
abbrev TWo : Type := (List TU) × (List TB) × (List TCh) × (List Int) × Bool × Int × Unit
def bodyN (l : List TU) (at' : Int) : TB := ([(at', 0, List.replicate (Int.toNat (l.getD at'.toNat dU).2.2.1) 0, -1, ())], false, false, 1, 0, 0, -1, -1, ())
def w0 : TWo := ([], [], [], [], false, 0, ())
def mainB : ByteArray := (⟨#[109, 97, 105, 110]⟩ : ByteArray)
def newOk (l : List TU) : Bool := unitsV l && (!(decide (atV l mainB < 0)) && !(decide ((l.getD (atV l mainB).toNat dU).2.1 > 0)))
def newV (l : List TU) : TWo := bif newOk l then (l, [bodyN l (atV l mainB)], [], [], false, 0, ()) else w0
theorem at_in {l : List TU} (h : ¬ atV l mainB < 0) : 0 ≤ atV l mainB ∧ atV l mainB < (l.length : Int) := by
  have := firstOf_bd (named mainB) l 0 (Int.le_refl _)
  unfold atV at h ⊢
  have h2 := this (by omega)
  omega
theorem new_l2 (k : Nat) (l : List TU) (w : TWo) (hw : w.1 = l) (at' : Int) (h0 : 0 ≤ at') (h1 : at' < (l.length : Int)) (u : TU) (hu : l.getD at'.toNat dU = u) (hr : 0 ≤ u.2.2.1 ∧ u.2.2.1 ≤ 250) :
    ∀ (m j n : Nat), (j : Int) + m = u.2.2.1 → m < n → spec_l13New.l2 k n at' w false false 0 0 0 0 0 (List.replicate j 0) = some ([(at', 0, List.replicate (Int.toNat u.2.2.1) 0, -1, ())], false, false, 1, 0, 0, -1, -1, ()) := by
  intro m
  induction m with
  | zero =>
    intro j n hj hn
    obtain ⟨n, rfl⟩ : ∃ p, n = p + 1 := ⟨n - 1, by omega⟩
    rw [spec_l13New.l2_s, hw, decide_eq_true h0, iteB_true, decide_eq_true h1, iteB_true, hu, decide_eq_false (by rw [List.length_replicate]; omega), iteB_false]
    have : j = Int.toNat u.2.2.1 := by omega
    rw [this]
  | succ m ih =>
    intro j n hj hn
    obtain ⟨n, rfl⟩ : ∃ p, n = p + 1 := ⟨n - 1, by omega⟩
    have hrep : List.replicate j (0 : Int) ++ [0] = List.replicate (j + 1) 0 := by rw [← List.replicate_succ']
    rw [spec_l13New.l2_s, hw, decide_eq_true h0, iteB_true, decide_eq_true h1, iteB_true, hu, decide_eq_true (by rw [List.length_replicate]; omega), iteB_true, hrep, limK (by rw [List.length_replicate]; omega) (by omega), iteB_true]
    exact ih (j + 1) n (by omega) (by omega)
theorem spec_new (l : List TU) (hl : l.length ≤ 1048576) (h1 : ∀ u ∈ l, FitU u) (h2 : ∀ u ∈ l, CpU u) : Ev fun k => spec_WorldNew k l = some (newV l, newOk l, ()) := by
  refine ((spec_units l hl h1).and (spec_cunits l hl h2)).two ((Ev.gt l.length).and (Ev.gt 300)) fun k ha hk => ?_
  obtain ⟨a1, a2⟩ := ha
  obtain ⟨k1, k2⟩ := hk
  replace a1 : spec_UnitsOk k l = some (unitsV l) := a1
  rw [spec_WorldNew_e, spec_at l _ hl k k1, bindO_some, a1, bindO_some]
  show iteB (!(!unitsV l)) (iteB (!(decide (atV l mainB < 0))) (iteB (decide (0 ≤ atV l mainB)) (iteB (decide (atV l mainB < (l.length : Int))) (iteB (decide ((l.getD (atV l mainB).toNat dU).2.1 > 0)) (some (w0, false, ())) (gate k (spec_WorldNew.j4 k l (atV l mainB) false 0))) none) none) (some (w0, false, ()))) (some (w0, false, ())) = _
  unfold newV newOk
  cases hu : unitsV l with
  | false => rfl
  | true =>
    rw [Bool.not_true, Bool.not_false, iteB_true, Bool.true_and]
    by_cases hat : atV l mainB < 0
    · rw [decide_eq_true hat, Bool.not_true, iteB_false]; rfl
    · obtain ⟨q0, q1⟩ := at_in hat
      rw [decide_eq_false hat, Bool.not_false, iteB_true, decide_eq_true q0, iteB_true, decide_eq_true q1, iteB_true, Bool.true_and]
      by_cases hp : (l.getD (atV l mainB).toNat dU).2.1 > 0
      · rw [decide_eq_true hp, iteB_true, Bool.not_true]; rfl
      · have hreg := units_in hu _ (getD_mem l dU q0 q1)
        have hb := new_l2 k l (l, [], [], [], false, 0, ()) rfl (atV l mainB) q0 q1 (l.getD (atV l mainB).toNat dU) rfl hreg (Int.toNat (l.getD (atV l mainB).toNat dU).2.2.1) 0 k (by omega) (by omega)
        rw [decide_eq_false hp, iteB_false, Bool.not_false, gate_pos (by omega), spec_WorldNew.j4_e, a2, bindO_some, spec_l13New_e, List.nil_append, limK (l := ([] : List Int)) (by simp) (by omega), iteB_true]
        rw [show (List.replicate 0 (0 : Int)) = [] from rfl] at hb
        rw [hb, bindO_some]; rfl
theorem impl_new (l : List TU) (hl : l.length ≤ 1048576) (h1 : ∀ u ∈ l, FitU u) (h2 : ∀ u ∈ l, CpU u) : Ev fun k => impl_WorldNew k l = some (newV l, newOk l, ()) := by
  refine ((impl_units l hl h1).and (impl_cunits l hl h2)).two ((Ev.gt l.length).and (Ev.gt 300)) fun k ha hk => ?_
  obtain ⟨a1, a2⟩ := ha
  obtain ⟨k1, k2⟩ := hk
  replace a1 : impl_UnitsOk k l = some (unitsV l) := a1
  rw [impl_WorldNew_e, impl_at l _ hl k k1, bindO_some, a1, bindO_some]
  show iteB (!(!unitsV l)) (iteB (!(decide (atV l mainB < 0))) (iteB (decide (0 ≤ atV l mainB)) (iteB (decide (atV l mainB < (l.length : Int))) (iteB (decide ((l.getD (atV l mainB).toNat dU).2.1 > 0)) (some (w0, false, ())) (gate k (impl_WorldNew.j4 k l (atV l mainB) false 0))) none) none) (some (w0, false, ()))) (some (w0, false, ())) = _
  unfold newV newOk
  cases hu : unitsV l with
  | false => rfl
  | true =>
    rw [Bool.not_true, Bool.not_false, iteB_true, Bool.true_and]
    by_cases hat : atV l mainB < 0
    · rw [decide_eq_true hat, Bool.not_true, iteB_false]; rfl
    · obtain ⟨q0, q1⟩ := at_in hat
      rw [decide_eq_false hat, Bool.not_false, iteB_true, decide_eq_true q0, iteB_true, decide_eq_true q1, iteB_true, Bool.true_and]
      by_cases hp : (l.getD (atV l mainB).toNat dU).2.1 > 0
      · rw [decide_eq_true hp, iteB_true, Bool.not_true]; rfl
      · have hreg := units_in hu _ (getD_mem l dU q0 q1)
        have hfr : impl_frameNew k l (atV l mainB) [] (-1) = some (atV l mainB, 0, List.replicate (Int.toNat (l.getD (atV l mainB).toNat dU).2.2.1) 0, -1, ()) := by
          have hlim : (lim : Int) = 35184372088832 := rfl
          rw [impl_frameNew_e, decide_eq_true q0, iteB_true, decide_eq_true q1, iteB_true]
          generalize l.getD (atV l mainB).toNat dU = u at hreg ⊢
          rw [decide_eq_true hreg.1, iteB_true, decide_eq_true (Int.le_refl _), iteB_true, decide_eq_true (show u.2.2.1 * 8 ≤ (lim : Int) by rw [hlim]; omega), iteB_true, decide_eq_true (show u.2.2.1 ≤ (lim : Int) by rw [hlim]; omega), Bool.and_true, iteB_true, List.take_nil, List.length_nil, List.drop_zero, List.nil_append]
        rw [decide_eq_false hp, iteB_false, Bool.not_false, gate_pos (by omega), impl_WorldNew.j4_e, a2, bindO_some, hfr, bindO_some]; rfl

theorem FnExactWorldNew : ∀ (x0 : List TU), WfT (.row (.pair .str (.pair (.int .i64) (.pair (.int .i64) (.pair (.row (.pair (.int .i64) (.pair (.int .i64) (.pair (.int .i64) (.pair (.int .i64) (.pair (.int .i64) (.pair .str (.pair (.row (.int .i64)) .unit)))))))) .unit))))) x0 → ∃ k, laws_FnExactWorldNew k x0 = some true := by
  intro x hx
  refine Ev.get ?_
  obtain ⟨r, ev, le, fit⟩ := szUnitS_ok x hx 1048576 (by omega) (by omega)
  by_cases c : r < 0
  · exact ev.mono fun k h => by
      replace h : laws_szUnitS k x 1048576 = some r := h
      rw [laws_FnExactWorldNew_e, h, bindO_some, iteB_pos c]
  · have hf := fit (by omega)
    have h2 : ∀ u ∈ x, FitU u := fun u m => ⟨(hf.2 u m).2.2.2.1.1, fun t mt => ((hf.2 u m).2.2.2.1.2 t mt).2.2.2.2.2.2.1.1⟩
    have h3 : ∀ u ∈ x, CpU u := fun u m => ⟨(hf.2 u m).2.2.2.1.1, fun t mt => ⟨((hf.2 u m).2.2.2.1.2 t mt).2.2.2.2.2.2.1.1⟩⟩
    have hw : FitT (.pair (.row (.pair .str (.pair (.int .i64) (.pair (.int .i64) (.pair (.row (.pair (.int .i64) (.pair (.int .i64) (.pair (.int .i64) (.pair (.int .i64) (.pair (.int .i64) (.pair .str (.pair (.row (.int .i64)) .unit)))))))) .unit))))) (.pair (.row (.pair (.row (.pair (.int .i64) (.pair (.int .i64) (.pair (.row (.int .i64)) (.pair (.int .i64) .unit))))) (.pair .bool (.pair .bool (.pair (.int .i64) (.pair (.int .i64) (.pair (.int .i64) (.pair (.int .i64) (.pair (.int .i64) .unit))))))))) (.pair (.row (.pair (.int .i64) (.pair .bool (.pair (.row (.int .i64)) (.pair (.row (.pair (.int .i64) (.pair (.int .i64) (.pair (.int .i64) (.pair (.int .i64) .unit))))) (.pair (.row (.pair (.int .i64) (.pair (.int .i64) (.pair (.int .i64) (.pair (.int .i64) .unit))))) .unit)))))) (.pair (.row (.int .i64)) (.pair .bool (.pair (.int .i64) .unit)))))) (newV x) := by
      have nilF : ∀ {t : Ty}, FitT (.row t) ([] : List t.C) := fun {t} => ⟨by simp, fun y h => by cases h⟩
      unfold newV
      cases ho : newOk x with
      | false => exact ⟨nilF, nilF, nilF, nilF, trivial, trivial, trivial⟩
      | true =>
        have hu : unitsV x = true := by unfold newOk at ho; rw [Bool.and_eq_true] at ho; exact ho.1
        have hat : ¬ atV x mainB < 0 := by
          unfold newOk at ho; simp only [Bool.and_eq_true, Bool.not_eq_true', decide_eq_false_iff_not] at ho; exact ho.2.1
        obtain ⟨q0, q1⟩ := at_in hat
        have hreg := units_in hu _ (getD_mem x dU q0 q1)
        refine ⟨hf, ⟨by show 1 ≤ 1048576; omega, fun b hb => ?_⟩, nilF, nilF, trivial, trivial, trivial⟩
        have hb' : b = bodyN x (atV x mainB) := by cases hb with | head => rfl | tail _ h => cases h
        rw [hb']
        refine ⟨⟨by show 1 ≤ 1048576; omega, fun f hf' => ?_⟩, trivial, trivial, trivial, trivial, trivial, trivial, trivial, trivial⟩
        have hf2 : f = ((atV x mainB, 0, List.replicate (Int.toNat (x.getD (atV x mainB).toNat dU).2.2.1) 0, -1, ()) : TF) := by cases hf' with | head => rfl | tail _ h => cases h
        rw [hf2]
        exact ⟨trivial, trivial, ⟨by show (List.replicate _ (0 : Int)).length ≤ 1048576; rw [List.length_replicate]; omega, fun _ _ => trivial⟩, trivial, trivial⟩
    refine ((ev.and (toUnitS_ok x hf)).and ((spec_new x hf.1 h2 h3).and (impl_new x hf.1 h2 h3))).two (((eqWorld_ok _ hw).and (eqUnitS_ok x hf)).and ((((mhUnitS_ok _ hf).and (mhUnitS_ok _ hw.1)).and ((mhBodyS_ok _ hw.2.1).and ((mhChanS_ok _ hw.2.2.1).and (mhIntS_ok _ hw.2.2.2.1)))).and (Ev.gt 0))) fun k h1 h2 => ?_
    obtain ⟨⟨a1, a2⟩, a3, a4⟩ := h1
    obtain ⟨⟨a5, a6⟩, ⟨⟨b0, b1⟩, b2, b3, b4⟩, hk⟩ := h2
    generalize newV x = W at a3 a4 a5 b1 b2 b3 b4
    generalize newOk x = ok at a3 a4
    obtain ⟨wu, wb, wc, wo, wv, wk, wn⟩ := W
    replace a1 : laws_szUnitS k x 1048576 = some r := a1
    replace a2 : laws_toUnitS k x = some x := a2
    replace a5 : laws_eqWorld k (wu, wb, wc, wo, wv, wk, ()) (wu, wb, wc, wo, wv, wk, ()) = some true := a5
    replace a6 : laws_eqUnitS k x x = some true := a6
    obtain ⟨r0, (z0 : List TU), e0, l0, u0, _⟩ := b0 1 (by omega) (by omega)
    replace e0 : laws_markUnitS k x 1 = some (r0, z0) := e0
    obtain ⟨r1, (z1 : List TU), e1, l1, u1, q1⟩ := b1 1 (by omega) (by omega)
    replace e1 : laws_markUnitS k wu 1 = some (r1, z1) := e1
    replace q1 : laws_heldUnitS k z1 1 = some r1 := q1
    obtain ⟨r2, (z2 : List TB), e2, l2, u2, q2⟩ := b2 r1 (by omega) (by omega)
    replace e2 : laws_markBodyS k wb r1 = some (r2, z2) := e2
    replace q2 : laws_heldBodyS k z2 r1 = some r2 := q2
    obtain ⟨r3, (z3 : List TCh), e3, l3, u3, q3⟩ := b3 r2 (by omega) (by omega)
    replace e3 : laws_markChanS k wc r2 = some (r3, z3) := e3
    replace q3 : laws_heldChanS k z3 r2 = some r3 := q3
    obtain ⟨r4, (z4 : List Int), e4, l4, u4, q4⟩ := b4 r3 (by omega) (by omega)
    replace e4 : laws_markIntS k wo r3 = some (r4, z4) := e4
    replace q4 : laws_heldIntS k z4 r3 = some r4 := q4
    have held : laws_heldWorld k (z1, z2, z3, z4, wv, wk, ()) 1 = some r4 := by
      rw [laws_heldWorld_e]
      simp only [q1, q2, q3, q4, bindO_some, decide_eq_false (show ¬ r1 < 0 by omega), decide_eq_false (show ¬ r2 < 0 by omega), decide_eq_false (show ¬ r3 < 0 by omega), decide_eq_false (show ¬ r4 < 0 by omega), iteB_false]
    have n1 : decide (r0 < 0) = false := decide_eq_false (by omega)
    have n2 : decide (r4 < 0) = false := decide_eq_false (by omega)
    have n3 : (r4 != r4) = false := by simp
    have n4 : (ok == ok) = true := by simp
    have j27 : laws_FnExactWorldNew.j27 k r4 wv wk z1 z2 z3 z4 = some true := by
      rw [laws_FnExactWorldNew.j27_e]
      simp only [held, bindO_some, n2, n3, iteB_false]
    have j16 : laws_FnExactWorldNew.j16 k x ok wv wk wu wb wc wo wv wk wu wb wc wo = some true := by
      rw [laws_FnExactWorldNew.j16_e]
      simp only [e1, e2, e3, e4, bindO_some, held, n2, n3, iteB_false, a2, a4, a5, Bool.not_true, Bool.not_false, iteB_true, n4, gate_pos hk, j27]
    have j10 : laws_FnExactWorldNew.j10 k x ok ok wv wk wu wb wc wo x wv wk wu wb wc wo = some true := by
      rw [laws_FnExactWorldNew.j10_e]
      simp only [a2, a6, e0, a5, bindO_some, n1, n4, Bool.not_true, Bool.not_false, iteB_true, iteB_false, gate_pos hk, j16]
    rw [laws_FnExactWorldNew_e]
    simp only [a1, bindO_some, iteB_neg c, a2, a3, a4, a5, n4, Bool.not_true, Bool.not_false, iteB_false, iteB_true, gate_pos hk, j10]

end Go.Proofs.Ytajlenpookikoaa.Pure
