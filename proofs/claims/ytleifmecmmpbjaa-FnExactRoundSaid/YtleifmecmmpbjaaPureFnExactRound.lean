/- Round of the program returns what the reference's returns, for every number. Conditions: none beyond the row's own. -/
import Derived.Test.YtleifmecmmpbjaaPFnExactRoundx1
namespace Go.Proofs.Ytleifmecmmpbjaa.Pure
open Go.RowKit Go.Proofs.Ytleifmecmmpbjaa.PFnExactRound Go.Proofs.YtleifmecmmpbjaaW.PrintWords Go.Proofs.YtleifmecmmpbjaaW.PrintLast

theorem and_low (x : Int) : Go.bits .and .i64 x 4294967295 = x % 4294967296 := by
  have hw : ∀ n : Int, 0 ≤ n → n < 4294967296 → IntKind.i64.wrap n = n := by
    intro n h0 h1
    rw [IntKind.wrap_i64]; omega
  have e : (BitVec.ofInt 64 x &&& BitVec.ofInt 64 4294967295).toNat = (x % 4294967296).toNat := by
    rw [BitVec.toNat_and, BitVec.toNat_ofInt, BitVec.toNat_ofInt]
    have h2 : ((4294967295 : Int) % ((2 ^ 64 : Nat) : Int)).toNat = 2 ^ 32 - 1 := by decide
    rw [h2, Nat.and_two_pow_sub_one_eq_mod]
    have h3 : ((2 ^ 64 : Nat) : Int) = 18446744073709551616 := by decide
    rw [h3]
    omega
  show IntKind.i64.wrap (((BitVec.ofInt 64 x &&& BitVec.ofInt 64 4294967295).toNat : Nat) : Int) = _
  rw [e, hw _ (by omega) (by omega)]
  omega

theorem FnExactRound : laws_FnExactRound.Pure := by
  intro a0 _
  unfold laws_FnExactRound.f spec_Round.f impl_Round.f
  rw [and_low]
  have h : wrap64 (wrap32 a0) = if a0 % 4294967296 > 2147483647 then wrap64 (a0 % 4294967296 - 4294967296) else a0 % 4294967296 := by
    unfold wrap64 wrap32
    split <;> omega
  rw [h]
  split <;> simp

end Go.Proofs.Ytleifmecmmpbjaa.Pure
