/- 'n & 1' on an int is 0 or 1. Conditions: none. -/
import Derived.Test.YtginaleekfljfaaGrow
namespace Go.Proofs.Ytginaleekfljfaa
theorem and_one_i64 (n : Int) : bits BinOp.and IntKind.i64 n 1 = 0 ∨ bits BinOp.and IntKind.i64 n 1 = 1 := by
  have h : (BitVec.ofInt 64 n &&& BitVec.ofInt 64 1).toNat = (BitVec.ofInt 64 n).toNat % 2 := by
    rw [BitVec.toNat_and]
    have : (BitVec.ofInt 64 1).toNat = 1 := by decide
    rw [this, Nat.and_one_is_mod]
  have h2 : (BitVec.ofInt 64 n).toNat % 2 = 0 ∨ (BitVec.ofInt 64 n).toNat % 2 = 1 := by omega
  have e : bits BinOp.and IntKind.i64 n 1 = IntKind.i64.wrap ((BitVec.ofInt 64 n).toNat % 2 : Nat) := by
    show IntKind.i64.wrap ((BitVec.ofInt 64 n &&& BitVec.ofInt 64 1).toNat : Int) = _
    rw [h]
  rcases h2 with h2 | h2
  · left; rw [e, h2]; decide
  · right; rw [e, h2]; decide
end Go.Proofs.Ytginaleekfljfaa
