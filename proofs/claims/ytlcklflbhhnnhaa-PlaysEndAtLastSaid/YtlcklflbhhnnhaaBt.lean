/- Plain facts about the bit operations of whole numbers, as Go has them: what they are for natural numbers. -/
import Derived.Laws.BitsLemmas
import Derived.WalkKit
namespace Go.Proofs.Ytlcklflbhhnnhaa.Bt
open Go

theorem wraps_i64 (n : Int) (h0 : 0 ≤ n) (h1 : n < 2 ^ 63) : IntKind.i64.wrap n = n := by rw [IntKind.wrap_i64]; omega
/-- A mask of low bits. -/
theorem mask_i64 (x : Int) (i : Nat) (hi : i ≤ 62) (h0 : 0 ≤ x) (h1 : x < 2 ^ 63) : bits .and .i64 x (2 ^ i - 1) = x % 2 ^ i :=
 bits_mask .i64 63 (by decide) wraps_i64 i (by omega) x h0 h1

end Go.Proofs.Ytlcklflbhhnnhaa.Bt
