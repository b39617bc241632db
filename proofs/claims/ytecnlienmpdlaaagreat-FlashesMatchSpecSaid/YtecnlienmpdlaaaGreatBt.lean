import Derived.Laws.BitsLemmas
import Derived.WalkKit
namespace Go.Proofs.YtecnlienmpdlaaaGreat.Bt
open Go
theorem Q158 (n : Int) (h0 : 0 ≤ n) (h1 : n < 2 ^ 63) : IntKind.i64.wrap n = n := by rw [IntKind.wrap_i64]; omega
theorem wraps_u64 (n : Int) (h0 : 0 ≤ n) (h1 : n < 2 ^ 64) : IntKind.u64.wrap n = n := by
 simp [IntKind.wrap, IntKind.bits, IntKind.signed]; omega
theorem Q1ii (a b : Nat) (ha : a < 2 ^ 63) (hb : b < 2 ^ 63) : bits .or .i64 a b = ((a ||| b : Nat) : Int) := (bits_nat .i64 63 (by decide) Q158 a b ha hb).2
end Go.Proofs.YtecnlienmpdlaaaGreat.Bt
