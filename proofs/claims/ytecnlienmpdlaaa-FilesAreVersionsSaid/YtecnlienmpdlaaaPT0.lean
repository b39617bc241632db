/- Functions of the program in typed form (printed by a program of this work). -/
import Derived.Test.YtecnlienmpdlaaaPmE
import Derived.Test.YtecnlienmpdlaaaSkD
import Derived.Test.YtecnlienmpdlaaaSsD
set_option linter.unusedVariables false
set_option linter.unusedSimpArgs false
set_option maxRecDepth 100000
namespace Go.Proofs.Ytecnlienmpdlaaa.PM
open Go
noncomputable def f52d {R : Type} (k : Nat) (a0 : Int) (a1 : Int) (a2 : Int) (K : Bool → Option R) : Option R := match k with
  | 0 => none
  | k + 1 => (bif (decide (a1 ≤ a0) == true) then (K (decide (a0 ≤ a2))) else (K false))
theorem f52x {R : Type} : ∃ f, f = @f52d R := ⟨_, rfl⟩
noncomputable def f52 {R : Type} := Classical.choose (f52x (R := R))
theorem f52_def {R : Type} : @f52 R = @f52d R := Classical.choose_spec f52x
noncomputable def f45d {R : Type} (k : Nat) (a0 : Int) (a1 : Int) (a2 : Int) (a3 : List Int) (a4 : List Int) (a5 : List Int) (K : Int → Option R) : Option R := match k with
  | 0 => none
  | k + 1 => (f52 k a0 (1 : Int) (64 : Int) (fun r4098_0 => (bif ((!r4098_0) == false) then (f52 k a1 (1 : Int) (64 : Int) (fun r4103_0 => (bif ((!r4103_0) == false) then (f52 k a2 (64 : Int) (1024 : Int) (fun r4109_0 => (bif (!r4109_0) then (K (1 : Int)) else (bif decide (IntKind.i64.wrap ((IntKind.i64.wrap (a0 * a1)) * a2) > (262144 : Int)) then (K (2 : Int)) else (K (0 : Int)))))) else (K (1 : Int))))) else (K (1 : Int)))))
theorem f45x {R : Type} : ∃ f, f = @f45d R := ⟨_, rfl⟩
noncomputable def f45 {R : Type} := Classical.choose (f45x (R := R))
theorem f45_def {R : Type} : @f45 R = @f45d R := Classical.choose_spec f45x
noncomputable def f46_0b {R : Type} (k : Nat) (rec : Int → Option R) (K : Int → Option R) (x0 : Option R) (v0_0 : List Int) (v0_1 : Int) (v0_3 : Int) (v0_4 : Int) (v0_5 : Int) (v0_6 : List Int) (v0_7 : List Int) (v0_8 : List Int) (v0_2 : Int) : Option R :=
  (bif decide (v0_2 < v0_1) then (bif (decide ((0 : Int) ≤ v0_2) && decide (v0_2 < (v0_0.length : Int))) then (f52 k (v0_0.getD (Int.toNat v0_2) (0 : Int)) (0 : Int) (IntKind.i64.wrap (v0_3 - (1 : Int))) (fun r10244_0 => (bif (!r10244_0) then (K (1 : Int)) else (bif (decide (v0_2 > (0 : Int)) == true) then (bif (decide ((0 : Int) ≤ IntKind.i64.wrap (v0_2 - (1 : Int))) && decide (IntKind.i64.wrap (v0_2 - (1 : Int)) < (v0_8.length : Int))) then (bif decide ((v0_0.getD (Int.toNat v0_2) (0 : Int)) ≤ (v0_8.getD (Int.toNat (IntKind.i64.wrap (v0_2 - (1 : Int)))) (0 : Int))) then (K (8 : Int)) else (rec (IntKind.i64.wrap (v0_2 + (1 : Int))))) else none) else (rec (IntKind.i64.wrap (v0_2 + (1 : Int)))))))) else none) else x0)
noncomputable def f46_0d {R : Type} (k : Nat) (K : Int → Option R) (x0 : Option R) (v0_0 : List Int) (v0_1 : Int) (v0_3 : Int) (v0_4 : Int) (v0_5 : Int) (v0_6 : List Int) (v0_7 : List Int) (v0_8 : List Int) : Nat → Int → Option R
  | 0, _ => none
  | m + 1, v0_2 => f46_0b k (f46_0d k K x0 v0_0 v0_1 v0_3 v0_4 v0_5 v0_6 v0_7 v0_8 m) K x0 v0_0 v0_1 v0_3 v0_4 v0_5 v0_6 v0_7 v0_8 v0_2
theorem f46_0x {R : Type} : ∃ f, f = @f46_0d R := ⟨_, rfl⟩
noncomputable def f46_0 {R : Type} := Classical.choose (f46_0x (R := R))
theorem f46_0_def {R : Type} : @f46_0 R = @f46_0d R := Classical.choose_spec f46_0x
noncomputable def f46d {R : Type} (k : Nat) (a0 : Int) (a1 : Int) (a2 : Int) (a3 : List Int) (a4 : List Int) (a5 : List Int) (K : Int → Option R) : Option R := match k with
  | 0 => none
  | k + 1 => (f46_0 k K (K (0 : Int)) a5 (a5.length : Int) a0 a1 a2 a3 a4 a5 k (0 : Int))
theorem f46x {R : Type} : ∃ f, f = @f46d R := ⟨_, rfl⟩
noncomputable def f46 {R : Type} := Classical.choose (f46x (R := R))
theorem f46_def {R : Type} : @f46 R = @f46d R := Classical.choose_spec f46x
noncomputable def f37_0b {R : Type} (k : Nat) (rec : Int → Option R) (K : Int → Option R) (x0 : Option R) (v0_0 : List Int) (v0_1 : Int) (v0_3 : Int) (v0_4 : Int) (v0_5 : Int) (v0_6 : List Int) (v0_7 : List Int) (v0_8 : List Int) (v0_2 : Int) : Option R :=
  (bif decide (v0_2 < v0_1) then (bif (decide ((0 : Int) ≤ v0_2) && decide (v0_2 < (v0_0.length : Int))) then (f52 k (v0_0.getD (Int.toNat v0_2) (0 : Int)) (0 : Int) (1000000 : Int) (fun r20481_0 => (bif (!r20481_0) then (K (1 : Int)) else (rec (IntKind.i64.wrap (v0_2 + (1 : Int))))))) else none) else x0)
noncomputable def f37_0d {R : Type} (k : Nat) (K : Int → Option R) (x0 : Option R) (v0_0 : List Int) (v0_1 : Int) (v0_3 : Int) (v0_4 : Int) (v0_5 : Int) (v0_6 : List Int) (v0_7 : List Int) (v0_8 : List Int) : Nat → Int → Option R
  | 0, _ => none
  | m + 1, v0_2 => f37_0b k (f37_0d k K x0 v0_0 v0_1 v0_3 v0_4 v0_5 v0_6 v0_7 v0_8 m) K x0 v0_0 v0_1 v0_3 v0_4 v0_5 v0_6 v0_7 v0_8 v0_2
theorem f37_0x {R : Type} : ∃ f, f = @f37_0d R := ⟨_, rfl⟩
noncomputable def f37_0 {R : Type} := Classical.choose (f37_0x (R := R))
theorem f37_0_def {R : Type} : @f37_0 R = @f37_0d R := Classical.choose_spec f37_0x
noncomputable def f37d {R : Type} (k : Nat) (a0 : Int) (a1 : Int) (a2 : Int) (a3 : List Int) (a4 : List Int) (a5 : List Int) (K : Int → Option R) : Option R := match k with
  | 0 => none
  | k + 1 => (f45 k a0 a1 a2 a3 a4 a5 (fun r4097_0 => (bif (r4097_0 != (0 : Int)) then (K r4097_0) else (bif (((a3.length : Int) != IntKind.i64.wrap ((IntKind.i64.wrap (a0 * a1)) * a2)) == false) then (bif ((a4.length : Int) != a0) then (K (3 : Int)) else (f37_0 k K (f46 k a0 a1 a2 a3 a4 a5 (fun r26625_0 => (K r26625_0))) a4 (a4.length : Int) a0 a1 a2 a3 a4 a5 k (0 : Int))) else (K (3 : Int))))))
theorem f37x {R : Type} : ∃ f, f = @f37d R := ⟨_, rfl⟩
noncomputable def f37 {R : Type} := Classical.choose (f37x (R := R))
theorem f37_def {R : Type} : @f37 R = @f37d R := Classical.choose_spec f37x
noncomputable def f98_0b {R : Type} (k : Nat) (rec : Int → Option R) (K : Int → Option R) (x0 : Option R) (v0_0 : List Int) (v0_1 : Int) (v0_2 : Int) (v0_3 : Int) : Option R :=
  (bif decide (v0_3 < v0_2) then (bif (decide ((0 : Int) ≤ v0_3) && decide (v0_3 < (v0_0.length : Int))) then (bif (v0_1 == (v0_0.getD (Int.toNat v0_3) (0 : Int))) then (K v0_3) else (rec (IntKind.i64.wrap (v0_3 + (1 : Int))))) else none) else x0)
noncomputable def f98_0d {R : Type} (k : Nat) (K : Int → Option R) (x0 : Option R) (v0_0 : List Int) (v0_1 : Int) (v0_2 : Int) : Nat → Int → Option R
  | 0, _ => none
  | m + 1, v0_3 => f98_0b k (f98_0d k K x0 v0_0 v0_1 v0_2 m) K x0 v0_0 v0_1 v0_2 v0_3
theorem f98_0x {R : Type} : ∃ f, f = @f98_0d R := ⟨_, rfl⟩
noncomputable def f98_0 {R : Type} := Classical.choose (f98_0x (R := R))
theorem f98_0_def {R : Type} : @f98_0 R = @f98_0d R := Classical.choose_spec f98_0x
noncomputable def f98d {R : Type} (k : Nat) (a0 : List Int) (a1 : Int) (K : Int → Option R) : Option R := match k with
  | 0 => none
  | k + 1 => (f98_0 k K (K (-1 : Int)) a0 a1 (a0.length : Int) k (0 : Int))
theorem f98x {R : Type} : ∃ f, f = @f98d R := ⟨_, rfl⟩
noncomputable def f98 {R : Type} := Classical.choose (f98x (R := R))
theorem f98_def {R : Type} : @f98 R = @f98d R := Classical.choose_spec f98x
noncomputable def f79d {R : Type} (k : Nat) (a0 : List Int) (a1 : Int) (K : Bool → Option R) : Option R := match k with
  | 0 => none
  | k + 1 => (f98 k a0 a1 (fun r4098_0 => (K (decide (r4098_0 ≥ (0 : Int))))))
theorem f79x {R : Type} : ∃ f, f = @f79d R := ⟨_, rfl⟩
noncomputable def f79 {R : Type} := Classical.choose (f79x (R := R))
theorem f79_def {R : Type} : @f79 R = @f79d R := Classical.choose_spec f79x
noncomputable def f80d {R : Type} (k : Nat) (a0 : Int) (a1 : Int) (a2 : Int) (a3 : List Int) (a4 : List Int) (a5 : List Int) (a6 : Int) (K : List Int → Option R) : Option R := match k with
  | 0 => none
  | k + 1 => (bif (decide ((0 : Int) ≤ IntKind.i64.wrap (a6 * a2)) && (decide (IntKind.i64.wrap (a6 * a2) ≤ IntKind.i64.wrap ((IntKind.i64.wrap (a6 + (1 : Int))) * a2)) && decide (IntKind.i64.wrap ((IntKind.i64.wrap (a6 + (1 : Int))) * a2) ≤ (a3.length : Int)))) then (K ((a3.take (Int.toNat (IntKind.i64.wrap ((IntKind.i64.wrap (a6 + (1 : Int))) * a2)))).drop (Int.toNat (IntKind.i64.wrap (a6 * a2))))) else none)
theorem f80x {R : Type} : ∃ f, f = @f80d R := ⟨_, rfl⟩
noncomputable def f80 {R : Type} := Classical.choose (f80x (R := R))
theorem f80_def {R : Type} : @f80 R = @f80d R := Classical.choose_spec f80x
noncomputable def f97d {R : Type} (k : Nat) (a0 : Int) (K : Bool → Option R) : Option R := match k with
  | 0 => none
  | k + 1 => (K (a0 != (255 : Int)))
theorem f97x {R : Type} : ∃ f, f = @f97d R := ⟨_, rfl⟩
noncomputable def f97 {R : Type} := Classical.choose (f97x (R := R))
theorem f97_def {R : Type} : @f97 R = @f97d R := Classical.choose_spec f97x
noncomputable def f108_0b {R : Type} (k : Nat) (rec : Int → Option R) (K : Int → Option R) (x0 : Option R) (v0_0 : List Int) (v0_1 : Int) (v0_2 : Int) : Option R :=
  (bif decide (v0_2 < v0_1) then (bif (decide ((0 : Int) ≤ v0_2) && decide (v0_2 < (v0_0.length : Int))) then (f97 k (v0_0.getD (Int.toNat v0_2) (0 : Int)) (fun r10245_0 => (bif r10245_0 then (K v0_2) else (rec (IntKind.i64.wrap (v0_2 + (1 : Int))))))) else none) else x0)
noncomputable def f108_0d {R : Type} (k : Nat) (K : Int → Option R) (x0 : Option R) (v0_0 : List Int) (v0_1 : Int) : Nat → Int → Option R
  | 0, _ => none
  | m + 1, v0_2 => f108_0b k (f108_0d k K x0 v0_0 v0_1 m) K x0 v0_0 v0_1 v0_2
theorem f108_0x {R : Type} : ∃ f, f = @f108_0d R := ⟨_, rfl⟩
noncomputable def f108_0 {R : Type} := Classical.choose (f108_0x (R := R))
theorem f108_0_def {R : Type} : @f108_0 R = @f108_0d R := Classical.choose_spec f108_0x
noncomputable def f108d {R : Type} (k : Nat) (a0 : List Int) (K : Int → Option R) : Option R := match k with
  | 0 => none
  | k + 1 => (f108_0 k K (K (-1 : Int)) a0 (a0.length : Int) k (0 : Int))
theorem f108x {R : Type} : ∃ f, f = @f108d R := ⟨_, rfl⟩
noncomputable def f108 {R : Type} := Classical.choose (f108x (R := R))
theorem f108_def {R : Type} : @f108 R = @f108d R := Classical.choose_spec f108x
noncomputable def f96d {R : Type} (k : Nat) (a0 : List Int) (K : Bool → Option R) : Option R := match k with
  | 0 => none
  | k + 1 => (f108 k a0 (fun r4098_0 => (K (decide (r4098_0 ≥ (0 : Int))))))
theorem f96x {R : Type} : ∃ f, f = @f96d R := ⟨_, rfl⟩
noncomputable def f96 {R : Type} := Classical.choose (f96x (R := R))
theorem f96_def {R : Type} : @f96 R = @f96d R := Classical.choose_spec f96x
noncomputable def f74d {R : Type} (k : Nat) (a0 : List Int) (K : Bool → Option R) : Option R := match k with
  | 0 => none
  | k + 1 => (f96 k a0 (fun r4097_0 => (K (!r4097_0))))
theorem f74x {R : Type} : ∃ f, f = @f74d R := ⟨_, rfl⟩
noncomputable def f74 {R : Type} := Classical.choose (f74x (R := R))
theorem f74_def {R : Type} : @f74 R = @f74d R := Classical.choose_spec f74x
noncomputable def f75d {R : Type} (k : Nat) (a0 : List Int) (K : Int → Option R) : Option R := match k with
  | 0 => none
  | k + 1 => (bif decide ((0 : Int) < (a0.length : Int)) then (bif decide ((1 : Int) < (a0.length : Int)) then (bif decide ((2 : Int) < (a0.length : Int)) then (bif decide ((3 : Int) < (a0.length : Int)) then (K (bits .or .i64 (bits .or .i64 (bits .or .i64 (IntKind.i64.wrap ((IntKind.i64.wrap (a0.getD 0 (0 : Int))) * 2 ^ 24)) (IntKind.i64.wrap ((IntKind.i64.wrap (a0.getD 1 (0 : Int))) * 2 ^ 16))) (IntKind.i64.wrap ((IntKind.i64.wrap (a0.getD 2 (0 : Int))) * 2 ^ 8))) (IntKind.i64.wrap (a0.getD 3 (0 : Int))))) else none) else none) else none) else none)
theorem f75x {R : Type} : ∃ f, f = @f75d R := ⟨_, rfl⟩
noncomputable def f75 {R : Type} := Classical.choose (f75x (R := R))
theorem f75_def {R : Type} : @f75 R = @f75d R := Classical.choose_spec f75x
noncomputable def f72d {R : Type} (k : Nat) (a0 : List Int) (K : List Int → Option R) : Option R := match k with
  | 0 => none
  | _ + 1 => bif decide (a0.length ≤ LIM 1) then K a0 else none
theorem f72x {R : Type} : ∃ f, f = @f72d R := ⟨_, rfl⟩
noncomputable def f72 {R : Type} := Classical.choose (f72x (R := R))
theorem f72_def {R : Type} : @f72 R = @f72d R := Classical.choose_spec f72x
noncomputable def f73_0b {R : Type} (k : Nat) (rec : Int → Option R) (K : Bool → Option R) (x0 : Option R) (v0_0 : ByteArray) (v0_1 : Int) (v0_2 : Int) : Option R :=
  (bif decide (v0_2 < v0_1) then (bif (decide ((0 : Int) ≤ v0_2) && decide (v0_2 < (v0_0.size : Int))) then (bif (decide (((bytesOf v0_0).getD (Int.toNat v0_2) 0) < (33 : Int)) == false) then (bif (decide ((0 : Int) ≤ v0_2) && decide (v0_2 < (v0_0.size : Int))) then (bif decide (((bytesOf v0_0).getD (Int.toNat v0_2) 0) > (126 : Int)) then (K false) else (rec (IntKind.i64.wrap (v0_2 + (1 : Int))))) else none) else (K false)) else none) else x0)
noncomputable def f73_0d {R : Type} (k : Nat) (K : Bool → Option R) (x0 : Option R) (v0_0 : ByteArray) (v0_1 : Int) : Nat → Int → Option R
  | 0, _ => none
  | m + 1, v0_2 => f73_0b k (f73_0d k K x0 v0_0 v0_1 m) K x0 v0_0 v0_1 v0_2
theorem f73_0x {R : Type} : ∃ f, f = @f73_0d R := ⟨_, rfl⟩
noncomputable def f73_0 {R : Type} := Classical.choose (f73_0x (R := R))
theorem f73_0_def {R : Type} : @f73_0 R = @f73_0d R := Classical.choose_spec f73_0x
noncomputable def f73d {R : Type} (k : Nat) (a0 : ByteArray) (K : Bool → Option R) : Option R := match k with
  | 0 => none
  | k + 1 => (bif ((a0.toList == (⟨#[]⟩ : ByteArray).toList) == false) then (bif decide ((a0.size : Int) > (40 : Int)) then (K false) else (f73_0 k K (K true) a0 (a0.size : Int) k (0 : Int))) else (K false))
theorem f73x {R : Type} : ∃ f, f = @f73d R := ⟨_, rfl⟩
noncomputable def f73 {R : Type} := Classical.choose (f73x (R := R))
theorem f73_def {R : Type} : @f73 R = @f73d R := Classical.choose_spec f73x
noncomputable def f53d {R : Type} (k : Nat) (a0 : ByteArray) (K : Bool → Option R) : Option R := match k with
  | 0 => none
  | k + 1 => (f73 k a0 (fun r4097_0 => (bif (r4097_0 == true) then (K (decide ((a0.size : Int) ≤ (32 : Int)))) else (K false))))
theorem f53x {R : Type} : ∃ f, f = @f53d R := ⟨_, rfl⟩
noncomputable def f53 {R : Type} := Classical.choose (f53x (R := R))
theorem f53_def {R : Type} : @f53 R = @f53d R := Classical.choose_spec f53x
noncomputable def f85d {R : Type} (k : Nat) (a0 : Int) (a1 : Int) (K : Int → Int → Option R) : Option R := match k with
  | 0 => none
  | k + 1 => (K (IntKind.u64.wrap ((IntKind.u64.wrap ((IntKind.u64.wrap ((Int.fdiv a0 (2 ^ 32)) * (Int.fdiv a1 (2 ^ 32)))) + (Int.fdiv (IntKind.u64.wrap ((IntKind.u64.wrap ((Int.fdiv a0 (2 ^ 32)) * (bits .and .u64 a1 (4294967295 : Int)))) + (Int.fdiv (IntKind.u64.wrap ((bits .and .u64 a0 (4294967295 : Int)) * (bits .and .u64 a1 (4294967295 : Int)))) (2 ^ 32)))) (2 ^ 32)))) + (Int.fdiv (IntKind.u64.wrap ((bits .and .u64 (IntKind.u64.wrap ((IntKind.u64.wrap ((Int.fdiv a0 (2 ^ 32)) * (bits .and .u64 a1 (4294967295 : Int)))) + (Int.fdiv (IntKind.u64.wrap ((bits .and .u64 a0 (4294967295 : Int)) * (bits .and .u64 a1 (4294967295 : Int)))) (2 ^ 32)))) (4294967295 : Int)) + (IntKind.u64.wrap ((bits .and .u64 a0 (4294967295 : Int)) * (Int.fdiv a1 (2 ^ 32)))))) (2 ^ 32)))) (IntKind.u64.wrap (a0 * a1)))
theorem f85x {R : Type} : ∃ f, f = @f85d R := ⟨_, rfl⟩
noncomputable def f85 {R : Type} := Classical.choose (f85x (R := R))
theorem f85_def {R : Type} : @f85 R = @f85d R := Classical.choose_spec f85x
noncomputable def f62d {R : Type} (k : Nat) (a0 : Int) (a1 : Int) (K : Int → Int → Option R) : Option R := match k with
  | 0 => none
  | k + 1 => (f85 k a0 a1 (fun r8194_0 r8194_1 => (K r8194_0 r8194_1)))
theorem f62x {R : Type} : ∃ f, f = @f62d R := ⟨_, rfl⟩
noncomputable def f62 {R : Type} := Classical.choose (f62x (R := R))
theorem f62_def {R : Type} : @f62 R = @f62d R := Classical.choose_spec f62x
noncomputable def f47_1000002d {R : Type} (k : Nat) (xN : Option R) (v2_2 : Bool) : Option R :=
  (bif v2_2 then none else xN)
theorem f47_1000002x {R : Type} : ∃ f, f = @f47_1000002d R := ⟨_, rfl⟩
noncomputable def f47_1000002 {R : Type} := Classical.choose (f47_1000002x (R := R))
theorem f47_1000002_def {R : Type} : @f47_1000002 R = @f47_1000002d R := Classical.choose_spec f47_1000002x
noncomputable def f47_1000005d {R : Type} (k : Nat) (xN : Option R) (v5_2 : Bool) : Option R :=
  (bif v5_2 then none else xN)
theorem f47_1000005x {R : Type} : ∃ f, f = @f47_1000005d R := ⟨_, rfl⟩
noncomputable def f47_1000005 {R : Type} := Classical.choose (f47_1000005x (R := R))
theorem f47_1000005_def {R : Type} : @f47_1000005 R = @f47_1000005d R := Classical.choose_spec f47_1000005x
noncomputable def f47_0b {R : Type} (k : Nat) (rec : Int → List Int → Option R) (x0 : List Int → Option R) (v0_0 : Int) (v0_1 : List Int) : Option R :=
  (bif decide (v0_0 < (v0_1.length : Int)) then (bif (decide ((0 : Int) ≤ v0_0) && decide (v0_0 ≤ (v0_1.length : Int))) then (bif (decide ((0 : Int) ≤ v0_0) && decide (v0_0 ≤ (v0_1.length : Int))) then (rec (IntKind.i64.wrap (v0_0 + (((min ((v0_1.drop 0).take (Int.toNat v0_0)).length (v0_1.length - (Int.toNat v0_0))) : Nat) : Int))) (splice v0_1 (Int.toNat v0_0) (((v0_1.drop 0).take (Int.toNat v0_0)).take (min ((v0_1.drop 0).take (Int.toNat v0_0)).length (v0_1.length - (Int.toNat v0_0)))))) else none) else none) else (x0 v0_1))
noncomputable def f47_0d {R : Type} (k : Nat) (x0 : List Int → Option R) : Nat → Int → List Int → Option R
  | 0, _, _ => none
  | m + 1, v0_0, v0_1 => f47_0b k (f47_0d k x0 m) x0 v0_0 v0_1
theorem f47_0x {R : Type} : ∃ f, f = @f47_0d R := ⟨_, rfl⟩
noncomputable def f47_0 {R : Type} := Classical.choose (f47_0x (R := R))
theorem f47_0_def {R : Type} : @f47_0 R = @f47_0d R := Classical.choose_spec f47_0x
noncomputable def f47d {R : Type} (k : Nat) (a0 : List Int) (a1 : Int) (K : List Int → Option R) : Option R := match k with
  | 0 => none
  | k + 1 => (f47_1000002 k (f62 k (IntKind.u64.wrap (a0.length : Int)) (IntKind.u64.wrap a1) (fun r8197_0 r8197_1 => (bif (decide (r8197_0 > (0 : Int)) == false) then (f47_1000005 k (bif (decide ((0 : Int) ≤ IntKind.i64.wrap r8197_1) && (decide (IntKind.i64.wrap r8197_1 ≤ IntKind.i64.wrap r8197_1) && decide (IntKind.i64.wrap r8197_1 ≤ (LIM 1 : Int)))) then (f47_0 k (fun y0_0_0 => (K y0_0_0)) k (((min a0.length ((List.replicate (Int.toNat (IntKind.i64.wrap r8197_1)) (0 : Int)).length)) : Nat) : Int) (splice (List.replicate (Int.toNat (IntKind.i64.wrap r8197_1)) (0 : Int)) 0 (a0.take (min a0.length ((List.replicate (Int.toNat (IntKind.i64.wrap r8197_1)) (0 : Int)).length))))) else none) (decide (r8197_1 > (9223372036854775807 : Int)))) else (f47_1000005 k (bif (decide ((0 : Int) ≤ IntKind.i64.wrap r8197_1) && (decide (IntKind.i64.wrap r8197_1 ≤ IntKind.i64.wrap r8197_1) && decide (IntKind.i64.wrap r8197_1 ≤ (LIM 1 : Int)))) then (f47_0 k (fun y0_0_0 => (K y0_0_0)) k (((min a0.length ((List.replicate (Int.toNat (IntKind.i64.wrap r8197_1)) (0 : Int)).length)) : Nat) : Int) (splice (List.replicate (Int.toNat (IntKind.i64.wrap r8197_1)) (0 : Int)) 0 (a0.take (min a0.length ((List.replicate (Int.toNat (IntKind.i64.wrap r8197_1)) (0 : Int)).length))))) else none) true)))) (decide (a1 < (0 : Int))))
theorem f47x {R : Type} : ∃ f, f = @f47d R := ⟨_, rfl⟩
noncomputable def f47 {R : Type} := Classical.choose (f47x (R := R))
theorem f47_def {R : Type} : @f47 R = @f47d R := Classical.choose_spec f47x
noncomputable def f50_1000011d {R : Type} (k : Nat) (xN : Int → Option R) (v11_0 : Int) (v11_5 : Bool) : Option R :=
  (bif v11_5 then (xN (bits .xor .i64 v11_0 (4129 : Int))) else (xN v11_0))
theorem f50_1000011x {R : Type} : ∃ f, f = @f50_1000011d R := ⟨_, rfl⟩
noncomputable def f50_1000011 {R : Type} := Classical.choose (f50_1000011x (R := R))
theorem f50_1000011_def {R : Type} : @f50_1000011 R = @f50_1000011d R := Classical.choose_spec f50_1000011x
noncomputable def f50_2b {R : Type} (k : Nat) (rec : Int → Int → Option R) (x2 : Int → Option R) (v2_1 : List Int) (v2_2 : Int) (v2_3 : Int) (v2_0 : Int) (v2_4 : Int) : Option R :=
  (bif decide (v2_4 < (8 : Int)) then (f50_1000011 k (fun y11_N_0 => (rec y11_N_0 (IntKind.i64.wrap (v2_4 + (1 : Int))))) (Int.tmod (IntKind.i64.wrap (v2_0 * (2 : Int))) (65536 : Int)) (decide (v2_0 ≥ (32768 : Int)))) else (x2 v2_0))
noncomputable def f50_2d {R : Type} (k : Nat) (x2 : Int → Option R) (v2_1 : List Int) (v2_2 : Int) (v2_3 : Int) : Nat → Int → Int → Option R
  | 0, _, _ => none
  | m + 1, v2_0, v2_4 => f50_2b k (f50_2d k x2 v2_1 v2_2 v2_3 m) x2 v2_1 v2_2 v2_3 v2_0 v2_4
theorem f50_2x {R : Type} : ∃ f, f = @f50_2d R := ⟨_, rfl⟩
noncomputable def f50_2 {R : Type} := Classical.choose (f50_2x (R := R))
theorem f50_2_def {R : Type} : @f50_2 R = @f50_2d R := Classical.choose_spec f50_2x
noncomputable def f50_0b {R : Type} (k : Nat) (rec : Int → Int → Option R) (x0 : Int → Option R) (v0_1 : List Int) (v0_2 : Int) (v0_0 : Int) (v0_3 : Int) : Option R :=
  (bif decide (v0_3 < v0_2) then (bif (decide ((0 : Int) ≤ v0_3) && decide (v0_3 < (v0_1.length : Int))) then (f50_2 k (fun y2_2_0 => (rec y2_2_0 (IntKind.i64.wrap (v0_3 + (1 : Int))))) v0_1 v0_2 v0_3 k (bits .xor .i64 v0_0 (IntKind.i64.wrap ((IntKind.i64.wrap (v0_1.getD (Int.toNat v0_3) (0 : Int))) * (256 : Int)))) (0 : Int)) else none) else (x0 v0_0))
noncomputable def f50_0d {R : Type} (k : Nat) (x0 : Int → Option R) (v0_1 : List Int) (v0_2 : Int) : Nat → Int → Int → Option R
  | 0, _, _ => none
  | m + 1, v0_0, v0_3 => f50_0b k (f50_0d k x0 v0_1 v0_2 m) x0 v0_1 v0_2 v0_0 v0_3
theorem f50_0x {R : Type} : ∃ f, f = @f50_0d R := ⟨_, rfl⟩
noncomputable def f50_0 {R : Type} := Classical.choose (f50_0x (R := R))
theorem f50_0_def {R : Type} : @f50_0 R = @f50_0d R := Classical.choose_spec f50_0x
noncomputable def f50d {R : Type} (k : Nat) (a0 : List Int) (K : Int → Option R) : Option R := match k with
  | 0 => none
  | k + 1 => (f50_0 k (fun y0_0_0 => (K y0_0_0)) a0 (a0.length : Int) k (65535 : Int) (0 : Int))
theorem f50x {R : Type} : ∃ f, f = @f50d R := ⟨_, rfl⟩
noncomputable def f50 {R : Type} := Classical.choose (f50x (R := R))
theorem f50_def {R : Type} : @f50 R = @f50d R := Classical.choose_spec f50x
noncomputable def f18_1000013d {R : Type} (k : Nat) (xN : Int → Option R) (v13_1 : Int) (v13_3 : Bool) : Option R :=
  (bif v13_3 then (xN (2 : Int)) else (xN v13_1))
theorem f18_1000013x {R : Type} : ∃ f, f = @f18_1000013d R := ⟨_, rfl⟩
noncomputable def f18_1000013 {R : Type} := Classical.choose (f18_1000013x (R := R))
theorem f18_1000013_def {R : Type} : @f18_1000013 R = @f18_1000013d R := Classical.choose_spec f18_1000013x
noncomputable def f18_1000015d {R : Type} (k : Nat) (xN : Int → Option R) (v15_2 : Int) (v15_3 : Bool) : Option R :=
  (bif v15_3 then (xN (1 : Int)) else (xN v15_2))
theorem f18_1000015x {R : Type} : ∃ f, f = @f18_1000015d R := ⟨_, rfl⟩
noncomputable def f18_1000015 {R : Type} := Classical.choose (f18_1000015x (R := R))
theorem f18_1000015_def {R : Type} : @f18_1000015 R = @f18_1000015d R := Classical.choose_spec f18_1000015x
noncomputable def f18d {R : Type} (k : Nat) (a0 : Int) (a1 : Int) (a2 : Bool) (a3 : ByteArray) (a4 : Int) (a5 : Bool) (a6 : List Int) (K : Int → List Int → Option R) : Option R := match k with
  | 0 => none
  | k + 1 => (f52 k a0 (64 : Int) (1024 : Int) (fun r4097_0 => (bif ((!r4097_0) == false) then (f52 k a1 (1 : Int) (4000000000 : Int) (fun r4102_0 => (bif (!r4102_0) then (K (1 : Int) ([] : List Int)) else (f53 k a3 (fun r8194_0 => (bif (!r8194_0) then (K (5 : Int) ([] : List Int)) else (f52 k a4 (0 : Int) (65535 : Int) (fun r12290_0 => (bif (!r12290_0) then (K (1 : Int) ([] : List Int)) else (bif decide ((a6.length : Int) > IntKind.i64.wrap ((IntKind.i64.wrap (a0 - (15 : Int))) - (a3.size : Int))) then (K (2 : Int) ([] : List Int)) else (bif (a2 == true) then (bif (decide ((a6.length : Int) > (0 : Int)) == false) then (bif ((a4 != (0 : Int)) == false) then (bif (!a5) then (K (3 : Int) ([] : List Int)) else (f18_1000013 k (fun y13_N_1 => (f18_1000015 k (fun y15_N_2 => (bif decide (([IntKind.u8.wrap (Int.fdiv a1 (2 ^ 24)), IntKind.u8.wrap (Int.fdiv a1 (2 ^ 16)), IntKind.u8.wrap (Int.fdiv a1 (2 ^ 8)), IntKind.u8.wrap a1, y13_N_1, IntKind.u8.wrap (a3.size : Int), IntKind.u8.wrap (Int.fdiv a4 (2 ^ 8)), IntKind.u8.wrap a4, IntKind.u8.wrap (Int.fdiv (a6.length : Int) (2 ^ 8)), IntKind.u8.wrap (a6.length : Int), y15_N_2, (0 : Int)] : List Int).length + (bytesOf a3).length ≤ LIM 1) then (bif decide ((([IntKind.u8.wrap (Int.fdiv a1 (2 ^ 24)), IntKind.u8.wrap (Int.fdiv a1 (2 ^ 16)), IntKind.u8.wrap (Int.fdiv a1 (2 ^ 8)), IntKind.u8.wrap a1, y13_N_1, IntKind.u8.wrap (a3.size : Int), IntKind.u8.wrap (Int.fdiv a4 (2 ^ 8)), IntKind.u8.wrap a4, IntKind.u8.wrap (Int.fdiv (a6.length : Int) (2 ^ 8)), IntKind.u8.wrap (a6.length : Int), y15_N_2, (0 : Int)] : List Int) ++ (bytesOf a3)).length + a6.length ≤ LIM 1) then (f47 k ([(255 : Int)] : List Int) (IntKind.i64.wrap ((IntKind.i64.wrap (a0 - (3 : Int))) - (((([IntKind.u8.wrap (Int.fdiv a1 (2 ^ 24)), IntKind.u8.wrap (Int.fdiv a1 (2 ^ 16)), IntKind.u8.wrap (Int.fdiv a1 (2 ^ 8)), IntKind.u8.wrap a1, y13_N_1, IntKind.u8.wrap (a3.size : Int), IntKind.u8.wrap (Int.fdiv a4 (2 ^ 8)), IntKind.u8.wrap a4, IntKind.u8.wrap (Int.fdiv (a6.length : Int) (2 ^ 8)), IntKind.u8.wrap (a6.length : Int), y15_N_2, (0 : Int)] : List Int) ++ (bytesOf a3)) ++ a6).length : Int))) (fun r40967_0 => (bif decide (((([IntKind.u8.wrap (Int.fdiv a1 (2 ^ 24)), IntKind.u8.wrap (Int.fdiv a1 (2 ^ 16)), IntKind.u8.wrap (Int.fdiv a1 (2 ^ 8)), IntKind.u8.wrap a1, y13_N_1, IntKind.u8.wrap (a3.size : Int), IntKind.u8.wrap (Int.fdiv a4 (2 ^ 8)), IntKind.u8.wrap a4, IntKind.u8.wrap (Int.fdiv (a6.length : Int) (2 ^ 8)), IntKind.u8.wrap (a6.length : Int), y15_N_2, (0 : Int)] : List Int) ++ (bytesOf a3)) ++ a6).length + r40967_0.length ≤ LIM 1) then (f50 k (((([IntKind.u8.wrap (Int.fdiv a1 (2 ^ 24)), IntKind.u8.wrap (Int.fdiv a1 (2 ^ 16)), IntKind.u8.wrap (Int.fdiv a1 (2 ^ 8)), IntKind.u8.wrap a1, y13_N_1, IntKind.u8.wrap (a3.size : Int), IntKind.u8.wrap (Int.fdiv a4 (2 ^ 8)), IntKind.u8.wrap a4, IntKind.u8.wrap (Int.fdiv (a6.length : Int) (2 ^ 8)), IntKind.u8.wrap (a6.length : Int), y15_N_2, (0 : Int)] : List Int) ++ (bytesOf a3)) ++ a6) ++ r40967_0) (fun r43009_0 => (bif decide ((((([IntKind.u8.wrap (Int.fdiv a1 (2 ^ 24)), IntKind.u8.wrap (Int.fdiv a1 (2 ^ 16)), IntKind.u8.wrap (Int.fdiv a1 (2 ^ 8)), IntKind.u8.wrap a1, y13_N_1, IntKind.u8.wrap (a3.size : Int), IntKind.u8.wrap (Int.fdiv a4 (2 ^ 8)), IntKind.u8.wrap a4, IntKind.u8.wrap (Int.fdiv (a6.length : Int) (2 ^ 8)), IntKind.u8.wrap (a6.length : Int), y15_N_2, (0 : Int)] : List Int) ++ (bytesOf a3)) ++ a6) ++ r40967_0).length + ([IntKind.u8.wrap (Int.fdiv r43009_0 (2 ^ 8)), IntKind.u8.wrap r43009_0, (165 : Int)] : List Int).length ≤ LIM 1) then (K (0 : Int) ((((([IntKind.u8.wrap (Int.fdiv a1 (2 ^ 24)), IntKind.u8.wrap (Int.fdiv a1 (2 ^ 16)), IntKind.u8.wrap (Int.fdiv a1 (2 ^ 8)), IntKind.u8.wrap a1, y13_N_1, IntKind.u8.wrap (a3.size : Int), IntKind.u8.wrap (Int.fdiv a4 (2 ^ 8)), IntKind.u8.wrap a4, IntKind.u8.wrap (Int.fdiv (a6.length : Int) (2 ^ 8)), IntKind.u8.wrap (a6.length : Int), y15_N_2, (0 : Int)] : List Int) ++ (bytesOf a3)) ++ a6) ++ r40967_0) ++ ([IntKind.u8.wrap (Int.fdiv r43009_0 (2 ^ 8)), IntKind.u8.wrap r43009_0, (165 : Int)] : List Int))) else none))) else none))) else none) else none)) (0 : Int) a5)) (1 : Int) a2)) else (K (3 : Int) ([] : List Int))) else (K (3 : Int) ([] : List Int))) else (f18_1000013 k (fun y13_N_1 => (f18_1000015 k (fun y15_N_2 => (bif decide (([IntKind.u8.wrap (Int.fdiv a1 (2 ^ 24)), IntKind.u8.wrap (Int.fdiv a1 (2 ^ 16)), IntKind.u8.wrap (Int.fdiv a1 (2 ^ 8)), IntKind.u8.wrap a1, y13_N_1, IntKind.u8.wrap (a3.size : Int), IntKind.u8.wrap (Int.fdiv a4 (2 ^ 8)), IntKind.u8.wrap a4, IntKind.u8.wrap (Int.fdiv (a6.length : Int) (2 ^ 8)), IntKind.u8.wrap (a6.length : Int), y15_N_2, (0 : Int)] : List Int).length + (bytesOf a3).length ≤ LIM 1) then (bif decide ((([IntKind.u8.wrap (Int.fdiv a1 (2 ^ 24)), IntKind.u8.wrap (Int.fdiv a1 (2 ^ 16)), IntKind.u8.wrap (Int.fdiv a1 (2 ^ 8)), IntKind.u8.wrap a1, y13_N_1, IntKind.u8.wrap (a3.size : Int), IntKind.u8.wrap (Int.fdiv a4 (2 ^ 8)), IntKind.u8.wrap a4, IntKind.u8.wrap (Int.fdiv (a6.length : Int) (2 ^ 8)), IntKind.u8.wrap (a6.length : Int), y15_N_2, (0 : Int)] : List Int) ++ (bytesOf a3)).length + a6.length ≤ LIM 1) then (f47 k ([(255 : Int)] : List Int) (IntKind.i64.wrap ((IntKind.i64.wrap (a0 - (3 : Int))) - (((([IntKind.u8.wrap (Int.fdiv a1 (2 ^ 24)), IntKind.u8.wrap (Int.fdiv a1 (2 ^ 16)), IntKind.u8.wrap (Int.fdiv a1 (2 ^ 8)), IntKind.u8.wrap a1, y13_N_1, IntKind.u8.wrap (a3.size : Int), IntKind.u8.wrap (Int.fdiv a4 (2 ^ 8)), IntKind.u8.wrap a4, IntKind.u8.wrap (Int.fdiv (a6.length : Int) (2 ^ 8)), IntKind.u8.wrap (a6.length : Int), y15_N_2, (0 : Int)] : List Int) ++ (bytesOf a3)) ++ a6).length : Int))) (fun r40967_0 => (bif decide (((([IntKind.u8.wrap (Int.fdiv a1 (2 ^ 24)), IntKind.u8.wrap (Int.fdiv a1 (2 ^ 16)), IntKind.u8.wrap (Int.fdiv a1 (2 ^ 8)), IntKind.u8.wrap a1, y13_N_1, IntKind.u8.wrap (a3.size : Int), IntKind.u8.wrap (Int.fdiv a4 (2 ^ 8)), IntKind.u8.wrap a4, IntKind.u8.wrap (Int.fdiv (a6.length : Int) (2 ^ 8)), IntKind.u8.wrap (a6.length : Int), y15_N_2, (0 : Int)] : List Int) ++ (bytesOf a3)) ++ a6).length + r40967_0.length ≤ LIM 1) then (f50 k (((([IntKind.u8.wrap (Int.fdiv a1 (2 ^ 24)), IntKind.u8.wrap (Int.fdiv a1 (2 ^ 16)), IntKind.u8.wrap (Int.fdiv a1 (2 ^ 8)), IntKind.u8.wrap a1, y13_N_1, IntKind.u8.wrap (a3.size : Int), IntKind.u8.wrap (Int.fdiv a4 (2 ^ 8)), IntKind.u8.wrap a4, IntKind.u8.wrap (Int.fdiv (a6.length : Int) (2 ^ 8)), IntKind.u8.wrap (a6.length : Int), y15_N_2, (0 : Int)] : List Int) ++ (bytesOf a3)) ++ a6) ++ r40967_0) (fun r43009_0 => (bif decide ((((([IntKind.u8.wrap (Int.fdiv a1 (2 ^ 24)), IntKind.u8.wrap (Int.fdiv a1 (2 ^ 16)), IntKind.u8.wrap (Int.fdiv a1 (2 ^ 8)), IntKind.u8.wrap a1, y13_N_1, IntKind.u8.wrap (a3.size : Int), IntKind.u8.wrap (Int.fdiv a4 (2 ^ 8)), IntKind.u8.wrap a4, IntKind.u8.wrap (Int.fdiv (a6.length : Int) (2 ^ 8)), IntKind.u8.wrap (a6.length : Int), y15_N_2, (0 : Int)] : List Int) ++ (bytesOf a3)) ++ a6) ++ r40967_0).length + ([IntKind.u8.wrap (Int.fdiv r43009_0 (2 ^ 8)), IntKind.u8.wrap r43009_0, (165 : Int)] : List Int).length ≤ LIM 1) then (K (0 : Int) ((((([IntKind.u8.wrap (Int.fdiv a1 (2 ^ 24)), IntKind.u8.wrap (Int.fdiv a1 (2 ^ 16)), IntKind.u8.wrap (Int.fdiv a1 (2 ^ 8)), IntKind.u8.wrap a1, y13_N_1, IntKind.u8.wrap (a3.size : Int), IntKind.u8.wrap (Int.fdiv a4 (2 ^ 8)), IntKind.u8.wrap a4, IntKind.u8.wrap (Int.fdiv (a6.length : Int) (2 ^ 8)), IntKind.u8.wrap (a6.length : Int), y15_N_2, (0 : Int)] : List Int) ++ (bytesOf a3)) ++ a6) ++ r40967_0) ++ ([IntKind.u8.wrap (Int.fdiv r43009_0 (2 ^ 8)), IntKind.u8.wrap r43009_0, (165 : Int)] : List Int))) else none))) else none))) else none) else none)) (0 : Int) a5)) (1 : Int) a2)))))))))))) else (K (1 : Int) ([] : List Int)))))
theorem f18x {R : Type} : ∃ f, f = @f18d R := ⟨_, rfl⟩
noncomputable def f18 {R : Type} := Classical.choose (f18x (R := R))
theorem f18_def {R : Type} : @f18 R = @f18d R := Classical.choose_spec f18x
noncomputable def f76_0b {R : Type} (k : Nat) (rec : Int → Option R) (K : Bool → Option R) (x0 : Option R) (v0_0 : List Int) (v0_1 : List Int) (v0_2 : Int) (v0_3 : Int) : Option R :=
  (bif decide (v0_3 < v0_2) then (bif (decide ((0 : Int) ≤ v0_3) && decide (v0_3 < (v0_0.length : Int))) then (bif (decide ((0 : Int) ≤ v0_3) && decide (v0_3 < (v0_1.length : Int))) then (bif ((v0_0.getD (Int.toNat v0_3) (0 : Int)) != (v0_1.getD (Int.toNat v0_3) (0 : Int))) then (K false) else (rec (IntKind.i64.wrap (v0_3 + (1 : Int))))) else none) else none) else x0)
noncomputable def f76_0d {R : Type} (k : Nat) (K : Bool → Option R) (x0 : Option R) (v0_0 : List Int) (v0_1 : List Int) (v0_2 : Int) : Nat → Int → Option R
  | 0, _ => none
  | m + 1, v0_3 => f76_0b k (f76_0d k K x0 v0_0 v0_1 v0_2 m) K x0 v0_0 v0_1 v0_2 v0_3
theorem f76_0x {R : Type} : ∃ f, f = @f76_0d R := ⟨_, rfl⟩
noncomputable def f76_0 {R : Type} := Classical.choose (f76_0x (R := R))
theorem f76_0_def {R : Type} : @f76_0 R = @f76_0d R := Classical.choose_spec f76_0x
noncomputable def f76d {R : Type} (k : Nat) (a0 : List Int) (a1 : List Int) (K : Bool → Option R) : Option R := match k with
  | 0 => none
  | k + 1 => (bif ((a0.length : Int) != (a1.length : Int)) then (K false) else (f76_0 k K (K true) a0 a1 (a0.length : Int) k (0 : Int)))
theorem f76x {R : Type} : ∃ f, f = @f76d R := ⟨_, rfl⟩
noncomputable def f76 {R : Type} := Classical.choose (f76x (R := R))
theorem f76_def {R : Type} : @f76 R = @f76d R := Classical.choose_spec f76x
noncomputable def f56d {R : Type} (k : Nat) (a0 : List Int) (K : Int → Int → Bool → ByteArray → Int → Bool → List Int → Option R) : Option R := match k with
  | 0 => none
  | k + 1 => (f74 k a0 (fun r6145_0 => (bif r6145_0 then (K (1 : Int) (0 : Int) false (⟨#[]⟩ : ByteArray) (0 : Int) false ([] : List Int)) else (bif (decide ((0 : Int) ≤ IntKind.i64.wrap ((a0.length : Int) - (1 : Int))) && decide (IntKind.i64.wrap ((a0.length : Int) - (1 : Int)) < (a0.length : Int))) then (bif ((a0.getD (Int.toNat (IntKind.i64.wrap ((a0.length : Int) - (1 : Int)))) (0 : Int)) != (165 : Int)) then (K (2 : Int) (0 : Int) false (⟨#[]⟩ : ByteArray) (0 : Int) false ([] : List Int)) else (bif decide ((5 : Int) < (a0.length : Int)) then (bif decide ((8 : Int) < (a0.length : Int)) then (bif decide ((9 : Int) < (a0.length : Int)) then (bif decide (IntKind.i64.wrap ((IntKind.i64.wrap ((12 : Int) + (IntKind.i64.wrap (a0.getD 5 (0 : Int))))) + (bits .or .i64 (IntKind.i64.wrap ((IntKind.i64.wrap (a0.getD 8 (0 : Int))) * 2 ^ 8)) (IntKind.i64.wrap (a0.getD 9 (0 : Int))))) > IntKind.i64.wrap ((a0.length : Int) - (3 : Int))) then (K (3 : Int) (0 : Int) false (⟨#[]⟩ : ByteArray) (0 : Int) false ([] : List Int)) else (f75 k a0 (fun r20481_0 => (bif decide ((4 : Int) < (a0.length : Int)) then (bif (decide ((12 : Int) ≤ IntKind.i64.wrap ((12 : Int) + (IntKind.i64.wrap (a0.getD 5 (0 : Int))))) && decide (IntKind.i64.wrap ((12 : Int) + (IntKind.i64.wrap (a0.getD 5 (0 : Int)))) ≤ (a0.length : Int))) then (bif decide ((6 : Int) < (a0.length : Int)) then (bif decide ((7 : Int) < (a0.length : Int)) then (bif decide ((10 : Int) < (a0.length : Int)) then (bif (decide ((0 : Int) ≤ IntKind.i64.wrap ((12 : Int) + (IntKind.i64.wrap (a0.getD 5 (0 : Int))))) && (decide (IntKind.i64.wrap ((12 : Int) + (IntKind.i64.wrap (a0.getD 5 (0 : Int)))) ≤ IntKind.i64.wrap ((IntKind.i64.wrap ((12 : Int) + (IntKind.i64.wrap (a0.getD 5 (0 : Int))))) + (bits .or .i64 (IntKind.i64.wrap ((IntKind.i64.wrap (a0.getD 8 (0 : Int))) * 2 ^ 8)) (IntKind.i64.wrap (a0.getD 9 (0 : Int)))))) && decide (IntKind.i64.wrap ((IntKind.i64.wrap ((12 : Int) + (IntKind.i64.wrap (a0.getD 5 (0 : Int))))) + (bits .or .i64 (IntKind.i64.wrap ((IntKind.i64.wrap (a0.getD 8 (0 : Int))) * 2 ^ 8)) (IntKind.i64.wrap (a0.getD 9 (0 : Int))))) ≤ (a0.length : Int)))) then (f72 k ((a0.take (Int.toNat (IntKind.i64.wrap ((IntKind.i64.wrap ((12 : Int) + (IntKind.i64.wrap (a0.getD 5 (0 : Int))))) + (bits .or .i64 (IntKind.i64.wrap ((IntKind.i64.wrap (a0.getD 8 (0 : Int))) * 2 ^ 8)) (IntKind.i64.wrap (a0.getD 9 (0 : Int)))))))).drop (Int.toNat (IntKind.i64.wrap ((12 : Int) + (IntKind.i64.wrap (a0.getD 5 (0 : Int))))))) (fun r20513_0 => (f18 k (a0.length : Int) r20481_0 ((a0.getD 4 (0 : Int)) == (2 : Int)) (strOf ((a0.take (Int.toNat (IntKind.i64.wrap ((12 : Int) + (IntKind.i64.wrap (a0.getD 5 (0 : Int))))))).drop 12)) (bits .or .i64 (IntKind.i64.wrap ((IntKind.i64.wrap (a0.getD 6 (0 : Int))) * 2 ^ 8)) (IntKind.i64.wrap (a0.getD 7 (0 : Int)))) ((a0.getD 10 (0 : Int)) == (1 : Int)) r20513_0 (fun r22531_0 r22531_1 => (bif ((r22531_0 != (0 : Int)) == false) then (f76 k a0 r22531_1 (fun r24581_0 => (bif (!r24581_0) then (K (3 : Int) (0 : Int) false (⟨#[]⟩ : ByteArray) (0 : Int) false ([] : List Int)) else (K (4 : Int) r20481_0 ((a0.getD 4 (0 : Int)) == (2 : Int)) (strOf ((a0.take (Int.toNat (IntKind.i64.wrap ((12 : Int) + (IntKind.i64.wrap (a0.getD 5 (0 : Int))))))).drop 12)) (bits .or .i64 (IntKind.i64.wrap ((IntKind.i64.wrap (a0.getD 6 (0 : Int))) * 2 ^ 8)) (IntKind.i64.wrap (a0.getD 7 (0 : Int)))) ((a0.getD 10 (0 : Int)) == (1 : Int)) r20513_0)))) else (K (3 : Int) (0 : Int) false (⟨#[]⟩ : ByteArray) (0 : Int) false ([] : List Int))))))) else none) else none) else none) else none) else none) else none)))) else none) else none) else none)) else none))))
theorem f56x {R : Type} : ∃ f, f = @f56d R := ⟨_, rfl⟩
noncomputable def f56 {R : Type} := Classical.choose (f56x (R := R))
theorem f56_def {R : Type} : @f56 R = @f56d R := Classical.choose_spec f56x
noncomputable def f59_1000012d {R : Type} (k : Nat) (xN : Int → Option R) (v12_1 : List Int) (v12_5 : Bool) (v12_22 : Int) : Option R :=
  (bif v12_5 then (f75 k v12_1 (fun r26627_0 => (xN (if v12_22 < IntKind.i64.wrap (r26627_0 + (1 : Int)) then IntKind.i64.wrap (r26627_0 + (1 : Int)) else v12_22)))) else (xN v12_22))
theorem f59_1000012x {R : Type} : ∃ f, f = @f59_1000012d R := ⟨_, rfl⟩
noncomputable def f59_1000012 {R : Type} := Classical.choose (f59_1000012x (R := R))
theorem f59_1000012_def {R : Type} : @f59_1000012 R = @f59_1000012d R := Classical.choose_spec f59_1000012x
noncomputable def f59_1000015d {R : Type} (k : Nat) (xN : List (Int × ((Int × (Bool × (ByteArray × (Int × (Bool × (List Int × Unit)))))) × Unit)) → List ((Int × (ByteArray × Unit)) × Bool) → Option R) (v15_0 : Int) (v15_3 : Bool) (v15_22 : List (Int × ((Int × (Bool × (ByteArray × (Int × (Bool × (List Int × Unit)))))) × Unit))) (v15_23 : List ((Int × (ByteArray × Unit)) × Bool)) (v15_24 : Int) (v15_25 : Bool) (v15_26 : ByteArray) (v15_27 : Int) (v15_28 : Bool) (v15_29 : List Int) (v15_30 : Int) (v15_31 : ByteArray) : Option R :=
  (bif v15_3 then (bif decide (v15_22.length + ([(v15_0, ((v15_24, (v15_25, (v15_26, (v15_27, (v15_28, (v15_29, ())))))), ()))] : List (Int × ((Int × (Bool × (ByteArray × (Int × (Bool × (List Int × Unit)))))) × Unit))).length ≤ LIM 80) then (xN (v15_22 ++ ([(v15_0, ((v15_24, (v15_25, (v15_26, (v15_27, (v15_28, (v15_29, ())))))), ()))] : List (Int × ((Int × (Bool × (ByteArray × (Int × (Bool × (List Int × Unit)))))) × Unit)))) ((mdel (.prod (.int .i64) (.prod .str .unit)) (v15_30, (v15_31, ())) v15_23) ++ [((v15_30, (v15_31, ())), true)])) else none) else (xN v15_22 v15_23))
theorem f59_1000015x {R : Type} : ∃ f, f = @f59_1000015d R := ⟨_, rfl⟩
noncomputable def f59_1000015 {R : Type} := Classical.choose (f59_1000015x (R := R))
theorem f59_1000015_def {R : Type} : @f59_1000015 R = @f59_1000015d R := Classical.choose_spec f59_1000015x
noncomputable def f59_1d {R : Type} (k : Nat) (x1 : Int → List Int → List (Int × ((Int × (Bool × (ByteArray × (Int × (Bool × (List Int × Unit)))))) × Unit)) → List ((Int × (ByteArray × Unit)) × Bool) → Option R) (v1_1 : Int) (v1_2 : Int) (v1_3 : Int) (v1_4 : Int) (v1_5 : List Int) (v1_6 : List Int) (v1_7 : List Int) (v1_18 : Int) (v1_19 : List Int) (v1_20 : List (Int × ((Int × (Bool × (ByteArray × (Int × (Bool × (List Int × Unit)))))) × Unit))) (v1_21 : List ((Int × (ByteArray × Unit)) × Bool)) : Option R :=
  (bif (!(v1_3 == 0)) then (f79 k v1_7 (IntKind.i64.wrap (Int.tdiv v1_1 v1_3)) (fun r14342_0 => (bif r14342_0 then (bif decide (v1_19.length + ([(0 : Int)] : List Int).length ≤ LIM 8) then (x1 v1_18 (v1_19 ++ ([(0 : Int)] : List Int)) v1_20 v1_21) else none) else (f80 k v1_2 v1_3 v1_4 v1_5 v1_6 v1_7 v1_1 (fun r18434_0 => (f56 k r18434_0 (fun r20481_0 r20481_1 r20481_2 r20481_3 r20481_4 r20481_5 r20481_6 => (bif decide (v1_19.length + ([r20481_0] : List Int).length ≤ LIM 8) then (bif decide ((4 : Int) ≤ (r18434_0.length : Int)) then (f74 k (r18434_0.take 4) (fun r24578_0 => (f59_1000012 k (fun y12_N_20 => (bif ((r20481_0 == (4 : Int)) == true) then (f59_1000015 k (fun y15_N_20 y15_N_21 => (x1 y12_N_20 (v1_19 ++ ([r20481_0] : List Int)) y15_N_20 y15_N_21)) v1_1 (!((mget (.prod (.int .i64) (.prod .str .unit)) (r20481_1, (r20481_3, ())) v1_21).getD false)) v1_20 v1_21 r20481_1 r20481_2 r20481_3 r20481_4 r20481_5 r20481_6 r20481_1 r20481_3) else (f59_1000015 k (fun y15_N_20 y15_N_21 => (x1 y12_N_20 (v1_19 ++ ([r20481_0] : List Int)) y15_N_20 y15_N_21)) v1_1 false v1_20 v1_21 r20481_1 r20481_2 r20481_3 r20481_4 r20481_5 r20481_6 r20481_1 r20481_3))) r18434_0 (!r24578_0) v1_18))) else none) else none)))))))) else none)
theorem f59_1x {R : Type} : ∃ f, f = @f59_1d R := ⟨_, rfl⟩
noncomputable def f59_1 {R : Type} := Classical.choose (f59_1x (R := R))
theorem f59_1_def {R : Type} : @f59_1 R = @f59_1d R := Classical.choose_spec f59_1x
noncomputable def f59_0b {R : Type} (k : Nat) (rec : Int → Int → List Int → List (Int × ((Int × (Bool × (ByteArray × (Int × (Bool × (List Int × Unit)))))) × Unit)) → List ((Int × (ByteArray × Unit)) × Bool) → Option R) (x0 : Int → List Int → List (Int × ((Int × (Bool × (ByteArray × (Int × (Bool × (List Int × Unit)))))) × Unit)) → Option R) (v0_0 : Int) (v0_2 : Int) (v0_3 : Int) (v0_4 : Int) (v0_5 : List Int) (v0_6 : List Int) (v0_7 : List Int) (v0_8 : Int) (v0_9 : Int) (v0_10 : Int) (v0_11 : Int) (v0_12 : Int) (v0_13 : Int) (v0_14 : Int) (v0_15 : List Int) (v0_16 : List Int) (v0_17 : List Int) (v0_1 : Int) (v0_18 : Int) (v0_19 : List Int) (v0_20 : List (Int × ((Int × (Bool × (ByteArray × (Int × (Bool × (List Int × Unit)))))) × Unit))) (v0_21 : List ((Int × (ByteArray × Unit)) × Bool)) : Option R :=
  (bif decide (v0_1 < v0_0) then (f59_1 k (fun y1_1_18 y1_1_19 y1_1_20 y1_1_21 => (rec (IntKind.i64.wrap (v0_1 + (1 : Int))) y1_1_18 y1_1_19 y1_1_20 y1_1_21)) v0_1 v0_2 v0_3 v0_4 v0_5 v0_6 v0_7 v0_18 v0_19 v0_20 v0_21) else (x0 v0_18 v0_19 v0_20))
noncomputable def f59_0d {R : Type} (k : Nat) (x0 : Int → List Int → List (Int × ((Int × (Bool × (ByteArray × (Int × (Bool × (List Int × Unit)))))) × Unit)) → Option R) (v0_0 : Int) (v0_2 : Int) (v0_3 : Int) (v0_4 : Int) (v0_5 : List Int) (v0_6 : List Int) (v0_7 : List Int) (v0_8 : Int) (v0_9 : Int) (v0_10 : Int) (v0_11 : Int) (v0_12 : Int) (v0_13 : Int) (v0_14 : Int) (v0_15 : List Int) (v0_16 : List Int) (v0_17 : List Int) : Nat → Int → Int → List Int → List (Int × ((Int × (Bool × (ByteArray × (Int × (Bool × (List Int × Unit)))))) × Unit)) → List ((Int × (ByteArray × Unit)) × Bool) → Option R
  | 0, _, _, _, _, _ => none
  | m + 1, v0_1, v0_18, v0_19, v0_20, v0_21 => f59_0b k (f59_0d k x0 v0_0 v0_2 v0_3 v0_4 v0_5 v0_6 v0_7 v0_8 v0_9 v0_10 v0_11 v0_12 v0_13 v0_14 v0_15 v0_16 v0_17 m) x0 v0_0 v0_2 v0_3 v0_4 v0_5 v0_6 v0_7 v0_8 v0_9 v0_10 v0_11 v0_12 v0_13 v0_14 v0_15 v0_16 v0_17 v0_1 v0_18 v0_19 v0_20 v0_21
theorem f59_0x {R : Type} : ∃ f, f = @f59_0d R := ⟨_, rfl⟩
noncomputable def f59_0 {R : Type} := Classical.choose (f59_0x (R := R))
theorem f59_0_def {R : Type} : @f59_0 R = @f59_0d R := Classical.choose_spec f59_0x
noncomputable def f59d {R : Type} (k : Nat) (a0 : Int) (a1 : Int) (a2 : Int) (a3 : List Int) (a4 : List Int) (a5 : List Int) (K : Int → Int → Int → List Int → List Int → List Int → Int → List Int → List (Int × ((Int × (Bool × (ByteArray × (Int × (Bool × (List Int × Unit)))))) × Unit)) → Option R) : Option R := match k with
  | 0 => none
  | k + 1 => (f59_0 k (fun y0_0_10 y0_0_11 y0_0_12 => (K a0 a1 a2 a3 a4 a5 y0_0_10 y0_0_11 y0_0_12)) (IntKind.i64.wrap (a0 * a1)) a0 a1 a2 a3 a4 a5 (0 : Int) (0 : Int) (0 : Int) (0 : Int) a0 a1 a2 a3 a4 a5 k (0 : Int) (1 : Int) ([] : List Int) ([] : List ((Int × ((Int × (Bool × (ByteArray × (Int × (Bool × (List Int × Unit)))))) × Unit)))) ([] : List ((Int × (ByteArray × Unit)) × Bool)))
theorem f59x {R : Type} : ∃ f, f = @f59d R := ⟨_, rfl⟩
noncomputable def f59 {R : Type} := Classical.choose (f59x (R := R))
theorem f59_def {R : Type} : @f59 R = @f59d R := Classical.choose_spec f59x
noncomputable def f88d {R : Type} (k : Nat) (a0 : List ByteArray) (K : List ByteArray → Option R) : Option R := match k with
  | 0 => none
  | _ + 1 => bif ssOk a0 then K (ssL a0) else none
theorem f88x {R : Type} : ∃ f, f = @f88d R := ⟨_, rfl⟩
noncomputable def f88 {R : Type} := Classical.choose (f88x (R := R))
theorem f88_def {R : Type} : @f88 R = @f88d R := Classical.choose_spec f88x
noncomputable def f89_1000012d {R : Type} (k : Nat) (xN : Int → List ByteArray → Option R) (v12_0 : Int) (v12_1 : Nat) (v12_2 : Nat) (v12_3 : Int) (v12_4 : Bool) (v12_5 : List ByteArray) : Option R :=
  (bif v12_4 then (bif (decide ((0 : Int) ≤ v12_3) && decide (v12_3 < (v12_2 : Int))) then (bif (decide ((0 : Int) ≤ v12_0) && decide (v12_0 < (v12_5.length : Int))) then (xN (IntKind.i64.wrap (v12_0 + (1 : Int))) (v12_5.set (Int.toNat v12_0) (v12_5.getD (v12_1 + (Int.toNat v12_3)) (⟨#[]⟩ : ByteArray)))) else none) else none) else (xN v12_0 v12_5))
theorem f89_1000012x {R : Type} : ∃ f, f = @f89_1000012d R := ⟨_, rfl⟩
noncomputable def f89_1000012 {R : Type} := Classical.choose (f89_1000012x (R := R))
theorem f89_1000012_def {R : Type} : @f89_1000012 R = @f89_1000012d R := Classical.choose_spec f89_1000012x
noncomputable def f89_2b {R : Type} (k : Nat) (rec : Int → Int → List ByteArray → Option R) (x2 : Int → List ByteArray → Option R) (v2_1 : Nat) (v2_2 : Nat) (v2_0 : Int) (v2_3 : Int) (v2_4 : List ByteArray) : Option R :=
  (bif decide (v2_3 < (v2_2 : Int)) then (bif (decide ((0 : Int) ≤ v2_3) && decide (v2_3 < (v2_2 : Int))) then (bif (decide ((0 : Int) ≤ IntKind.i64.wrap (v2_3 - (1 : Int))) && decide (IntKind.i64.wrap (v2_3 - (1 : Int)) < (v2_2 : Int))) then (f89_1000012 k (fun y12_N_0 y12_N_4 => (rec y12_N_0 (IntKind.i64.wrap (v2_3 + (1 : Int))) y12_N_4)) v2_0 v2_1 v2_2 v2_3 (!((v2_4.getD (v2_1 + (Int.toNat v2_3)) (⟨#[]⟩ : ByteArray)).toList == (v2_4.getD (v2_1 + (Int.toNat (IntKind.i64.wrap (v2_3 - (1 : Int))))) (⟨#[]⟩ : ByteArray)).toList)) v2_4) else none) else none) else (x2 v2_0 v2_4))
noncomputable def f89_2d {R : Type} (k : Nat) (x2 : Int → List ByteArray → Option R) (v2_1 : Nat) (v2_2 : Nat) : Nat → Int → Int → List ByteArray → Option R
  | 0, _, _, _ => none
  | m + 1, v2_0, v2_3, v2_4 => f89_2b k (f89_2d k x2 v2_1 v2_2 m) x2 v2_1 v2_2 v2_0 v2_3 v2_4
theorem f89_2x {R : Type} : ∃ f, f = @f89_2d R := ⟨_, rfl⟩
noncomputable def f89_2 {R : Type} := Classical.choose (f89_2x (R := R))
theorem f89_2_def {R : Type} : @f89_2 R = @f89_2d R := Classical.choose_spec f89_2x
noncomputable def f89_0b {R : Type} (k : Nat) (rec : Int → Option R) (K : List ByteArray → Option R) (x0 : Option R) (v0_1 : List ByteArray) (v0_0 : Int) : Option R :=
  (bif decide (v0_0 < (v0_1.length : Int)) then (bif (decide ((0 : Int) ≤ v0_0) && decide (v0_0 < (v0_1.length : Int))) then (bif (decide ((0 : Int) ≤ IntKind.i64.wrap (v0_0 - (1 : Int))) && decide (IntKind.i64.wrap (v0_0 - (1 : Int)) < (v0_1.length : Int))) then (bif ((v0_1.getD (Int.toNat v0_0) (⟨#[]⟩ : ByteArray)).toList == (v0_1.getD (Int.toNat (IntKind.i64.wrap (v0_0 - (1 : Int)))) (⟨#[]⟩ : ByteArray)).toList) then (bif (decide ((0 : Int) ≤ v0_0) && decide (v0_0 ≤ (v0_1.length : Int))) then (f89_2 k (fun y2_2_0 y2_2_1 => (bif (decide ((0 : Int) ≤ y2_2_0) && decide (y2_2_0 ≤ (y2_2_1.length : Int))) then (bif (decide ((0 : Int) ≤ y2_2_0) && decide (y2_2_0 ≤ ((splice y2_2_1 (Int.toNat y2_2_0) (List.replicate (y2_2_1.length - (Int.toNat y2_2_0)) (⟨#[]⟩ : ByteArray))).length : Int))) then (K (((splice y2_2_1 (Int.toNat y2_2_0) (List.replicate (y2_2_1.length - (Int.toNat y2_2_0)) (⟨#[]⟩ : ByteArray))).drop 0).take (Int.toNat y2_2_0))) else none) else none)) (Int.toNat v0_0) (v0_1.length - (Int.toNat v0_0)) k v0_0 (1 : Int) v0_1) else none) else (rec (IntKind.i64.wrap (v0_0 + (1 : Int))))) else none) else none) else x0)
noncomputable def f89_0d {R : Type} (k : Nat) (K : List ByteArray → Option R) (x0 : Option R) (v0_1 : List ByteArray) : Nat → Int → Option R
  | 0, _ => none
  | m + 1, v0_0 => f89_0b k (f89_0d k K x0 v0_1 m) K x0 v0_1 v0_0
theorem f89_0x {R : Type} : ∃ f, f = @f89_0d R := ⟨_, rfl⟩
noncomputable def f89_0 {R : Type} := Classical.choose (f89_0x (R := R))
theorem f89_0_def {R : Type} : @f89_0 R = @f89_0d R := Classical.choose_spec f89_0x
noncomputable def f89d {R : Type} (k : Nat) (a0 : List ByteArray) (K : List ByteArray → Option R) : Option R := match k with
  | 0 => none
  | k + 1 => (bif decide ((a0.length : Int) < (2 : Int)) then (K a0) else (f89_0 k K (K a0) a0 k (1 : Int)))
theorem f89x {R : Type} : ∃ f, f = @f89d R := ⟨_, rfl⟩
noncomputable def f89 {R : Type} := Classical.choose (f89x (R := R))
theorem f89_def {R : Type} : @f89 R = @f89d R := Classical.choose_spec f89x
noncomputable def f66_0b {R : Type} (k : Nat) (rec : Int → List ByteArray → Option R) (x0 : List ByteArray → Option R) (v0_0 : List ((Int × ((Int × (Bool × (ByteArray × (Int × (Bool × (List Int × Unit)))))) × Unit)))) (v0_1 : Int) (v0_2 : Int) (v0_3 : List ByteArray) : Option R :=
  (bif decide (v0_2 < v0_1) then (bif (decide ((0 : Int) ≤ v0_2) && decide (v0_2 < (v0_0.length : Int))) then (bif decide (v0_3.length + ([(((((v0_0.getD (Int.toNat v0_2) ((0 : Int), (((0 : Int), (false, ((⟨#[]⟩ : ByteArray), ((0 : Int), (false, (([] : List Int), ())))))), ()))).2).1).2).2).1] : List ByteArray).length ≤ LIM 16) then (rec (IntKind.i64.wrap (v0_2 + (1 : Int))) (v0_3 ++ ([(((((v0_0.getD (Int.toNat v0_2) ((0 : Int), (((0 : Int), (false, ((⟨#[]⟩ : ByteArray), ((0 : Int), (false, (([] : List Int), ())))))), ()))).2).1).2).2).1] : List ByteArray))) else none) else none) else (x0 v0_3))
noncomputable def f66_0d {R : Type} (k : Nat) (x0 : List ByteArray → Option R) (v0_0 : List ((Int × ((Int × (Bool × (ByteArray × (Int × (Bool × (List Int × Unit)))))) × Unit)))) (v0_1 : Int) : Nat → Int → List ByteArray → Option R
  | 0, _, _ => none
  | m + 1, v0_2, v0_3 => f66_0b k (f66_0d k x0 v0_0 v0_1 m) x0 v0_0 v0_1 v0_2 v0_3
theorem f66_0x {R : Type} : ∃ f, f = @f66_0d R := ⟨_, rfl⟩
noncomputable def f66_0 {R : Type} := Classical.choose (f66_0x (R := R))
theorem f66_0_def {R : Type} : @f66_0 R = @f66_0d R := Classical.choose_spec f66_0x
noncomputable def f66d {R : Type} (k : Nat) (a0 : Int) (a1 : Int) (a2 : Int) (a3 : List Int) (a4 : List Int) (a5 : List Int) (a6 : List Int) (a7 : List ((Int × ((Int × (Bool × (ByteArray × (Int × (Bool × (List Int × Unit)))))) × Unit)))) (a8 : Int) (K : List ByteArray → Option R) : Option R := match k with
  | 0 => none
  | k + 1 => (f66_0 k (fun y0_0_0 => (f88 k y0_0_0 (fun r16385_0 => (bif (decide (r16385_0.length = y0_0_0.length) && true) then (f89 k r16385_0 (fun r18433_0 => (K r18433_0))) else none)))) a7 (a7.length : Int) k (0 : Int) ([] : List ByteArray))
theorem f66x {R : Type} : ∃ f, f = @f66d R := ⟨_, rfl⟩
noncomputable def f66 {R : Type} := Classical.choose (f66x (R := R))
theorem f66_def {R : Type} : @f66 R = @f66d R := Classical.choose_spec f66x
noncomputable def f106d {R : Type} (k : Nat) (a0 : Int) (a1 : Int) (a2 : Bool) (a3 : ByteArray) (a4 : Int) (a5 : Bool) (a6 : List Int) (K : Int → Option R) : Option R := match k with
  | 0 => none
  | k + 1 => (K (IntKind.i64.wrap (a1 - a4)))
theorem f106x {R : Type} : ∃ f, f = @f106d R := ⟨_, rfl⟩
noncomputable def f106 {R : Type} := Classical.choose (f106x (R := R))
theorem f106_def {R : Type} : @f106 R = @f106d R := Classical.choose_spec f106x
noncomputable def f91_1000006d {R : Type} (k : Nat) (xN : List (Int × List ((Int × ((Int × (Bool × (ByteArray × (Int × (Bool × (List Int × Unit)))))) × Unit)))) → Option R) (v6_4 : Bool) (v6_5 : List (Int × List ((Int × ((Int × (Bool × (ByteArray × (Int × (Bool × (List Int × Unit)))))) × Unit))))) (v6_6 : Int) (v6_7 : Int) (v6_8 : Bool) (v6_9 : ByteArray) (v6_10 : Int) (v6_11 : Bool) (v6_12 : List Int) : Option R :=
  (bif v6_4 then (f106 k v6_6 v6_7 v6_8 v6_9 v6_10 v6_11 v6_12 (fun r14338_0 => (f106 k v6_6 v6_7 v6_8 v6_9 v6_10 v6_11 v6_12 (fun r14341_0 => (bif decide (((mget (.int .i64) r14341_0 v6_5).getD []).length + ([(v6_6, ((v6_7, (v6_8, (v6_9, (v6_10, (v6_11, (v6_12, ())))))), ()))] : List (Int × ((Int × (Bool × (ByteArray × (Int × (Bool × (List Int × Unit)))))) × Unit))).length ≤ LIM 80) then (bif (r14338_0 == r14341_0) then (xN ((mdel (.int .i64) r14338_0 (mdel (.int .i64) r14341_0 v6_5)) ++ [(r14338_0, (((mget (.int .i64) r14341_0 v6_5).getD []) ++ ([(v6_6, ((v6_7, (v6_8, (v6_9, (v6_10, (v6_11, (v6_12, ())))))), ()))] : List (Int × ((Int × (Bool × (ByteArray × (Int × (Bool × (List Int × Unit)))))) × Unit)))))])) else none) else none))))) else (xN v6_5))
theorem f91_1000006x {R : Type} : ∃ f, f = @f91_1000006d R := ⟨_, rfl⟩
noncomputable def f91_1000006 {R : Type} := Classical.choose (f91_1000006x (R := R))
theorem f91_1000006_def {R : Type} : @f91_1000006 R = @f91_1000006d R := Classical.choose_spec f91_1000006x
noncomputable def f91_0b {R : Type} (k : Nat) (rec : Int → List (Int × List ((Int × ((Int × (Bool × (ByteArray × (Int × (Bool × (List Int × Unit)))))) × Unit)))) → Option R) (x0 : List (Int × List ((Int × ((Int × (Bool × (ByteArray × (Int × (Bool × (List Int × Unit)))))) × Unit)))) → Option R) (v0_0 : ByteArray) (v0_1 : List ((Int × ((Int × (Bool × (ByteArray × (Int × (Bool × (List Int × Unit)))))) × Unit)))) (v0_2 : Int) (v0_3 : Int) (v0_4 : List (Int × List ((Int × ((Int × (Bool × (ByteArray × (Int × (Bool × (List Int × Unit)))))) × Unit))))) : Option R :=
  (bif decide (v0_3 < v0_2) then (bif (decide ((0 : Int) ≤ v0_3) && decide (v0_3 < (v0_1.length : Int))) then (f91_1000006 k (fun y6_N_4 => (rec (IntKind.i64.wrap (v0_3 + (1 : Int))) y6_N_4)) (((((((v0_1.getD (Int.toNat v0_3) ((0 : Int), (((0 : Int), (false, ((⟨#[]⟩ : ByteArray), ((0 : Int), (false, (([] : List Int), ())))))), ()))).2).1).2).2).1).toList == v0_0.toList) v0_4 ((v0_1.getD (Int.toNat v0_3) ((0 : Int), (((0 : Int), (false, ((⟨#[]⟩ : ByteArray), ((0 : Int), (false, (([] : List Int), ())))))), ()))).1) ((((v0_1.getD (Int.toNat v0_3) ((0 : Int), (((0 : Int), (false, ((⟨#[]⟩ : ByteArray), ((0 : Int), (false, (([] : List Int), ())))))), ()))).2).1).1) (((((v0_1.getD (Int.toNat v0_3) ((0 : Int), (((0 : Int), (false, ((⟨#[]⟩ : ByteArray), ((0 : Int), (false, (([] : List Int), ())))))), ()))).2).1).2).1) ((((((v0_1.getD (Int.toNat v0_3) ((0 : Int), (((0 : Int), (false, ((⟨#[]⟩ : ByteArray), ((0 : Int), (false, (([] : List Int), ())))))), ()))).2).1).2).2).1) (((((((v0_1.getD (Int.toNat v0_3) ((0 : Int), (((0 : Int), (false, ((⟨#[]⟩ : ByteArray), ((0 : Int), (false, (([] : List Int), ())))))), ()))).2).1).2).2).2).1) ((((((((v0_1.getD (Int.toNat v0_3) ((0 : Int), (((0 : Int), (false, ((⟨#[]⟩ : ByteArray), ((0 : Int), (false, (([] : List Int), ())))))), ()))).2).1).2).2).2).2).1) (((((((((v0_1.getD (Int.toNat v0_3) ((0 : Int), (((0 : Int), (false, ((⟨#[]⟩ : ByteArray), ((0 : Int), (false, (([] : List Int), ())))))), ()))).2).1).2).2).2).2).2).1)) else none) else (x0 v0_4))
noncomputable def f91_0d {R : Type} (k : Nat) (x0 : List (Int × List ((Int × ((Int × (Bool × (ByteArray × (Int × (Bool × (List Int × Unit)))))) × Unit)))) → Option R) (v0_0 : ByteArray) (v0_1 : List ((Int × ((Int × (Bool × (ByteArray × (Int × (Bool × (List Int × Unit)))))) × Unit)))) (v0_2 : Int) : Nat → Int → List (Int × List ((Int × ((Int × (Bool × (ByteArray × (Int × (Bool × (List Int × Unit)))))) × Unit)))) → Option R
  | 0, _, _ => none
  | m + 1, v0_3, v0_4 => f91_0b k (f91_0d k x0 v0_0 v0_1 v0_2 m) x0 v0_0 v0_1 v0_2 v0_3 v0_4
theorem f91_0x {R : Type} : ∃ f, f = @f91_0d R := ⟨_, rfl⟩
noncomputable def f91_0 {R : Type} := Classical.choose (f91_0x (R := R))
theorem f91_0_def {R : Type} : @f91_0 R = @f91_0d R := Classical.choose_spec f91_0x
noncomputable def f91d {R : Type} (k : Nat) (a0 : Int) (a1 : Int) (a2 : Int) (a3 : List Int) (a4 : List Int) (a5 : List Int) (a6 : List Int) (a7 : List ((Int × ((Int × (Bool × (ByteArray × (Int × (Bool × (List Int × Unit)))))) × Unit)))) (a8 : Int) (a9 : ByteArray) (K : List (Int × List ((Int × ((Int × (Bool × (ByteArray × (Int × (Bool × (List Int × Unit)))))) × Unit)))) → Option R) : Option R := match k with
  | 0 => none
  | k + 1 => (f91_0 k (fun y0_0_0 => (K y0_0_0)) a9 a7 (a7.length : Int) k (0 : Int) ([] : List (Int × List ((Int × ((Int × (Bool × (ByteArray × (Int × (Bool × (List Int × Unit)))))) × Unit))))))
theorem f91x {R : Type} : ∃ f, f = @f91d R := ⟨_, rfl⟩
noncomputable def f91 {R : Type} := Classical.choose (f91x (R := R))
theorem f91_def {R : Type} : @f91 R = @f91d R := Classical.choose_spec f91x
noncomputable def f104d {R : Type} (k : Nat) (a0 : List (Int × ((Int × (Bool × (ByteArray × (Int × (Bool × (List Int × Unit)))))) × Unit))) (K : List (Int × ((Int × (Bool × (ByteArray × (Int × (Bool × (List Int × Unit)))))) × Unit)) → Option R) : Option R := match k with
  | 0 => none
  | _ + 1 => bif skOk keyIx a0 then K (skL keyIx a0) else none
theorem f104x {R : Type} : ∃ f, f = @f104d R := ⟨_, rfl⟩
noncomputable def f104 {R : Type} := Classical.choose (f104x (R := R))
theorem f104_def {R : Type} : @f104 R = @f104d R := Classical.choose_spec f104x
noncomputable def f92_1000008d {R : Type} (k : Nat) (xN : Int → Bool → Option R) (v8_0 : Int) (v8_1 : Int) (v8_4 : Bool) (v8_12 : Bool) (v8_18 : Int) : Option R :=
  (bif v8_4 then (xN (IntKind.i64.wrap (v8_0 + (1 : Int))) (v8_18 == v8_1)) else (xN v8_0 v8_12))
theorem f92_1000008x {R : Type} : ∃ f, f = @f92_1000008d R := ⟨_, rfl⟩
noncomputable def f92_1000008 {R : Type} := Classical.choose (f92_1000008x (R := R))
theorem f92_1000008_def {R : Type} : @f92_1000008 R = @f92_1000008d R := Classical.choose_spec f92_1000008x
noncomputable def f92_0b {R : Type} (k : Nat) (rec : Int → Int → Bool → Option R) (x0 : Int → Bool → Option R) (v0_1 : Int) (v0_3 : List (Int × ((Int × (Bool × (ByteArray × (Int × (Bool × (List Int × Unit)))))) × Unit))) (v0_4 : Int) (v0_5 : Int) (v0_6 : Bool) (v0_7 : Bool) (v0_8 : Int) (v0_9 : Int) (v0_11 : Bool) (v0_0 : Int) (v0_2 : Int) (v0_10 : Bool) : Option R :=
  (bif decide (v0_2 < v0_1) then (bif (decide ((0 : Int) ≤ v0_2) && decide (v0_2 < (v0_3.length : Int))) then (f92_1000008 k (fun y8_N_0 y8_N_10 => (rec y8_N_0 (IntKind.i64.wrap (v0_2 + (1 : Int))) y8_N_10)) v0_0 v0_2 ((((((((v0_3.getD (Int.toNat v0_2) ((0 : Int), (((0 : Int), (false, ((⟨#[]⟩ : ByteArray), ((0 : Int), (false, (([] : List Int), ())))))), ()))).2).1).2).2).2).2).1) v0_10 (((((((v0_3.getD (Int.toNat v0_2) ((0 : Int), (((0 : Int), (false, ((⟨#[]⟩ : ByteArray), ((0 : Int), (false, (([] : List Int), ())))))), ()))).2).1).2).2).2).1)) else none) else (x0 v0_0 v0_10))
noncomputable def f92_0d {R : Type} (k : Nat) (x0 : Int → Bool → Option R) (v0_1 : Int) (v0_3 : List (Int × ((Int × (Bool × (ByteArray × (Int × (Bool × (List Int × Unit)))))) × Unit))) (v0_4 : Int) (v0_5 : Int) (v0_6 : Bool) (v0_7 : Bool) (v0_8 : Int) (v0_9 : Int) (v0_11 : Bool) : Nat → Int → Int → Bool → Option R
  | 0, _, _, _ => none
  | m + 1, v0_0, v0_2, v0_10 => f92_0b k (f92_0d k x0 v0_1 v0_3 v0_4 v0_5 v0_6 v0_7 v0_8 v0_9 v0_11 m) x0 v0_1 v0_3 v0_4 v0_5 v0_6 v0_7 v0_8 v0_9 v0_11 v0_0 v0_2 v0_10
theorem f92_0x {R : Type} : ∃ f, f = @f92_0d R := ⟨_, rfl⟩
noncomputable def f92_0 {R : Type} := Classical.choose (f92_0x (R := R))
theorem f92_0_def {R : Type} : @f92_0 R = @f92_0d R := Classical.choose_spec f92_0x
noncomputable def f92d {R : Type} (k : Nat) (a0 : Int) (a1 : List (Int × ((Int × (Bool × (ByteArray × (Int × (Bool × (List Int × Unit)))))) × Unit))) (K : Int → Int → Bool → Bool → List (Int × ((Int × (Bool × (ByteArray × (Int × (Bool × (List Int × Unit)))))) × Unit)) → Option R) : Option R := match k with
  | 0 => none
  | k + 1 => (f104 k a1 (fun r4097_0 => (bif (decide (r4097_0.length = a1.length) && true) then (bif decide ((0 : Int) < (r4097_0.length : Int)) then (bif ((((((((r4097_0.getD 0 ((0 : Int), (((0 : Int), (false, ((⟨#[]⟩ : ByteArray), ((0 : Int), (false, (([] : List Int), ())))))), ()))).2).1).2).2).2).1 == (0 : Int)) == true) then (bif decide ((0 : Int) < (r4097_0.length : Int)) then (f92_0 k (fun y0_0_0 y0_0_8 => (bif (y0_0_8 == true) then (K a0 (r4097_0.length : Int) (y0_0_0 == (1 : Int)) (((((r4097_0.getD 0 ((0 : Int), (((0 : Int), (false, ((⟨#[]⟩ : ByteArray), ((0 : Int), (false, (([] : List Int), ())))))), ()))).2).1).2).1) r4097_0) else (K a0 (r4097_0.length : Int) false (((((r4097_0.getD 0 ((0 : Int), (((0 : Int), (false, ((⟨#[]⟩ : ByteArray), ((0 : Int), (false, (([] : List Int), ())))))), ()))).2).1).2).1) r4097_0))) (r4097_0.length : Int) r4097_0 (0 : Int) (0 : Int) false false a0 (r4097_0.length : Int) (((((r4097_0.getD 0 ((0 : Int), (((0 : Int), (false, ((⟨#[]⟩ : ByteArray), ((0 : Int), (false, (([] : List Int), ())))))), ()))).2).1).2).1) k (0 : Int) (0 : Int) false) else none) else (f92_0 k (fun y0_0_0 y0_0_8 => (bif (y0_0_8 == true) then (K a0 (r4097_0.length : Int) (y0_0_0 == (1 : Int)) false r4097_0) else (K a0 (r4097_0.length : Int) false false r4097_0))) (r4097_0.length : Int) r4097_0 (0 : Int) (0 : Int) false false a0 (r4097_0.length : Int) false k (0 : Int) (0 : Int) false)) else none) else none)))
theorem f92x {R : Type} : ∃ f, f = @f92d R := ⟨_, rfl⟩
noncomputable def f92 {R : Type} := Classical.choose (f92x (R := R))
theorem f92_def {R : Type} : @f92 R = @f92d R := Classical.choose_spec f92x
noncomputable def f93d {R : Type} (k : Nat) (a0 : List (Int × (Int × (Bool × (Bool × Unit))))) (K : List (Int × (Int × (Bool × (Bool × Unit)))) → Option R) : Option R := match k with
  | 0 => none
  | _ + 1 => bif skOk keyGen a0 then K (skL keyGen a0) else none
theorem f93x {R : Type} : ∃ f, f = @f93d R := ⟨_, rfl⟩
noncomputable def f93 {R : Type} := Classical.choose (f93x (R := R))
theorem f93_def {R : Type} : @f93 R = @f93d R := Classical.choose_spec f93x
noncomputable def f69_0b {R : Type} (k : Nat) (rec : List (Int × (Int × (Bool × (Bool × Unit)))) → List (Int × List ((Int × ((Int × (Bool × (ByteArray × (Int × (Bool × (List Int × Unit)))))) × Unit)))) → Option R) (x0 : List (Int × (Int × (Bool × (Bool × Unit)))) → Option R) (v0_0 : List (Int × (Int × (Bool × (Bool × Unit))))) (v0_1 : List (Int × List ((Int × ((Int × (Bool × (ByteArray × (Int × (Bool × (List Int × Unit)))))) × Unit))))) : Option R :=
  (allOf (List.length v0_1) fun i8192 => (bif (!(List.isEmpty v0_1)) then (bif (!(List.isEmpty (bring i8192 v0_1))) then (f92 k (((List.head? (bring i8192 v0_1)).map (·.1)).getD (0 : Int)) (((List.head? (bring i8192 v0_1)).map (·.2)).getD []) (fun r12291_0 r12291_1 r12291_2 r12291_3 r12291_4 => (bif (decide (r12291_4.length = (((List.head? (bring i8192 v0_1)).map (·.2)).getD []).length) && true) then (bif decide (v0_0.length + ([(r12291_0, (r12291_1, (r12291_2, (r12291_3, ()))))] : List (Int × (Int × (Bool × (Bool × Unit))))).length ≤ LIM 24) then (rec (v0_0 ++ ([(r12291_0, (r12291_1, (r12291_2, (r12291_3, ()))))] : List (Int × (Int × (Bool × (Bool × Unit)))))) (List.tail (bring i8192 v0_1))) else none) else none))) else none) else (x0 v0_0)))
noncomputable def f69_0d {R : Type} (k : Nat) (x0 : List (Int × (Int × (Bool × (Bool × Unit)))) → Option R) : Nat → List (Int × (Int × (Bool × (Bool × Unit)))) → List (Int × List ((Int × ((Int × (Bool × (ByteArray × (Int × (Bool × (List Int × Unit)))))) × Unit)))) → Option R
  | 0, _, _ => none
  | m + 1, v0_0, v0_1 => f69_0b k (f69_0d k x0 m) x0 v0_0 v0_1
theorem f69_0x {R : Type} : ∃ f, f = @f69_0d R := ⟨_, rfl⟩
noncomputable def f69_0 {R : Type} := Classical.choose (f69_0x (R := R))
theorem f69_0_def {R : Type} : @f69_0 R = @f69_0d R := Classical.choose_spec f69_0x
noncomputable def f69d {R : Type} (k : Nat) (a0 : Int) (a1 : Int) (a2 : Int) (a3 : List Int) (a4 : List Int) (a5 : List Int) (a6 : List Int) (a7 : List ((Int × ((Int × (Bool × (ByteArray × (Int × (Bool × (List Int × Unit)))))) × Unit)))) (a8 : Int) (a9 : ByteArray) (K : List (Int × (Int × (Bool × (Bool × Unit)))) → Option R) : Option R := match k with
  | 0 => none
  | k + 1 => (f91 k a0 a1 a2 a3 a4 a5 a6 a7 a8 a9 (fun r6146_0 => (f69_0 k (fun y0_0_0 => (f93 k y0_0_0 (fun r14337_0 => (bif (decide (r14337_0.length = y0_0_0.length) && true) then (K r14337_0) else none)))) k ([] : List ((Int × (Int × (Bool × (Bool × Unit)))))) r6146_0)))
theorem f69x {R : Type} : ∃ f, f = @f69d R := ⟨_, rfl⟩
noncomputable def f69 {R : Type} := Classical.choose (f69x (R := R))
theorem f69_def {R : Type} : @f69 R = @f69d R := Classical.choose_spec f69x
noncomputable def f90_0b {R : Type} (k : Nat) (rec : Int → Option R) (K : Int → Int → Bool → Bool → Bool → List (Int × ((Int × (Bool × (ByteArray × (Int × (Bool × (List Int × Unit)))))) × Unit)) → Option R) (x0 : Option R) (v0_0 : ByteArray) (v0_1 : Int) (v0_3 : Int) (v0_4 : Int) (v0_5 : Int) (v0_6 : List Int) (v0_7 : List Int) (v0_8 : List Int) (v0_9 : List Int) (v0_10 : List ((Int × ((Int × (Bool × (ByteArray × (Int × (Bool × (List Int × Unit)))))) × Unit)))) (v0_11 : Int) (v0_12 : Int) (v0_13 : Int) (v0_14 : Bool) (v0_15 : Bool) (v0_16 : List (Int × (Int × (Bool × (Bool × Unit))))) (v0_2 : Int) : Option R :=
  (bif decide (v0_2 < v0_1) then (bif (decide ((0 : Int) ≤ v0_2) && decide (v0_2 < (v0_16.length : Int))) then (bif (((v0_16.getD (Int.toNat v0_2) ((0 : Int), ((0 : Int), (false, (false, ()))))).2).2).1 then (f91 k v0_3 v0_4 v0_5 v0_6 v0_7 v0_8 v0_9 v0_10 v0_11 v0_0 (fun r12290_0 => (f104 k ((mget (.int .i64) ((v0_16.getD (Int.toNat v0_2) ((0 : Int), ((0 : Int), (false, (false, ()))))).1) r12290_0).getD []) (fun r14337_0 => (bif (decide (r14337_0.length = ((mget (.int .i64) ((v0_16.getD (Int.toNat v0_2) ((0 : Int), ((0 : Int), (false, (false, ()))))).1) r12290_0).getD []).length) && true) then (K ((v0_16.getD (Int.toNat v0_2) ((0 : Int), ((0 : Int), (false, (false, ()))))).1) (((v0_16.getD (Int.toNat v0_2) ((0 : Int), ((0 : Int), (false, (false, ()))))).2).1) ((((v0_16.getD (Int.toNat v0_2) ((0 : Int), ((0 : Int), (false, (false, ()))))).2).2).1) (((((v0_16.getD (Int.toNat v0_2) ((0 : Int), ((0 : Int), (false, (false, ()))))).2).2).2).1) true r14337_0) else none))))) else (rec (IntKind.i64.wrap (v0_2 + (1 : Int))))) else none) else x0)
noncomputable def f90_0d {R : Type} (k : Nat) (K : Int → Int → Bool → Bool → Bool → List (Int × ((Int × (Bool × (ByteArray × (Int × (Bool × (List Int × Unit)))))) × Unit)) → Option R) (x0 : Option R) (v0_0 : ByteArray) (v0_1 : Int) (v0_3 : Int) (v0_4 : Int) (v0_5 : Int) (v0_6 : List Int) (v0_7 : List Int) (v0_8 : List Int) (v0_9 : List Int) (v0_10 : List ((Int × ((Int × (Bool × (ByteArray × (Int × (Bool × (List Int × Unit)))))) × Unit)))) (v0_11 : Int) (v0_12 : Int) (v0_13 : Int) (v0_14 : Bool) (v0_15 : Bool) (v0_16 : List (Int × (Int × (Bool × (Bool × Unit))))) : Nat → Int → Option R
  | 0, _ => none
  | m + 1, v0_2 => f90_0b k (f90_0d k K x0 v0_0 v0_1 v0_3 v0_4 v0_5 v0_6 v0_7 v0_8 v0_9 v0_10 v0_11 v0_12 v0_13 v0_14 v0_15 v0_16 m) K x0 v0_0 v0_1 v0_3 v0_4 v0_5 v0_6 v0_7 v0_8 v0_9 v0_10 v0_11 v0_12 v0_13 v0_14 v0_15 v0_16 v0_2
theorem f90_0x {R : Type} : ∃ f, f = @f90_0d R := ⟨_, rfl⟩
noncomputable def f90_0 {R : Type} := Classical.choose (f90_0x (R := R))
theorem f90_0_def {R : Type} : @f90_0 R = @f90_0d R := Classical.choose_spec f90_0x
noncomputable def f90d {R : Type} (k : Nat) (a0 : Int) (a1 : Int) (a2 : Int) (a3 : List Int) (a4 : List Int) (a5 : List Int) (a6 : List Int) (a7 : List ((Int × ((Int × (Bool × (ByteArray × (Int × (Bool × (List Int × Unit)))))) × Unit)))) (a8 : Int) (a9 : ByteArray) (K : Int → Int → Bool → Bool → Bool → List (Int × ((Int × (Bool × (ByteArray × (Int × (Bool × (List Int × Unit)))))) × Unit)) → Option R) : Option R := match k with
  | 0 => none
  | k + 1 => (f69 k a0 a1 a2 a3 a4 a5 a6 a7 a8 a9 (fun r4098_0 => (f90_0 k K (K (0 : Int) (0 : Int) false false false ([] : List ((Int × ((Int × (Bool × (ByteArray × (Int × (Bool × (List Int × Unit)))))) × Unit))))) a9 (r4098_0.length : Int) a0 a1 a2 a3 a4 a5 a6 a7 a8 (0 : Int) (0 : Int) false false r4098_0 k (0 : Int))))
theorem f90x {R : Type} : ∃ f, f = @f90d R := ⟨_, rfl⟩
noncomputable def f90 {R : Type} := Classical.choose (f90x (R := R))
theorem f90_def {R : Type} : @f90 R = @f90d R := Classical.choose_spec f90x
noncomputable def f68d {R : Type} (k : Nat) (a0 : Int) (a1 : Int) (a2 : Int) (a3 : List Int) (a4 : List Int) (a5 : List Int) (a6 : List Int) (a7 : List ((Int × ((Int × (Bool × (ByteArray × (Int × (Bool × (List Int × Unit)))))) × Unit)))) (a8 : Int) (a9 : ByteArray) (K : Bool → List (Int × ((Int × (Bool × (ByteArray × (Int × (Bool × (List Int × Unit)))))) × Unit)) → Option R) : Option R := match k with
  | 0 => none
  | k + 1 => (f90 k a0 a1 a2 a3 a4 a5 a6 a7 a8 a9 (fun r4098_0 r4098_1 r4098_2 r4098_3 r4098_4 r4098_5 => (bif (r4098_4 == true) then (K (!r4098_3) r4098_5) else (K false r4098_5))))
theorem f68x {R : Type} : ∃ f, f = @f68d R := ⟨_, rfl⟩
noncomputable def f68 {R : Type} := Classical.choose (f68x (R := R))
theorem f68_def {R : Type} : @f68 R = @f68d R := Classical.choose_spec f68x
noncomputable def f67d {R : Type} (k : Nat) (a0 : ByteArray) (a1 : Int) (a2 : Int) (a3 : Int) (a4 : List Int) (a5 : List Int) (a6 : List Int) (a7 : Int) (a8 : List Int) (a9 : List (Int × ((Int × (Bool × (ByteArray × (Int × (Bool × (List Int × Unit)))))) × Unit))) (K : Bool → Int → Int → Int → List Int → List Int → List Int → Int → List Int → List (Int × ((Int × (Bool × (ByteArray × (Int × (Bool × (List Int × Unit)))))) × Unit)) → Option R) : Option R := match k with
  | 0 => none
  | k + 1 => (f68 k a1 a2 a3 a4 a5 a6 a8 a9 a7 a0 (fun r4098_0 r4098_1 => (K (!r4098_0) a1 a2 a3 a4 a5 a6 a7 a8 a9)))
theorem f67x {R : Type} : ∃ f, f = @f67d R := ⟨_, rfl⟩
noncomputable def f67 {R : Type} := Classical.choose (f67x (R := R))
theorem f67_def {R : Type} : @f67 R = @f67d R := Classical.choose_spec f67x
noncomputable def f87_0b {R : Type} (k : Nat) (rec : Int → Int → Int → Int → List Int → List Int → List Int → Int → List Int → List (Int × ((Int × (Bool × (ByteArray × (Int × (Bool × (List Int × Unit)))))) × Unit)) → Option R) (K : Int → List ByteArray → Int → Int → Int → List Int → List Int → List Int → Int → List Int → List (Int × ((Int × (Bool × (ByteArray × (Int × (Bool × (List Int × Unit)))))) × Unit)) → Option R) (x0 : Int → Int → Int → List Int → List Int → List Int → Int → List Int → List (Int × ((Int × (Bool × (ByteArray × (Int × (Bool × (List Int × Unit)))))) × Unit)) → Option R) (v0_0 : Int) (v0_2 : List ByteArray) (v0_1 : Int) (v0_3 : Int) (v0_4 : Int) (v0_5 : Int) (v0_6 : List Int) (v0_7 : List Int) (v0_8 : List Int) (v0_9 : Int) (v0_10 : List Int) (v0_11 : List (Int × ((Int × (Bool × (ByteArray × (Int × (Bool × (List Int × Unit)))))) × Unit))) : Option R :=
  (bif decide (v0_1 < v0_0) then (bif (decide ((0 : Int) ≤ v0_1) && decide (v0_1 < (v0_2.length : Int))) then (f67 k (v0_2.getD (Int.toNat v0_1) (⟨#[]⟩ : ByteArray)) v0_3 v0_4 v0_5 v0_6 v0_7 v0_8 v0_9 v0_10 v0_11 (fun r10245_0 r10245_1 r10245_2 r10245_3 r10245_4 r10245_5 r10245_6 r10245_7 r10245_8 r10245_9 => (bif (decide (r10245_8.length = v0_10.length) && (decide (r10245_9.length = v0_11.length) && true)) then (bif r10245_0 then (K v0_1 v0_2 r10245_1 r10245_2 r10245_3 r10245_4 r10245_5 r10245_6 r10245_7 r10245_8 r10245_9) else (rec (IntKind.i64.wrap (v0_1 + (1 : Int))) r10245_1 r10245_2 r10245_3 r10245_4 r10245_5 r10245_6 r10245_7 r10245_8 r10245_9)) else none))) else none) else (x0 v0_3 v0_4 v0_5 v0_6 v0_7 v0_8 v0_9 v0_10 v0_11))
noncomputable def f87_0d {R : Type} (k : Nat) (K : Int → List ByteArray → Int → Int → Int → List Int → List Int → List Int → Int → List Int → List (Int × ((Int × (Bool × (ByteArray × (Int × (Bool × (List Int × Unit)))))) × Unit)) → Option R) (x0 : Int → Int → Int → List Int → List Int → List Int → Int → List Int → List (Int × ((Int × (Bool × (ByteArray × (Int × (Bool × (List Int × Unit)))))) × Unit)) → Option R) (v0_0 : Int) (v0_2 : List ByteArray) : Nat → Int → Int → Int → Int → List Int → List Int → List Int → Int → List Int → List (Int × ((Int × (Bool × (ByteArray × (Int × (Bool × (List Int × Unit)))))) × Unit)) → Option R
  | 0, _, _, _, _, _, _, _, _, _, _ => none
  | m + 1, v0_1, v0_3, v0_4, v0_5, v0_6, v0_7, v0_8, v0_9, v0_10, v0_11 => f87_0b k (f87_0d k K x0 v0_0 v0_2 m) K x0 v0_0 v0_2 v0_1 v0_3 v0_4 v0_5 v0_6 v0_7 v0_8 v0_9 v0_10 v0_11
theorem f87_0x {R : Type} : ∃ f, f = @f87_0d R := ⟨_, rfl⟩
noncomputable def f87_0 {R : Type} := Classical.choose (f87_0x (R := R))
theorem f87_0_def {R : Type} : @f87_0 R = @f87_0d R := Classical.choose_spec f87_0x
noncomputable def f87d {R : Type} (k : Nat) (a0 : List ByteArray) (a1 : Int) (a2 : Int) (a3 : Int) (a4 : List Int) (a5 : List Int) (a6 : List Int) (a7 : Int) (a8 : List Int) (a9 : List (Int × ((Int × (Bool × (ByteArray × (Int × (Bool × (List Int × Unit)))))) × Unit))) (K : Int → List ByteArray → Int → Int → Int → List Int → List Int → List Int → Int → List Int → List (Int × ((Int × (Bool × (ByteArray × (Int × (Bool × (List Int × Unit)))))) × Unit)) → Option R) : Option R := match k with
  | 0 => none
  | k + 1 => (f87_0 k K (fun y0_0_1 y0_0_2 y0_0_3 y0_0_4 y0_0_5 y0_0_6 y0_0_7 y0_0_8 y0_0_9 => (K (-1 : Int) a0 y0_0_1 y0_0_2 y0_0_3 y0_0_4 y0_0_5 y0_0_6 y0_0_7 y0_0_8 y0_0_9)) (a0.length : Int) a0 k (0 : Int) a1 a2 a3 a4 a5 a6 a7 a8 a9)
theorem f87x {R : Type} : ∃ f, f = @f87d R := ⟨_, rfl⟩
noncomputable def f87 {R : Type} := Classical.choose (f87x (R := R))
theorem f87_def {R : Type} : @f87 R = @f87d R := Classical.choose_spec f87x
noncomputable def f65_1000009d {R : Type} (k : Nat) (xN : Int → List ByteArray → Option R) (v9_0 : Int) (v9_2 : ByteArray) (v9_3 : Bool) (v9_4 : List ByteArray) : Option R :=
  (bif v9_3 then (bif (decide ((0 : Int) ≤ v9_0) && decide (v9_0 < (v9_4.length : Int))) then (xN (IntKind.i64.wrap (v9_0 + (1 : Int))) (v9_4.set (Int.toNat v9_0) v9_2)) else none) else (xN v9_0 v9_4))
theorem f65_1000009x {R : Type} : ∃ f, f = @f65_1000009d R := ⟨_, rfl⟩
noncomputable def f65_1000009 {R : Type} := Classical.choose (f65_1000009x (R := R))
theorem f65_1000009_def {R : Type} : @f65_1000009 R = @f65_1000009d R := Classical.choose_spec f65_1000009x
noncomputable def f65_0b {R : Type} (k : Nat) (rec : Int → Int → List ByteArray → Int → Int → Int → List Int → List Int → List Int → Int → List Int → List (Int × ((Int × (Bool × (ByteArray × (Int × (Bool × (List Int × Unit)))))) × Unit)) → Option R) (x0 : Int → List ByteArray → Int → Int → Int → List Int → List Int → List Int → Int → List Int → List (Int × ((Int × (Bool × (ByteArray × (Int × (Bool × (List Int × Unit)))))) × Unit)) → Option R) (v0_0 : Int) (v0_1 : Int) (v0_2 : List ByteArray) (v0_3 : Int) (v0_4 : Int) (v0_5 : Int) (v0_6 : List Int) (v0_7 : List Int) (v0_8 : List Int) (v0_9 : Int) (v0_10 : List Int) (v0_11 : List (Int × ((Int × (Bool × (ByteArray × (Int × (Bool × (List Int × Unit)))))) × Unit))) : Option R :=
  (bif decide (v0_1 < (v0_2.length : Int)) then (bif (decide ((0 : Int) ≤ v0_1) && decide (v0_1 < (v0_2.length : Int))) then (f67 k (v0_2.getD (Int.toNat v0_1) (⟨#[]⟩ : ByteArray)) v0_3 v0_4 v0_5 v0_6 v0_7 v0_8 v0_9 v0_10 v0_11 (fun r18434_0 r18434_1 r18434_2 r18434_3 r18434_4 r18434_5 r18434_6 r18434_7 r18434_8 r18434_9 => (bif (decide (r18434_8.length = v0_10.length) && (decide (r18434_9.length = v0_11.length) && true)) then (f65_1000009 k (fun y9_N_0 y9_N_2 => (rec y9_N_0 (IntKind.i64.wrap (v0_1 + (1 : Int))) y9_N_2 r18434_1 r18434_2 r18434_3 r18434_4 r18434_5 r18434_6 r18434_7 r18434_8 r18434_9)) v0_0 (v0_2.getD (Int.toNat v0_1) (⟨#[]⟩ : ByteArray)) (!r18434_0) v0_2) else none))) else none) else (x0 v0_0 v0_2 v0_3 v0_4 v0_5 v0_6 v0_7 v0_8 v0_9 v0_10 v0_11))
noncomputable def f65_0d {R : Type} (k : Nat) (x0 : Int → List ByteArray → Int → Int → Int → List Int → List Int → List Int → Int → List Int → List (Int × ((Int × (Bool × (ByteArray × (Int × (Bool × (List Int × Unit)))))) × Unit)) → Option R) : Nat → Int → Int → List ByteArray → Int → Int → Int → List Int → List Int → List Int → Int → List Int → List (Int × ((Int × (Bool × (ByteArray × (Int × (Bool × (List Int × Unit)))))) × Unit)) → Option R
  | 0, _, _, _, _, _, _, _, _, _, _, _, _ => none
  | m + 1, v0_0, v0_1, v0_2, v0_3, v0_4, v0_5, v0_6, v0_7, v0_8, v0_9, v0_10, v0_11 => f65_0b k (f65_0d k x0 m) x0 v0_0 v0_1 v0_2 v0_3 v0_4 v0_5 v0_6 v0_7 v0_8 v0_9 v0_10 v0_11
theorem f65_0x {R : Type} : ∃ f, f = @f65_0d R := ⟨_, rfl⟩
noncomputable def f65_0 {R : Type} := Classical.choose (f65_0x (R := R))
theorem f65_0_def {R : Type} : @f65_0 R = @f65_0d R := Classical.choose_spec f65_0x
noncomputable def f65d {R : Type} (k : Nat) (a0 : List ByteArray) (a1 : Int) (a2 : Int) (a3 : Int) (a4 : List Int) (a5 : List Int) (a6 : List Int) (a7 : Int) (a8 : List Int) (a9 : List (Int × ((Int × (Bool × (ByteArray × (Int × (Bool × (List Int × Unit)))))) × Unit))) (K : Int → Int → Int → List Int → List Int → List Int → Int → List Int → List (Int × ((Int × (Bool × (ByteArray × (Int × (Bool × (List Int × Unit)))))) × Unit)) → List ByteArray → Option R) : Option R := match k with
  | 0 => none
  | k + 1 => (f87 k a0 a1 a2 a3 a4 a5 a6 a7 a8 a9 (fun r4098_0 r4098_1 r4098_2 r4098_3 r4098_4 r4098_5 r4098_6 r4098_7 r4098_8 r4098_9 r4098_10 => (bif (decide (r4098_1.length = a0.length) && (decide (r4098_9.length = a8.length) && (decide (r4098_10.length = a9.length) && true))) then (bif (r4098_0 == (-1 : Int)) then (K r4098_2 r4098_3 r4098_4 r4098_5 r4098_6 r4098_7 r4098_8 r4098_9 r4098_10 r4098_1) else (f65_0 k (fun y0_0_0 y0_0_1 y0_0_2 y0_0_3 y0_0_4 y0_0_5 y0_0_6 y0_0_7 y0_0_8 y0_0_9 y0_0_10 => (bif (decide ((0 : Int) ≤ y0_0_0) && decide (y0_0_0 ≤ (y0_0_1.length : Int))) then (bif (decide ((0 : Int) ≤ y0_0_0) && decide (y0_0_0 ≤ ((splice y0_0_1 (Int.toNat y0_0_0) (List.replicate (y0_0_1.length - (Int.toNat y0_0_0)) (⟨#[]⟩ : ByteArray))).length : Int))) then (K y0_0_2 y0_0_3 y0_0_4 y0_0_5 y0_0_6 y0_0_7 y0_0_8 y0_0_9 y0_0_10 (((splice y0_0_1 (Int.toNat y0_0_0) (List.replicate (y0_0_1.length - (Int.toNat y0_0_0)) (⟨#[]⟩ : ByteArray))).drop 0).take (Int.toNat y0_0_0))) else none) else none)) k r4098_0 (IntKind.i64.wrap (r4098_0 + (1 : Int))) r4098_1 r4098_2 r4098_3 r4098_4 r4098_5 r4098_6 r4098_7 r4098_8 r4098_9 r4098_10)) else none)))
theorem f65x {R : Type} : ∃ f, f = @f65d R := ⟨_, rfl⟩
noncomputable def f65 {R : Type} := Classical.choose (f65x (R := R))
theorem f65_def {R : Type} : @f65 R = @f65d R := Classical.choose_spec f65x
noncomputable def f31d {R : Type} (k : Nat) (a0 : Int) (a1 : Int) (a2 : Int) (a3 : List Int) (a4 : List Int) (a5 : List Int) (K : Int → List ByteArray → Option R) : Option R := match k with
  | 0 => none
  | k + 1 => (f37 k a0 a1 a2 a3 a4 a5 (fun r4097_0 => (bif (r4097_0 != (0 : Int)) then (K r4097_0 ([] : List ByteArray)) else (f59 k a0 a1 a2 a3 a4 a5 (fun r10241_0 r10241_1 r10241_2 r10241_3 r10241_4 r10241_5 r10241_6 r10241_7 r10241_8 => (f66 k r10241_0 r10241_1 r10241_2 r10241_3 r10241_4 r10241_5 r10241_7 r10241_8 r10241_6 (fun r12289_0 => (f65 k r12289_0 r10241_0 r10241_1 r10241_2 r10241_3 r10241_4 r10241_5 r10241_6 r10241_7 r10241_8 (fun r12291_0 r12291_1 r12291_2 r12291_3 r12291_4 r12291_5 r12291_6 r12291_7 r12291_8 r12291_9 => (bif (decide (r12291_7.length = r10241_7.length) && (decide (r12291_8.length = r10241_8.length) && true)) then (K (0 : Int) r12291_9) else none))))))))))
theorem f31x {R : Type} : ∃ f, f = @f31d R := ⟨_, rfl⟩
noncomputable def f31 {R : Type} := Classical.choose (f31x (R := R))
theorem f31_def {R : Type} : @f31 R = @f31d R := Classical.choose_spec f31x
noncomputable def f58d {R : Type} (k : Nat) (a0 : Int) (a1 : Int) (a2 : Int) (a3 : List Int) (a4 : List Int) (a5 : List Int) (a6 : ByteArray) (K : Int → Option R) : Option R := match k with
  | 0 => none
  | k + 1 => (f37 k a0 a1 a2 a3 a4 a5 (fun r4097_0 => (bif (r4097_0 != (0 : Int)) then (K r4097_0) else (f53 k a6 (fun r10241_0 => (bif (!r10241_0) then (K (5 : Int)) else (K (0 : Int))))))))
theorem f58x {R : Type} : ∃ f, f = @f58d R := ⟨_, rfl⟩
noncomputable def f58 {R : Type} := Classical.choose (f58x (R := R))
theorem f58_def {R : Type} : @f58 R = @f58d R := Classical.choose_spec f58x
noncomputable def f32d {R : Type} (k : Nat) (a0 : Int) (a1 : Int) (a2 : Int) (a3 : List Int) (a4 : List Int) (a5 : List Int) (a6 : ByteArray) (K : Int → List (Int × (Int × (Bool × (Bool × Unit)))) → Option R) : Option R := match k with
  | 0 => none
  | k + 1 => (f58 k a0 a1 a2 a3 a4 a5 a6 (fun r4098_0 => (bif (r4098_0 != (0 : Int)) then (K r4098_0 ([] : List ((Int × (Int × (Bool × (Bool × Unit))))))) else (f59 k a0 a1 a2 a3 a4 a5 (fun r10241_0 r10241_1 r10241_2 r10241_3 r10241_4 r10241_5 r10241_6 r10241_7 r10241_8 => (f69 k r10241_0 r10241_1 r10241_2 r10241_3 r10241_4 r10241_5 r10241_7 r10241_8 r10241_6 a6 (fun r10243_0 => (K (0 : Int) r10243_0))))))))
theorem f32x {R : Type} : ∃ f, f = @f32d R := ⟨_, rfl⟩
noncomputable def f32 {R : Type} := Classical.choose (f32x (R := R))
theorem f32_def {R : Type} : @f32 R = @f32d R := Classical.choose_spec f32x
noncomputable def f16d {R : Type} (k : Nat) (a0 : List Int) (K : Int → Int → Option R) : Option R := match k with
  | 0 => none
  | k + 1 => (bif decide ((a0.length : Int) > (262144 : Int)) then (K (0 : Int) (2 : Int)) else (f50 k a0 (fun r8193_0 => (K r8193_0 (0 : Int)))))
theorem f16x {R : Type} : ∃ f, f = @f16d R := ⟨_, rfl⟩
noncomputable def f16 {R : Type} := Classical.choose (f16x (R := R))
theorem f16_def {R : Type} : @f16 R = @f16d R := Classical.choose_spec f16x
noncomputable def f13d {R : Type} (k : Nat) (K : Bool → Option R) : Option R := match k with
  | 0 => none
  | k + 1 => (bif decide (0 < ([(49 : Int), (50 : Int), (51 : Int), (52 : Int), (53 : Int), (54 : Int), (55 : Int), (56 : Int), (57 : Int)] : List Int).length) then (f16 k ([(49 : Int), (50 : Int), (51 : Int), (52 : Int), (53 : Int), (54 : Int), (55 : Int), (56 : Int), (57 : Int)] : List Int) (fun r4098_0 r4098_1 => (bif ((r4098_1 == (0 : Int)) == true) then (K (r4098_0 == (10673 : Int))) else (K false)))) else none)
theorem f13x {R : Type} : ∃ f, f = @f13d R := ⟨_, rfl⟩
noncomputable def f13 {R : Type} := Classical.choose (f13x (R := R))
theorem f13_def {R : Type} : @f13 R = @f13d R := Classical.choose_spec f13x
noncomputable def f33_0b {R : Type} (k : Nat) (rec : Int → List Int → Option R) (x0 : List Int → Option R) (v0_0 : Int) (v0_3 : List (Int × ((Int × (Bool × (ByteArray × (Int × (Bool × (List Int × Unit)))))) × Unit))) (v0_1 : Int) (v0_2 : List Int) : Option R :=
  (bif decide (v0_1 < v0_0) then (bif (decide ((0 : Int) ≤ v0_1) && decide (v0_1 < (v0_3.length : Int))) then (bif decide (v0_2.length + (((((((((v0_3.getD (Int.toNat v0_1) ((0 : Int), (((0 : Int), (false, ((⟨#[]⟩ : ByteArray), ((0 : Int), (false, (([] : List Int), ())))))), ()))).2).1).2).2).2).2).2).1).length ≤ LIM 1) then (bif (((((((v0_3.getD (Int.toNat v0_1) ((0 : Int), (((0 : Int), (false, ((⟨#[]⟩ : ByteArray), ((0 : Int), (false, (([] : List Int), ())))))), ()))).2).1).2).2).2).2).1 then (x0 (v0_2 ++ ((((((((v0_3.getD (Int.toNat v0_1) ((0 : Int), (((0 : Int), (false, ((⟨#[]⟩ : ByteArray), ((0 : Int), (false, (([] : List Int), ())))))), ()))).2).1).2).2).2).2).2).1)) else (rec (IntKind.i64.wrap (v0_1 + (1 : Int))) (v0_2 ++ ((((((((v0_3.getD (Int.toNat v0_1) ((0 : Int), (((0 : Int), (false, ((⟨#[]⟩ : ByteArray), ((0 : Int), (false, (([] : List Int), ())))))), ()))).2).1).2).2).2).2).2).1))) else none) else none) else (x0 v0_2))
noncomputable def f33_0d {R : Type} (k : Nat) (x0 : List Int → Option R) (v0_0 : Int) (v0_3 : List (Int × ((Int × (Bool × (ByteArray × (Int × (Bool × (List Int × Unit)))))) × Unit))) : Nat → Int → List Int → Option R
  | 0, _, _ => none
  | m + 1, v0_1, v0_2 => f33_0b k (f33_0d k x0 v0_0 v0_3 m) x0 v0_0 v0_3 v0_1 v0_2
theorem f33_0x {R : Type} : ∃ f, f = @f33_0d R := ⟨_, rfl⟩
noncomputable def f33_0 {R : Type} := Classical.choose (f33_0x (R := R))
theorem f33_0_def {R : Type} : @f33_0 R = @f33_0d R := Classical.choose_spec f33_0x
noncomputable def f33d {R : Type} (k : Nat) (a0 : Int) (a1 : Int) (a2 : Int) (a3 : List Int) (a4 : List Int) (a5 : List Int) (a6 : ByteArray) (K : Int → List Int → Option R) : Option R := match k with
  | 0 => none
  | k + 1 => (f58 k a0 a1 a2 a3 a4 a5 a6 (fun r4098_0 => (bif (r4098_0 != (0 : Int)) then (K r4098_0 ([] : List Int)) else (f59 k a0 a1 a2 a3 a4 a5 (fun r10241_0 r10241_1 r10241_2 r10241_3 r10241_4 r10241_5 r10241_6 r10241_7 r10241_8 => (f68 k r10241_0 r10241_1 r10241_2 r10241_3 r10241_4 r10241_5 r10241_7 r10241_8 r10241_6 a6 (fun r10243_0 r10243_1 => (bif (!r10243_0) then (K (9 : Int) ([] : List Int)) else (f33_0 k (fun y0_0_0 => (K (0 : Int) y0_0_0)) (r10243_1.length : Int) r10243_1 k (0 : Int) ([] : List Int))))))))))
theorem f33x {R : Type} : ∃ f, f = @f33d R := ⟨_, rfl⟩
noncomputable def f33 {R : Type} := Classical.choose (f33x (R := R))
theorem f33_def {R : Type} : @f33 R = @f33d R := Classical.choose_spec f33x
noncomputable def f70_0b {R : Type} (k : Nat) (rec : Int → Option R) (K : Int → Option R) (x0 : Option R) (v0_0 : List ByteArray) (v0_1 : ByteArray) (v0_2 : Int) (v0_3 : Int) : Option R :=
  (bif decide (v0_3 < v0_2) then (bif (decide ((0 : Int) ≤ v0_3) && decide (v0_3 < (v0_0.length : Int))) then (bif (v0_1.toList == (v0_0.getD (Int.toNat v0_3) (⟨#[]⟩ : ByteArray)).toList) then (K v0_3) else (rec (IntKind.i64.wrap (v0_3 + (1 : Int))))) else none) else x0)
noncomputable def f70_0d {R : Type} (k : Nat) (K : Int → Option R) (x0 : Option R) (v0_0 : List ByteArray) (v0_1 : ByteArray) (v0_2 : Int) : Nat → Int → Option R
  | 0, _ => none
  | m + 1, v0_3 => f70_0b k (f70_0d k K x0 v0_0 v0_1 v0_2 m) K x0 v0_0 v0_1 v0_2 v0_3
theorem f70_0x {R : Type} : ∃ f, f = @f70_0d R := ⟨_, rfl⟩
noncomputable def f70_0 {R : Type} := Classical.choose (f70_0x (R := R))
theorem f70_0_def {R : Type} : @f70_0 R = @f70_0d R := Classical.choose_spec f70_0x
noncomputable def f70d {R : Type} (k : Nat) (a0 : List ByteArray) (a1 : ByteArray) (K : Int → Option R) : Option R := match k with
  | 0 => none
  | k + 1 => (f70_0 k K (K (-1 : Int)) a0 a1 (a0.length : Int) k (0 : Int))
theorem f70x {R : Type} : ∃ f, f = @f70d R := ⟨_, rfl⟩
noncomputable def f70 {R : Type} := Classical.choose (f70x (R := R))
theorem f70_def {R : Type} : @f70 R = @f70d R := Classical.choose_spec f70x
noncomputable def f34d {R : Type} (k : Nat) (a0 : List ByteArray) (a1 : ByteArray) (K : Bool → Option R) : Option R := match k with
  | 0 => none
  | k + 1 => (f70 k a0 a1 (fun r4098_0 => (K (decide (r4098_0 ≥ (0 : Int))))))
theorem f34x {R : Type} : ∃ f, f = @f34d R := ⟨_, rfl⟩
noncomputable def f34 {R : Type} := Classical.choose (f34x (R := R))
theorem f34_def {R : Type} : @f34 R = @f34d R := Classical.choose_spec f34x
noncomputable def f95d {R : Type} (k : Nat) (a0 : ByteArray) (K : Bool → Option R) : Option R := match k with
  | 0 => none
  | k + 1 => (K (!(a0.toList == a0.toList)))
theorem f95x {R : Type} : ∃ f, f = @f95d R := ⟨_, rfl⟩
noncomputable def f95 {R : Type} := Classical.choose (f95x (R := R))
theorem f95_def {R : Type} : @f95 R = @f95d R := Classical.choose_spec f95x
noncomputable def f71d {R : Type} (k : Nat) (a0 : ByteArray) (a1 : ByteArray) (K : Bool → Option R) : Option R := match k with
  | 0 => none
  | k + 1 => (f95 k a0 (fun r4097_0 => (bif (r4097_0 == true) then (f95 k a1 (fun r4100_0 => (bif ((!r4100_0) == false) then (K (Op.bytesLess a0.toList a1.toList)) else (K true)))) else (K (Op.bytesLess a0.toList a1.toList)))))
theorem f71x {R : Type} : ∃ f, f = @f71d R := ⟨_, rfl⟩
noncomputable def f71 {R : Type} := Classical.choose (f71x (R := R))
theorem f71_def {R : Type} : @f71 R = @f71d R := Classical.choose_spec f71x
noncomputable def f35_0b {R : Type} (k : Nat) (rec : Int → Option R) (K : Bool → Option R) (x0 : Option R) (v0_0 : List ByteArray) (v0_1 : Int) : Option R :=
  (bif decide (v0_1 > (0 : Int)) then (bif (decide ((0 : Int) ≤ v0_1) && decide (v0_1 < (v0_0.length : Int))) then (bif (decide ((0 : Int) ≤ IntKind.i64.wrap (v0_1 - (1 : Int))) && decide (IntKind.i64.wrap (v0_1 - (1 : Int)) < (v0_0.length : Int))) then (f71 k (v0_0.getD (Int.toNat v0_1) (⟨#[]⟩ : ByteArray)) (v0_0.getD (Int.toNat (IntKind.i64.wrap (v0_1 - (1 : Int)))) (⟨#[]⟩ : ByteArray)) (fun r10249_0 => (bif r10249_0 then (K false) else (rec (IntKind.i64.wrap (v0_1 - (1 : Int))))))) else none) else none) else x0)
noncomputable def f35_0d {R : Type} (k : Nat) (K : Bool → Option R) (x0 : Option R) (v0_0 : List ByteArray) : Nat → Int → Option R
  | 0, _ => none
  | m + 1, v0_1 => f35_0b k (f35_0d k K x0 v0_0 m) K x0 v0_0 v0_1
theorem f35_0x {R : Type} : ∃ f, f = @f35_0d R := ⟨_, rfl⟩
noncomputable def f35_0 {R : Type} := Classical.choose (f35_0x (R := R))
theorem f35_0_def {R : Type} : @f35_0 R = @f35_0d R := Classical.choose_spec f35_0x
noncomputable def f35d {R : Type} (k : Nat) (a0 : List ByteArray) (K : Bool → Option R) : Option R := match k with
  | 0 => none
  | k + 1 => (f35_0 k K (K true) a0 k (IntKind.i64.wrap ((a0.length : Int) - (1 : Int))))
theorem f35x {R : Type} : ∃ f, f = @f35d R := ⟨_, rfl⟩
noncomputable def f35 {R : Type} := Classical.choose (f35x (R := R))
theorem f35_def {R : Type} : @f35 R = @f35d R := Classical.choose_spec f35x
noncomputable def f8_0b {R : Type} (k : Nat) (rec : Int → Option R) (x0 : Bool → Option R) (v0_0 : ByteArray) (v0_1 : Bool) (v0_3 : Int) (v0_4 : Int) (v0_5 : Int) (v0_6 : List Int) (v0_7 : List Int) (v0_8 : List Int) (v0_9 : List ByteArray) (v0_10 : List (Int × (Int × (Bool × (Bool × Unit))))) (v0_2 : Int) : Option R :=
  (bif decide (v0_2 < (v0_10.length : Int)) then (bif (decide ((0 : Int) ≤ v0_2) && decide (v0_2 < (v0_10.length : Int))) then (bif (((v0_10.getD (Int.toNat v0_2) ((0 : Int), ((0 : Int), (false, (false, ()))))).2).2).1 then (bif (decide ((0 : Int) ≤ v0_2) && decide (v0_2 < (v0_10.length : Int))) then (x0 (!((((v0_10.getD (Int.toNat v0_2) ((0 : Int), ((0 : Int), (false, (false, ()))))).2).2).2).1)) else none) else (rec (IntKind.i64.wrap (v0_2 + (1 : Int))))) else none) else (x0 v0_1))
noncomputable def f8_0d {R : Type} (k : Nat) (x0 : Bool → Option R) (v0_0 : ByteArray) (v0_1 : Bool) (v0_3 : Int) (v0_4 : Int) (v0_5 : Int) (v0_6 : List Int) (v0_7 : List Int) (v0_8 : List Int) (v0_9 : List ByteArray) (v0_10 : List (Int × (Int × (Bool × (Bool × Unit))))) : Nat → Int → Option R
  | 0, _ => none
  | m + 1, v0_2 => f8_0b k (f8_0d k x0 v0_0 v0_1 v0_3 v0_4 v0_5 v0_6 v0_7 v0_8 v0_9 v0_10 m) x0 v0_0 v0_1 v0_3 v0_4 v0_5 v0_6 v0_7 v0_8 v0_9 v0_10 v0_2
theorem f8_0x {R : Type} : ∃ f, f = @f8_0d R := ⟨_, rfl⟩
noncomputable def f8_0 {R : Type} := Classical.choose (f8_0x (R := R))
theorem f8_0_def {R : Type} : @f8_0 R = @f8_0d R := Classical.choose_spec f8_0x
noncomputable def f8d {R : Type} (k : Nat) (a0 : Int) (a1 : Int) (a2 : Int) (a3 : List Int) (a4 : List Int) (a5 : List Int) (a6 : ByteArray) (K : Bool → Option R) : Option R := match k with
  | 0 => none
  | k + 1 => (f31 k a0 a1 a2 a3 a4 a5 (fun r4097_0 r4097_1 => (f32 k a0 a1 a2 a3 a4 a5 a6 (fun r6146_0 r6146_1 => (bif ((r4097_0 != (0 : Int)) == false) then (bif (r6146_0 != (0 : Int)) then (bif ((r4097_0 == (0 : Int)) == false) then (bif (((r4097_1.length : Int) == (0 : Int)) == true) then (f13 k (fun r10248_0 => (K r10248_0))) else (K false)) else (f13 k (fun r10248_0 => (K r10248_0)))) else (f8_0 k (fun y0_0_1 => (f33 k a0 a1 a2 a3 a4 a5 a6 (fun r24578_0 r24578_1 => (f34 k r4097_1 a6 (fun r26626_0 => (bif ((r26626_0 == y0_0_1) == true) then (bif (((r24578_0 == (0 : Int)) == y0_0_1) == true) then (f35 k r4097_1 (fun r26637_0 => (bif (r26637_0 == true) then (f13 k (fun r26640_0 => (K r26640_0))) else (K false)))) else (K false)) else (K false))))))) a6 false a0 a1 a2 a3 a4 a5 r4097_1 r6146_1 k (0 : Int))) else (bif ((r4097_0 == (0 : Int)) == false) then (bif (((r4097_1.length : Int) == (0 : Int)) == true) then (f13 k (fun r10248_0 => (K r10248_0))) else (K false)) else (f13 k (fun r10248_0 => (K r10248_0)))))))))
theorem f8x {R : Type} : ∃ f, f = @f8d R := ⟨_, rfl⟩
noncomputable def f8 {R : Type} := Classical.choose (f8x (R := R))
theorem f8_def {R : Type} : @f8 R = @f8d R := Classical.choose_spec f8x
end Go.Proofs.Ytecnlienmpdlaaa.PM
