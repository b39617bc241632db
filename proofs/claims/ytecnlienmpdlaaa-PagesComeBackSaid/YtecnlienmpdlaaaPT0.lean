/- Functions of the program in typed form (printed by a program of this work). -/
import Derived.Test.YtecnlienmpdlaaaPmE
set_option linter.unusedVariables false
set_option linter.unusedSimpArgs false
set_option maxRecDepth 100000
namespace Go.Proofs.Ytecnlienmpdlaaa.PM
open Go
noncomputable def f52d {R : Type} (k : Nat) (a0 : Int) (a1 : Int) (a2 : Int) (K : Bool → Option R) : Option R := match k with
  | 0 => none
  | k + 1 => (bif (decide (a1 ≤ a0) == true) then (K (decide (a0 ≤ a2))) else (K false))
theorem f52x {R : Type} : ∃ f, f = @f52d R := ⟨_, rfl⟩
noncomputable def f52 {R : Type} := Classical.choose (f52x (R := R))
theorem f52_def {R : Type} : @f52 R = @f52d R := Classical.choose_spec f52x
noncomputable def f73_0b {R : Type} (k : Nat) (rec : Int → Option R) (K : Bool → Option R) (x0 : Option R) (v0_0 : ByteArray) (v0_1 : Int) (v0_2 : Int) : Option R :=
  (bif decide (v0_2 < v0_1) then (bif (decide ((0 : Int) ≤ v0_2) && decide (v0_2 < (v0_0.size : Int))) then (bif (decide (((bytesOf v0_0).getD (Int.toNat v0_2) 0) < (33 : Int)) == false) then (bif (decide ((0 : Int) ≤ v0_2) && decide (v0_2 < (v0_0.size : Int))) then (bif decide (((bytesOf v0_0).getD (Int.toNat v0_2) 0) > (126 : Int)) then (K false) else (rec (IntKind.i64.wrap (v0_2 + (1 : Int))))) else none) else (K false)) else none) else x0)
noncomputable def f73_0d {R : Type} (k : Nat) (K : Bool → Option R) (x0 : Option R) (v0_0 : ByteArray) (v0_1 : Int) : Nat → Int → Option R
  | 0, _ => none
  | m + 1, v0_2 => f73_0b k (f73_0d k K x0 v0_0 v0_1 m) K x0 v0_0 v0_1 v0_2
theorem f73_0x {R : Type} : ∃ f, f = @f73_0d R := ⟨_, rfl⟩
noncomputable def f73_0 {R : Type} := Classical.choose (f73_0x (R := R))
theorem f73_0_def {R : Type} : @f73_0 R = @f73_0d R := Classical.choose_spec f73_0x
noncomputable def f73d {R : Type} (k : Nat) (a0 : ByteArray) (K : Bool → Option R) : Option R := match k with
  | 0 => none
  | k + 1 => (bif ((a0.toList == (⟨#[]⟩ : ByteArray).toList) == false) then (bif decide ((a0.size : Int) > (40 : Int)) then (K false) else (f73_0 k K (K true) a0 (a0.size : Int) k (0 : Int))) else (K false))
theorem f73x {R : Type} : ∃ f, f = @f73d R := ⟨_, rfl⟩
noncomputable def f73 {R : Type} := Classical.choose (f73x (R := R))
theorem f73_def {R : Type} : @f73 R = @f73d R := Classical.choose_spec f73x
noncomputable def f53d {R : Type} (k : Nat) (a0 : ByteArray) (K : Bool → Option R) : Option R := match k with
  | 0 => none
  | k + 1 => (f73 k a0 (fun r4097_0 => (bif (r4097_0 == true) then (K (decide ((a0.size : Int) ≤ (32 : Int)))) else (K false))))
theorem f53x {R : Type} : ∃ f, f = @f53d R := ⟨_, rfl⟩
noncomputable def f53 {R : Type} := Classical.choose (f53x (R := R))
theorem f53_def {R : Type} : @f53 R = @f53d R := Classical.choose_spec f53x
noncomputable def f85d {R : Type} (k : Nat) (a0 : Int) (a1 : Int) (K : Int → Int → Option R) : Option R := match k with
  | 0 => none
  | k + 1 => (K (IntKind.u64.wrap ((IntKind.u64.wrap ((IntKind.u64.wrap ((Int.fdiv a0 (2 ^ 32)) * (Int.fdiv a1 (2 ^ 32)))) + (Int.fdiv (IntKind.u64.wrap ((IntKind.u64.wrap ((Int.fdiv a0 (2 ^ 32)) * (bits .and .u64 a1 (4294967295 : Int)))) + (Int.fdiv (IntKind.u64.wrap ((bits .and .u64 a0 (4294967295 : Int)) * (bits .and .u64 a1 (4294967295 : Int)))) (2 ^ 32)))) (2 ^ 32)))) + (Int.fdiv (IntKind.u64.wrap ((bits .and .u64 (IntKind.u64.wrap ((IntKind.u64.wrap ((Int.fdiv a0 (2 ^ 32)) * (bits .and .u64 a1 (4294967295 : Int)))) + (Int.fdiv (IntKind.u64.wrap ((bits .and .u64 a0 (4294967295 : Int)) * (bits .and .u64 a1 (4294967295 : Int)))) (2 ^ 32)))) (4294967295 : Int)) + (IntKind.u64.wrap ((bits .and .u64 a0 (4294967295 : Int)) * (Int.fdiv a1 (2 ^ 32)))))) (2 ^ 32)))) (IntKind.u64.wrap (a0 * a1)))
theorem f85x {R : Type} : ∃ f, f = @f85d R := ⟨_, rfl⟩
noncomputable def f85 {R : Type} := Classical.choose (f85x (R := R))
theorem f85_def {R : Type} : @f85 R = @f85d R := Classical.choose_spec f85x
noncomputable def f62d {R : Type} (k : Nat) (a0 : Int) (a1 : Int) (K : Int → Int → Option R) : Option R := match k with
  | 0 => none
  | k + 1 => (f85 k a0 a1 (fun r8194_0 r8194_1 => (K r8194_0 r8194_1)))
theorem f62x {R : Type} : ∃ f, f = @f62d R := ⟨_, rfl⟩
noncomputable def f62 {R : Type} := Classical.choose (f62x (R := R))
theorem f62_def {R : Type} : @f62 R = @f62d R := Classical.choose_spec f62x
noncomputable def f47_1000002d {R : Type} (k : Nat) (xN : Option R) (v2_0 : List Int) (v2_1 : Int) (v2_2 : Bool) : Option R :=
  (bif v2_2 then none else xN)
theorem f47_1000002x {R : Type} : ∃ f, f = @f47_1000002d R := ⟨_, rfl⟩
noncomputable def f47_1000002 {R : Type} := Classical.choose (f47_1000002x (R := R))
theorem f47_1000002_def {R : Type} : @f47_1000002 R = @f47_1000002d R := Classical.choose_spec f47_1000002x
noncomputable def f47_1000005d {R : Type} (k : Nat) (xN : Option R) (v5_0 : List Int) (v5_1 : Int) (v5_2 : Bool) : Option R :=
  (bif v5_2 then none else xN)
theorem f47_1000005x {R : Type} : ∃ f, f = @f47_1000005d R := ⟨_, rfl⟩
noncomputable def f47_1000005 {R : Type} := Classical.choose (f47_1000005x (R := R))
theorem f47_1000005_def {R : Type} : @f47_1000005 R = @f47_1000005d R := Classical.choose_spec f47_1000005x
noncomputable def f47_0b {R : Type} (k : Nat) (rec : Int → List Int → Option R) (x0 : List Int → Option R) (v0_0 : Int) (v0_1 : List Int) : Option R :=
  (bif decide (v0_0 < (v0_1.length : Int)) then (bif (decide ((0 : Int) ≤ v0_0) && decide (v0_0 ≤ (v0_1.length : Int))) then (bif (decide ((0 : Int) ≤ v0_0) && decide (v0_0 ≤ (v0_1.length : Int))) then (rec (IntKind.i64.wrap (v0_0 + (((min ((v0_1.drop 0).take (Int.toNat v0_0)).length (v0_1.length - (Int.toNat v0_0))) : Nat) : Int))) (splice v0_1 (Int.toNat v0_0) (((v0_1.drop 0).take (Int.toNat v0_0)).take (min ((v0_1.drop 0).take (Int.toNat v0_0)).length (v0_1.length - (Int.toNat v0_0)))))) else none) else none) else (x0 v0_1))
noncomputable def f47_0d {R : Type} (k : Nat) (x0 : List Int → Option R) : Nat → Int → List Int → Option R
  | 0, _, _ => none
  | m + 1, v0_0, v0_1 => f47_0b k (f47_0d k x0 m) x0 v0_0 v0_1
theorem f47_0x {R : Type} : ∃ f, f = @f47_0d R := ⟨_, rfl⟩
noncomputable def f47_0 {R : Type} := Classical.choose (f47_0x (R := R))
theorem f47_0_def {R : Type} : @f47_0 R = @f47_0d R := Classical.choose_spec f47_0x
noncomputable def f47d {R : Type} (k : Nat) (a0 : List Int) (a1 : Int) (K : List Int → Option R) : Option R := match k with
  | 0 => none
  | k + 1 => (f47_1000002 k (f62 k (IntKind.u64.wrap (a0.length : Int)) (IntKind.u64.wrap a1) (fun r8197_0 r8197_1 => (bif (decide (r8197_0 > (0 : Int)) == false) then (f47_1000005 k (bif (decide ((0 : Int) ≤ IntKind.i64.wrap r8197_1) && (decide (IntKind.i64.wrap r8197_1 ≤ IntKind.i64.wrap r8197_1) && decide (IntKind.i64.wrap r8197_1 ≤ (LIM 1 : Int)))) then (f47_0 k (fun y0_0_0 => (K y0_0_0)) k (((min a0.length ((List.replicate (Int.toNat (IntKind.i64.wrap r8197_1)) (0 : Int)).length)) : Nat) : Int) (splice (List.replicate (Int.toNat (IntKind.i64.wrap r8197_1)) (0 : Int)) 0 (a0.take (min a0.length ((List.replicate (Int.toNat (IntKind.i64.wrap r8197_1)) (0 : Int)).length))))) else none) a0 r8197_1 (decide (r8197_1 > (9223372036854775807 : Int)))) else (f47_1000005 k (bif (decide ((0 : Int) ≤ IntKind.i64.wrap r8197_1) && (decide (IntKind.i64.wrap r8197_1 ≤ IntKind.i64.wrap r8197_1) && decide (IntKind.i64.wrap r8197_1 ≤ (LIM 1 : Int)))) then (f47_0 k (fun y0_0_0 => (K y0_0_0)) k (((min a0.length ((List.replicate (Int.toNat (IntKind.i64.wrap r8197_1)) (0 : Int)).length)) : Nat) : Int) (splice (List.replicate (Int.toNat (IntKind.i64.wrap r8197_1)) (0 : Int)) 0 (a0.take (min a0.length ((List.replicate (Int.toNat (IntKind.i64.wrap r8197_1)) (0 : Int)).length))))) else none) a0 r8197_1 true)))) a0 a1 (decide (a1 < (0 : Int))))
theorem f47x {R : Type} : ∃ f, f = @f47d R := ⟨_, rfl⟩
noncomputable def f47 {R : Type} := Classical.choose (f47x (R := R))
theorem f47_def {R : Type} : @f47 R = @f47d R := Classical.choose_spec f47x
noncomputable def f50_1000011d {R : Type} (k : Nat) (xN : Int → Option R) (v11_0 : Int) (v11_1 : List Int) (v11_2 : Int) (v11_3 : Int) (v11_4 : Int) (v11_5 : Bool) : Option R :=
  (bif v11_5 then (xN (bits .xor .i64 v11_0 (4129 : Int))) else (xN v11_0))
theorem f50_1000011x {R : Type} : ∃ f, f = @f50_1000011d R := ⟨_, rfl⟩
noncomputable def f50_1000011 {R : Type} := Classical.choose (f50_1000011x (R := R))
theorem f50_1000011_def {R : Type} : @f50_1000011 R = @f50_1000011d R := Classical.choose_spec f50_1000011x
noncomputable def f50_2b {R : Type} (k : Nat) (rec : Int → Int → Option R) (x2 : Int → Option R) (v2_1 : List Int) (v2_2 : Int) (v2_3 : Int) (v2_0 : Int) (v2_4 : Int) : Option R :=
  (bif decide (v2_4 < (8 : Int)) then (f50_1000011 k (fun y11_N_0 => (rec y11_N_0 (IntKind.i64.wrap (v2_4 + (1 : Int))))) (Int.tmod (IntKind.i64.wrap (v2_0 * (2 : Int))) (65536 : Int)) v2_1 v2_2 v2_3 v2_4 (decide (v2_0 ≥ (32768 : Int)))) else (x2 v2_0))
noncomputable def f50_2d {R : Type} (k : Nat) (x2 : Int → Option R) (v2_1 : List Int) (v2_2 : Int) (v2_3 : Int) : Nat → Int → Int → Option R
  | 0, _, _ => none
  | m + 1, v2_0, v2_4 => f50_2b k (f50_2d k x2 v2_1 v2_2 v2_3 m) x2 v2_1 v2_2 v2_3 v2_0 v2_4
theorem f50_2x {R : Type} : ∃ f, f = @f50_2d R := ⟨_, rfl⟩
noncomputable def f50_2 {R : Type} := Classical.choose (f50_2x (R := R))
theorem f50_2_def {R : Type} : @f50_2 R = @f50_2d R := Classical.choose_spec f50_2x
noncomputable def f50_0b {R : Type} (k : Nat) (rec : Int → Int → Option R) (x0 : Int → Option R) (v0_1 : List Int) (v0_2 : Int) (v0_0 : Int) (v0_3 : Int) : Option R :=
  (bif decide (v0_3 < v0_2) then (bif (decide ((0 : Int) ≤ v0_3) && decide (v0_3 < (v0_1.length : Int))) then (f50_2 k (fun y2_2_0 => (rec y2_2_0 (IntKind.i64.wrap (v0_3 + (1 : Int))))) v0_1 v0_2 v0_3 k (bits .xor .i64 v0_0 (IntKind.i64.wrap ((IntKind.i64.wrap (v0_1.getD (Int.toNat v0_3) (0 : Int))) * (256 : Int)))) (0 : Int)) else none) else (x0 v0_0))
noncomputable def f50_0d {R : Type} (k : Nat) (x0 : Int → Option R) (v0_1 : List Int) (v0_2 : Int) : Nat → Int → Int → Option R
  | 0, _, _ => none
  | m + 1, v0_0, v0_3 => f50_0b k (f50_0d k x0 v0_1 v0_2 m) x0 v0_1 v0_2 v0_0 v0_3
theorem f50_0x {R : Type} : ∃ f, f = @f50_0d R := ⟨_, rfl⟩
noncomputable def f50_0 {R : Type} := Classical.choose (f50_0x (R := R))
theorem f50_0_def {R : Type} : @f50_0 R = @f50_0d R := Classical.choose_spec f50_0x
noncomputable def f50d {R : Type} (k : Nat) (a0 : List Int) (K : Int → Option R) : Option R := match k with
  | 0 => none
  | k + 1 => (f50_0 k (fun y0_0_0 => (K y0_0_0)) a0 (a0.length : Int) k (65535 : Int) (0 : Int))
theorem f50x {R : Type} : ∃ f, f = @f50d R := ⟨_, rfl⟩
noncomputable def f50 {R : Type} := Classical.choose (f50x (R := R))
theorem f50_def {R : Type} : @f50 R = @f50d R := Classical.choose_spec f50x
noncomputable def f18_1000013d {R : Type} (k : Nat) (xN : Int → Option R) (v13_0 : Int) (v13_1 : Int) (v13_2 : Int) (v13_3 : Bool) (v13_4 : Int) (v13_5 : Bool) (v13_6 : ByteArray) (v13_7 : Int) (v13_8 : Bool) (v13_9 : List Int) : Option R :=
  (bif v13_3 then (xN (2 : Int)) else (xN v13_1))
theorem f18_1000013x {R : Type} : ∃ f, f = @f18_1000013d R := ⟨_, rfl⟩
noncomputable def f18_1000013 {R : Type} := Classical.choose (f18_1000013x (R := R))
theorem f18_1000013_def {R : Type} : @f18_1000013 R = @f18_1000013d R := Classical.choose_spec f18_1000013x
noncomputable def f18_1000015d {R : Type} (k : Nat) (xN : Int → Option R) (v15_0 : Int) (v15_1 : Int) (v15_2 : Int) (v15_3 : Bool) (v15_4 : Int) (v15_5 : Bool) (v15_6 : ByteArray) (v15_7 : Int) (v15_8 : Bool) (v15_9 : List Int) : Option R :=
  (bif v15_3 then (xN (1 : Int)) else (xN v15_2))
theorem f18_1000015x {R : Type} : ∃ f, f = @f18_1000015d R := ⟨_, rfl⟩
noncomputable def f18_1000015 {R : Type} := Classical.choose (f18_1000015x (R := R))
theorem f18_1000015_def {R : Type} : @f18_1000015 R = @f18_1000015d R := Classical.choose_spec f18_1000015x
noncomputable def f18d {R : Type} (k : Nat) (a0 : Int) (a1 : Int) (a2 : Bool) (a3 : ByteArray) (a4 : Int) (a5 : Bool) (a6 : List Int) (K : Int → List Int → Option R) : Option R := match k with
  | 0 => none
  | k + 1 => (f52 k a0 (64 : Int) (1024 : Int) (fun r4097_0 => (bif ((!r4097_0) == false) then (f52 k a1 (1 : Int) (4000000000 : Int) (fun r4102_0 => (bif (!r4102_0) then (K (1 : Int) ([] : List Int)) else (f53 k a3 (fun r8194_0 => (bif (!r8194_0) then (K (5 : Int) ([] : List Int)) else (f52 k a4 (0 : Int) (65535 : Int) (fun r12290_0 => (bif (!r12290_0) then (K (1 : Int) ([] : List Int)) else (bif decide ((a6.length : Int) > IntKind.i64.wrap ((IntKind.i64.wrap (a0 - (15 : Int))) - (a3.size : Int))) then (K (2 : Int) ([] : List Int)) else (bif (a2 == true) then (bif (decide ((a6.length : Int) > (0 : Int)) == false) then (bif ((a4 != (0 : Int)) == false) then (bif (!a5) then (K (3 : Int) ([] : List Int)) else (f18_1000013 k (fun y13_N_1 => (f18_1000015 k (fun y15_N_2 => (bif decide (([IntKind.u8.wrap (Int.fdiv a1 (2 ^ 24)), IntKind.u8.wrap (Int.fdiv a1 (2 ^ 16)), IntKind.u8.wrap (Int.fdiv a1 (2 ^ 8)), IntKind.u8.wrap a1, y13_N_1, IntKind.u8.wrap (a3.size : Int), IntKind.u8.wrap (Int.fdiv a4 (2 ^ 8)), IntKind.u8.wrap a4, IntKind.u8.wrap (Int.fdiv (a6.length : Int) (2 ^ 8)), IntKind.u8.wrap (a6.length : Int), y15_N_2, (0 : Int)] : List Int).length + (bytesOf a3).length ≤ LIM 1) then (bif decide ((([IntKind.u8.wrap (Int.fdiv a1 (2 ^ 24)), IntKind.u8.wrap (Int.fdiv a1 (2 ^ 16)), IntKind.u8.wrap (Int.fdiv a1 (2 ^ 8)), IntKind.u8.wrap a1, y13_N_1, IntKind.u8.wrap (a3.size : Int), IntKind.u8.wrap (Int.fdiv a4 (2 ^ 8)), IntKind.u8.wrap a4, IntKind.u8.wrap (Int.fdiv (a6.length : Int) (2 ^ 8)), IntKind.u8.wrap (a6.length : Int), y15_N_2, (0 : Int)] : List Int) ++ (bytesOf a3)).length + a6.length ≤ LIM 1) then (f47 k ([(255 : Int)] : List Int) (IntKind.i64.wrap ((IntKind.i64.wrap (a0 - (3 : Int))) - (((([IntKind.u8.wrap (Int.fdiv a1 (2 ^ 24)), IntKind.u8.wrap (Int.fdiv a1 (2 ^ 16)), IntKind.u8.wrap (Int.fdiv a1 (2 ^ 8)), IntKind.u8.wrap a1, y13_N_1, IntKind.u8.wrap (a3.size : Int), IntKind.u8.wrap (Int.fdiv a4 (2 ^ 8)), IntKind.u8.wrap a4, IntKind.u8.wrap (Int.fdiv (a6.length : Int) (2 ^ 8)), IntKind.u8.wrap (a6.length : Int), y15_N_2, (0 : Int)] : List Int) ++ (bytesOf a3)) ++ a6).length : Int))) (fun r40967_0 => (bif decide (((([IntKind.u8.wrap (Int.fdiv a1 (2 ^ 24)), IntKind.u8.wrap (Int.fdiv a1 (2 ^ 16)), IntKind.u8.wrap (Int.fdiv a1 (2 ^ 8)), IntKind.u8.wrap a1, y13_N_1, IntKind.u8.wrap (a3.size : Int), IntKind.u8.wrap (Int.fdiv a4 (2 ^ 8)), IntKind.u8.wrap a4, IntKind.u8.wrap (Int.fdiv (a6.length : Int) (2 ^ 8)), IntKind.u8.wrap (a6.length : Int), y15_N_2, (0 : Int)] : List Int) ++ (bytesOf a3)) ++ a6).length + r40967_0.length ≤ LIM 1) then (f50 k (((([IntKind.u8.wrap (Int.fdiv a1 (2 ^ 24)), IntKind.u8.wrap (Int.fdiv a1 (2 ^ 16)), IntKind.u8.wrap (Int.fdiv a1 (2 ^ 8)), IntKind.u8.wrap a1, y13_N_1, IntKind.u8.wrap (a3.size : Int), IntKind.u8.wrap (Int.fdiv a4 (2 ^ 8)), IntKind.u8.wrap a4, IntKind.u8.wrap (Int.fdiv (a6.length : Int) (2 ^ 8)), IntKind.u8.wrap (a6.length : Int), y15_N_2, (0 : Int)] : List Int) ++ (bytesOf a3)) ++ a6) ++ r40967_0) (fun r43009_0 => (bif decide ((((([IntKind.u8.wrap (Int.fdiv a1 (2 ^ 24)), IntKind.u8.wrap (Int.fdiv a1 (2 ^ 16)), IntKind.u8.wrap (Int.fdiv a1 (2 ^ 8)), IntKind.u8.wrap a1, y13_N_1, IntKind.u8.wrap (a3.size : Int), IntKind.u8.wrap (Int.fdiv a4 (2 ^ 8)), IntKind.u8.wrap a4, IntKind.u8.wrap (Int.fdiv (a6.length : Int) (2 ^ 8)), IntKind.u8.wrap (a6.length : Int), y15_N_2, (0 : Int)] : List Int) ++ (bytesOf a3)) ++ a6) ++ r40967_0).length + ([IntKind.u8.wrap (Int.fdiv r43009_0 (2 ^ 8)), IntKind.u8.wrap r43009_0, (165 : Int)] : List Int).length ≤ LIM 1) then (K (0 : Int) ((((([IntKind.u8.wrap (Int.fdiv a1 (2 ^ 24)), IntKind.u8.wrap (Int.fdiv a1 (2 ^ 16)), IntKind.u8.wrap (Int.fdiv a1 (2 ^ 8)), IntKind.u8.wrap a1, y13_N_1, IntKind.u8.wrap (a3.size : Int), IntKind.u8.wrap (Int.fdiv a4 (2 ^ 8)), IntKind.u8.wrap a4, IntKind.u8.wrap (Int.fdiv (a6.length : Int) (2 ^ 8)), IntKind.u8.wrap (a6.length : Int), y15_N_2, (0 : Int)] : List Int) ++ (bytesOf a3)) ++ a6) ++ r40967_0) ++ ([IntKind.u8.wrap (Int.fdiv r43009_0 (2 ^ 8)), IntKind.u8.wrap r43009_0, (165 : Int)] : List Int))) else none))) else none))) else none) else none)) a0 y13_N_1 (0 : Int) a5 a1 a2 a3 a4 a5 a6)) a0 (1 : Int) (0 : Int) a2 a1 a2 a3 a4 a5 a6)) else (K (3 : Int) ([] : List Int))) else (K (3 : Int) ([] : List Int))) else (f18_1000013 k (fun y13_N_1 => (f18_1000015 k (fun y15_N_2 => (bif decide (([IntKind.u8.wrap (Int.fdiv a1 (2 ^ 24)), IntKind.u8.wrap (Int.fdiv a1 (2 ^ 16)), IntKind.u8.wrap (Int.fdiv a1 (2 ^ 8)), IntKind.u8.wrap a1, y13_N_1, IntKind.u8.wrap (a3.size : Int), IntKind.u8.wrap (Int.fdiv a4 (2 ^ 8)), IntKind.u8.wrap a4, IntKind.u8.wrap (Int.fdiv (a6.length : Int) (2 ^ 8)), IntKind.u8.wrap (a6.length : Int), y15_N_2, (0 : Int)] : List Int).length + (bytesOf a3).length ≤ LIM 1) then (bif decide ((([IntKind.u8.wrap (Int.fdiv a1 (2 ^ 24)), IntKind.u8.wrap (Int.fdiv a1 (2 ^ 16)), IntKind.u8.wrap (Int.fdiv a1 (2 ^ 8)), IntKind.u8.wrap a1, y13_N_1, IntKind.u8.wrap (a3.size : Int), IntKind.u8.wrap (Int.fdiv a4 (2 ^ 8)), IntKind.u8.wrap a4, IntKind.u8.wrap (Int.fdiv (a6.length : Int) (2 ^ 8)), IntKind.u8.wrap (a6.length : Int), y15_N_2, (0 : Int)] : List Int) ++ (bytesOf a3)).length + a6.length ≤ LIM 1) then (f47 k ([(255 : Int)] : List Int) (IntKind.i64.wrap ((IntKind.i64.wrap (a0 - (3 : Int))) - (((([IntKind.u8.wrap (Int.fdiv a1 (2 ^ 24)), IntKind.u8.wrap (Int.fdiv a1 (2 ^ 16)), IntKind.u8.wrap (Int.fdiv a1 (2 ^ 8)), IntKind.u8.wrap a1, y13_N_1, IntKind.u8.wrap (a3.size : Int), IntKind.u8.wrap (Int.fdiv a4 (2 ^ 8)), IntKind.u8.wrap a4, IntKind.u8.wrap (Int.fdiv (a6.length : Int) (2 ^ 8)), IntKind.u8.wrap (a6.length : Int), y15_N_2, (0 : Int)] : List Int) ++ (bytesOf a3)) ++ a6).length : Int))) (fun r40967_0 => (bif decide (((([IntKind.u8.wrap (Int.fdiv a1 (2 ^ 24)), IntKind.u8.wrap (Int.fdiv a1 (2 ^ 16)), IntKind.u8.wrap (Int.fdiv a1 (2 ^ 8)), IntKind.u8.wrap a1, y13_N_1, IntKind.u8.wrap (a3.size : Int), IntKind.u8.wrap (Int.fdiv a4 (2 ^ 8)), IntKind.u8.wrap a4, IntKind.u8.wrap (Int.fdiv (a6.length : Int) (2 ^ 8)), IntKind.u8.wrap (a6.length : Int), y15_N_2, (0 : Int)] : List Int) ++ (bytesOf a3)) ++ a6).length + r40967_0.length ≤ LIM 1) then (f50 k (((([IntKind.u8.wrap (Int.fdiv a1 (2 ^ 24)), IntKind.u8.wrap (Int.fdiv a1 (2 ^ 16)), IntKind.u8.wrap (Int.fdiv a1 (2 ^ 8)), IntKind.u8.wrap a1, y13_N_1, IntKind.u8.wrap (a3.size : Int), IntKind.u8.wrap (Int.fdiv a4 (2 ^ 8)), IntKind.u8.wrap a4, IntKind.u8.wrap (Int.fdiv (a6.length : Int) (2 ^ 8)), IntKind.u8.wrap (a6.length : Int), y15_N_2, (0 : Int)] : List Int) ++ (bytesOf a3)) ++ a6) ++ r40967_0) (fun r43009_0 => (bif decide ((((([IntKind.u8.wrap (Int.fdiv a1 (2 ^ 24)), IntKind.u8.wrap (Int.fdiv a1 (2 ^ 16)), IntKind.u8.wrap (Int.fdiv a1 (2 ^ 8)), IntKind.u8.wrap a1, y13_N_1, IntKind.u8.wrap (a3.size : Int), IntKind.u8.wrap (Int.fdiv a4 (2 ^ 8)), IntKind.u8.wrap a4, IntKind.u8.wrap (Int.fdiv (a6.length : Int) (2 ^ 8)), IntKind.u8.wrap (a6.length : Int), y15_N_2, (0 : Int)] : List Int) ++ (bytesOf a3)) ++ a6) ++ r40967_0).length + ([IntKind.u8.wrap (Int.fdiv r43009_0 (2 ^ 8)), IntKind.u8.wrap r43009_0, (165 : Int)] : List Int).length ≤ LIM 1) then (K (0 : Int) ((((([IntKind.u8.wrap (Int.fdiv a1 (2 ^ 24)), IntKind.u8.wrap (Int.fdiv a1 (2 ^ 16)), IntKind.u8.wrap (Int.fdiv a1 (2 ^ 8)), IntKind.u8.wrap a1, y13_N_1, IntKind.u8.wrap (a3.size : Int), IntKind.u8.wrap (Int.fdiv a4 (2 ^ 8)), IntKind.u8.wrap a4, IntKind.u8.wrap (Int.fdiv (a6.length : Int) (2 ^ 8)), IntKind.u8.wrap (a6.length : Int), y15_N_2, (0 : Int)] : List Int) ++ (bytesOf a3)) ++ a6) ++ r40967_0) ++ ([IntKind.u8.wrap (Int.fdiv r43009_0 (2 ^ 8)), IntKind.u8.wrap r43009_0, (165 : Int)] : List Int))) else none))) else none))) else none) else none)) a0 y13_N_1 (0 : Int) a5 a1 a2 a3 a4 a5 a6)) a0 (1 : Int) (0 : Int) a2 a1 a2 a3 a4 a5 a6)))))))))))) else (K (1 : Int) ([] : List Int)))))
theorem f18x {R : Type} : ∃ f, f = @f18d R := ⟨_, rfl⟩
noncomputable def f18 {R : Type} := Classical.choose (f18x (R := R))
theorem f18_def {R : Type} : @f18 R = @f18d R := Classical.choose_spec f18x
noncomputable def f41d {R : Type} (k : Nat) (a0 : Int) (a1 : Int) (a2 : Int) (K : Bool → Option R) : Option R := match k with
  | 0 => none
  | k + 1 => (bif (decide (a0 ≥ a1) == true) then (K (decide (a0 ≤ a2))) else (K false))
theorem f41x {R : Type} : ∃ f, f = @f41d R := ⟨_, rfl⟩
noncomputable def f41 {R : Type} := Classical.choose (f41x (R := R))
theorem f41_def {R : Type} : @f41 R = @f41d R := Classical.choose_spec f41x
noncomputable def f54_0b {R : Type} (k : Nat) (rec : Int → Option R) (K : Bool → Option R) (x0 : Option R) (v0_0 : ByteArray) (v0_1 : Int) : Option R :=
  (bif decide (v0_1 < (v0_0.size : Int)) then (bif (decide ((0 : Int) ≤ v0_1) && decide (v0_1 < (v0_0.size : Int))) then (bif (decide (((bytesOf v0_0).getD (Int.toNat v0_1) 0) < (33 : Int)) == false) then (bif (decide ((0 : Int) ≤ v0_1) && decide (v0_1 < (v0_0.size : Int))) then (bif decide (((bytesOf v0_0).getD (Int.toNat v0_1) 0) > (126 : Int)) then (K false) else (rec (IntKind.i64.wrap (v0_1 + (1 : Int))))) else none) else (K false)) else none) else x0)
noncomputable def f54_0d {R : Type} (k : Nat) (K : Bool → Option R) (x0 : Option R) (v0_0 : ByteArray) : Nat → Int → Option R
  | 0, _ => none
  | m + 1, v0_1 => f54_0b k (f54_0d k K x0 v0_0 m) K x0 v0_0 v0_1
theorem f54_0x {R : Type} : ∃ f, f = @f54_0d R := ⟨_, rfl⟩
noncomputable def f54_0 {R : Type} := Classical.choose (f54_0x (R := R))
theorem f54_0_def {R : Type} : @f54_0 R = @f54_0d R := Classical.choose_spec f54_0x
noncomputable def f54d {R : Type} (k : Nat) (a0 : ByteArray) (K : Bool → Option R) : Option R := match k with
  | 0 => none
  | k + 1 => (f54_0 k K (f41 k (a0.size : Int) (1 : Int) (32 : Int) (fun r14338_0 => (K r14338_0))) a0 k (0 : Int))
theorem f54x {R : Type} : ∃ f, f = @f54d R := ⟨_, rfl⟩
noncomputable def f54 {R : Type} := Classical.choose (f54x (R := R))
theorem f54_def {R : Type} : @f54 R = @f54d R := Classical.choose_spec f54x
noncomputable def f55d {R : Type} (k : Nat) (a0 : Int) (a1 : ByteArray) (K : Int → Option R) : Option R := match k with
  | 0 => none
  | k + 1 => (K (IntKind.i64.wrap ((IntKind.i64.wrap (a0 - (15 : Int))) - (a1.size : Int))))
theorem f55x {R : Type} : ∃ f, f = @f55d R := ⟨_, rfl⟩
noncomputable def f55 {R : Type} := Classical.choose (f55x (R := R))
theorem f55_def {R : Type} : @f55 R = @f55d R := Classical.choose_spec f55x
noncomputable def f49_0b {R : Type} (k : Nat) (rec : Int → List Int → Option R) (x0 : List Int → Option R) (v0_0 : Int) (v0_1 : Int) (v0_2 : List Int) : Option R :=
  (bif decide (v0_1 < v0_0) then (bif (decide ((0 : Int) ≤ v0_1) && decide (v0_1 < (v0_2.length : Int))) then (rec (IntKind.i64.wrap (v0_1 + (1 : Int))) (v0_2.set (Int.toNat v0_1) (255 : Int))) else none) else (x0 v0_2))
noncomputable def f49_0d {R : Type} (k : Nat) (x0 : List Int → Option R) (v0_0 : Int) : Nat → Int → List Int → Option R
  | 0, _, _ => none
  | m + 1, v0_1, v0_2 => f49_0b k (f49_0d k x0 v0_0 m) x0 v0_0 v0_1 v0_2
theorem f49_0x {R : Type} : ∃ f, f = @f49_0d R := ⟨_, rfl⟩
noncomputable def f49_0 {R : Type} := Classical.choose (f49_0x (R := R))
theorem f49_0_def {R : Type} : @f49_0 R = @f49_0d R := Classical.choose_spec f49_0x
noncomputable def f49d {R : Type} (k : Nat) (a0 : Int) (K : List Int → Option R) : Option R := match k with
  | 0 => none
  | k + 1 => (bif (decide ((0 : Int) ≤ a0) && (decide (a0 ≤ a0) && decide (a0 ≤ (LIM 1 : Int)))) then (f49_0 k (fun y0_0_0 => (K y0_0_0)) a0 k (0 : Int) (List.replicate (Int.toNat a0) (0 : Int))) else none)
theorem f49x {R : Type} : ∃ f, f = @f49d R := ⟨_, rfl⟩
noncomputable def f49 {R : Type} := Classical.choose (f49x (R := R))
theorem f49_def {R : Type} : @f49 R = @f49d R := Classical.choose_spec f49x
noncomputable def f51_1000011d {R : Type} (k : Nat) (xN : Int → Option R) (v11_0 : List Int) (v11_1 : Int) (v11_2 : Int) (v11_3 : Int) (v11_4 : Bool) : Option R :=
  (bif v11_4 then (xN (bits .xor .i64 v11_1 (4129 : Int))) else (xN v11_1))
theorem f51_1000011x {R : Type} : ∃ f, f = @f51_1000011d R := ⟨_, rfl⟩
noncomputable def f51_1000011 {R : Type} := Classical.choose (f51_1000011x (R := R))
theorem f51_1000011_def {R : Type} : @f51_1000011 R = @f51_1000011d R := Classical.choose_spec f51_1000011x
noncomputable def f51_2b {R : Type} (k : Nat) (rec : Int → Int → Option R) (x2 : Int → Option R) (v2_0 : List Int) (v2_2 : Int) (v2_1 : Int) (v2_3 : Int) : Option R :=
  (bif decide (v2_3 < (8 : Int)) then (f51_1000011 k (fun y11_N_1 => (rec y11_N_1 (IntKind.i64.wrap (v2_3 + (1 : Int))))) v2_0 (Int.tmod (IntKind.i64.wrap (v2_1 * (2 : Int))) (65536 : Int)) v2_2 v2_3 (decide (v2_1 ≥ (32768 : Int)))) else (x2 v2_1))
noncomputable def f51_2d {R : Type} (k : Nat) (x2 : Int → Option R) (v2_0 : List Int) (v2_2 : Int) : Nat → Int → Int → Option R
  | 0, _, _ => none
  | m + 1, v2_1, v2_3 => f51_2b k (f51_2d k x2 v2_0 v2_2 m) x2 v2_0 v2_2 v2_1 v2_3
theorem f51_2x {R : Type} : ∃ f, f = @f51_2d R := ⟨_, rfl⟩
noncomputable def f51_2 {R : Type} := Classical.choose (f51_2x (R := R))
theorem f51_2_def {R : Type} : @f51_2 R = @f51_2d R := Classical.choose_spec f51_2x
noncomputable def f51_0b {R : Type} (k : Nat) (rec : Int → Int → Option R) (x0 : Int → Option R) (v0_0 : List Int) (v0_1 : Int) (v0_2 : Int) : Option R :=
  (bif decide (v0_2 < (v0_0.length : Int)) then (bif (decide ((0 : Int) ≤ v0_2) && decide (v0_2 < (v0_0.length : Int))) then (f51_2 k (fun y2_2_1 => (rec y2_2_1 (IntKind.i64.wrap (v0_2 + (1 : Int))))) v0_0 v0_2 k (bits .xor .i64 v0_1 (IntKind.i64.wrap ((IntKind.i64.wrap (v0_0.getD (Int.toNat v0_2) (0 : Int))) * (256 : Int)))) (0 : Int)) else none) else (x0 v0_1))
noncomputable def f51_0d {R : Type} (k : Nat) (x0 : Int → Option R) (v0_0 : List Int) : Nat → Int → Int → Option R
  | 0, _, _ => none
  | m + 1, v0_1, v0_2 => f51_0b k (f51_0d k x0 v0_0 m) x0 v0_0 v0_1 v0_2
theorem f51_0x {R : Type} : ∃ f, f = @f51_0d R := ⟨_, rfl⟩
noncomputable def f51_0 {R : Type} := Classical.choose (f51_0x (R := R))
theorem f51_0_def {R : Type} : @f51_0 R = @f51_0d R := Classical.choose_spec f51_0x
noncomputable def f51d {R : Type} (k : Nat) (a0 : List Int) (K : Int → Option R) : Option R := match k with
  | 0 => none
  | k + 1 => (f51_0 k (fun y0_0_0 => (K y0_0_0)) a0 k (65535 : Int) (0 : Int))
theorem f51x {R : Type} : ∃ f, f = @f51d R := ⟨_, rfl⟩
noncomputable def f51 {R : Type} := Classical.choose (f51x (R := R))
theorem f51_def {R : Type} : @f51 R = @f51d R := Classical.choose_spec f51x
noncomputable def f19_1000013d {R : Type} (k : Nat) (xN : Int → Option R) (v13_0 : Int) (v13_1 : Int) (v13_2 : Int) (v13_3 : Bool) (v13_4 : Int) (v13_5 : Bool) (v13_6 : ByteArray) (v13_7 : Int) (v13_8 : Bool) (v13_9 : List Int) : Option R :=
  (bif v13_3 then (xN (2 : Int)) else (xN v13_1))
theorem f19_1000013x {R : Type} : ∃ f, f = @f19_1000013d R := ⟨_, rfl⟩
noncomputable def f19_1000013 {R : Type} := Classical.choose (f19_1000013x (R := R))
theorem f19_1000013_def {R : Type} : @f19_1000013 R = @f19_1000013d R := Classical.choose_spec f19_1000013x
noncomputable def f19_1000015d {R : Type} (k : Nat) (xN : Int → Option R) (v15_0 : Int) (v15_1 : Int) (v15_2 : Int) (v15_3 : Bool) (v15_4 : Int) (v15_5 : Bool) (v15_6 : ByteArray) (v15_7 : Int) (v15_8 : Bool) (v15_9 : List Int) : Option R :=
  (bif v15_3 then (xN (1 : Int)) else (xN v15_2))
theorem f19_1000015x {R : Type} : ∃ f, f = @f19_1000015d R := ⟨_, rfl⟩
noncomputable def f19_1000015 {R : Type} := Classical.choose (f19_1000015x (R := R))
theorem f19_1000015_def {R : Type} : @f19_1000015 R = @f19_1000015d R := Classical.choose_spec f19_1000015x
noncomputable def f19d {R : Type} (k : Nat) (a0 : Int) (a1 : Int) (a2 : Bool) (a3 : ByteArray) (a4 : Int) (a5 : Bool) (a6 : List Int) (K : Int → List Int → Option R) : Option R := match k with
  | 0 => none
  | k + 1 => (f41 k a0 (64 : Int) (1024 : Int) (fun r4097_0 => (bif ((!r4097_0) == false) then (f41 k a1 (1 : Int) (4000000000 : Int) (fun r4102_0 => (bif (!r4102_0) then (K (1 : Int) ([] : List Int)) else (f54 k a3 (fun r8194_0 => (bif (!r8194_0) then (K (5 : Int) ([] : List Int)) else (f41 k a4 (0 : Int) (65535 : Int) (fun r12290_0 => (bif (!r12290_0) then (K (1 : Int) ([] : List Int)) else (f55 k a0 a3 (fun r16390_0 => (bif decide ((a6.length : Int) > r16390_0) then (K (2 : Int) ([] : List Int)) else (bif (a2 == true) then (bif (decide ((a6.length : Int) > (0 : Int)) == false) then (bif ((a4 != (0 : Int)) == false) then (bif (!a5) then (K (3 : Int) ([] : List Int)) else (f19_1000013 k (fun y13_N_1 => (f19_1000015 k (fun y15_N_2 => (bif decide (([IntKind.u8.wrap (Int.fdiv a1 (2 ^ 24)), IntKind.u8.wrap (Int.fdiv a1 (2 ^ 16)), IntKind.u8.wrap (Int.fdiv a1 (2 ^ 8)), IntKind.u8.wrap a1, y13_N_1, IntKind.u8.wrap (a3.size : Int), IntKind.u8.wrap (Int.fdiv a4 (2 ^ 8)), IntKind.u8.wrap a4, IntKind.u8.wrap (Int.fdiv (a6.length : Int) (2 ^ 8)), IntKind.u8.wrap (a6.length : Int), y15_N_2, (0 : Int)] : List Int).length + (bytesOf a3).length ≤ LIM 1) then (bif decide ((([IntKind.u8.wrap (Int.fdiv a1 (2 ^ 24)), IntKind.u8.wrap (Int.fdiv a1 (2 ^ 16)), IntKind.u8.wrap (Int.fdiv a1 (2 ^ 8)), IntKind.u8.wrap a1, y13_N_1, IntKind.u8.wrap (a3.size : Int), IntKind.u8.wrap (Int.fdiv a4 (2 ^ 8)), IntKind.u8.wrap a4, IntKind.u8.wrap (Int.fdiv (a6.length : Int) (2 ^ 8)), IntKind.u8.wrap (a6.length : Int), y15_N_2, (0 : Int)] : List Int) ++ (bytesOf a3)).length + a6.length ≤ LIM 1) then (f49 k (IntKind.i64.wrap ((IntKind.i64.wrap (a0 - (3 : Int))) - (((([IntKind.u8.wrap (Int.fdiv a1 (2 ^ 24)), IntKind.u8.wrap (Int.fdiv a1 (2 ^ 16)), IntKind.u8.wrap (Int.fdiv a1 (2 ^ 8)), IntKind.u8.wrap a1, y13_N_1, IntKind.u8.wrap (a3.size : Int), IntKind.u8.wrap (Int.fdiv a4 (2 ^ 8)), IntKind.u8.wrap a4, IntKind.u8.wrap (Int.fdiv (a6.length : Int) (2 ^ 8)), IntKind.u8.wrap (a6.length : Int), y15_N_2, (0 : Int)] : List Int) ++ (bytesOf a3)) ++ a6).length : Int))) (fun r43014_0 => (bif decide (((([IntKind.u8.wrap (Int.fdiv a1 (2 ^ 24)), IntKind.u8.wrap (Int.fdiv a1 (2 ^ 16)), IntKind.u8.wrap (Int.fdiv a1 (2 ^ 8)), IntKind.u8.wrap a1, y13_N_1, IntKind.u8.wrap (a3.size : Int), IntKind.u8.wrap (Int.fdiv a4 (2 ^ 8)), IntKind.u8.wrap a4, IntKind.u8.wrap (Int.fdiv (a6.length : Int) (2 ^ 8)), IntKind.u8.wrap (a6.length : Int), y15_N_2, (0 : Int)] : List Int) ++ (bytesOf a3)) ++ a6).length + r43014_0.length ≤ LIM 1) then (f51 k (((([IntKind.u8.wrap (Int.fdiv a1 (2 ^ 24)), IntKind.u8.wrap (Int.fdiv a1 (2 ^ 16)), IntKind.u8.wrap (Int.fdiv a1 (2 ^ 8)), IntKind.u8.wrap a1, y13_N_1, IntKind.u8.wrap (a3.size : Int), IntKind.u8.wrap (Int.fdiv a4 (2 ^ 8)), IntKind.u8.wrap a4, IntKind.u8.wrap (Int.fdiv (a6.length : Int) (2 ^ 8)), IntKind.u8.wrap (a6.length : Int), y15_N_2, (0 : Int)] : List Int) ++ (bytesOf a3)) ++ a6) ++ r43014_0) (fun r45057_0 => (bif decide ((((([IntKind.u8.wrap (Int.fdiv a1 (2 ^ 24)), IntKind.u8.wrap (Int.fdiv a1 (2 ^ 16)), IntKind.u8.wrap (Int.fdiv a1 (2 ^ 8)), IntKind.u8.wrap a1, y13_N_1, IntKind.u8.wrap (a3.size : Int), IntKind.u8.wrap (Int.fdiv a4 (2 ^ 8)), IntKind.u8.wrap a4, IntKind.u8.wrap (Int.fdiv (a6.length : Int) (2 ^ 8)), IntKind.u8.wrap (a6.length : Int), y15_N_2, (0 : Int)] : List Int) ++ (bytesOf a3)) ++ a6) ++ r43014_0).length + ([IntKind.u8.wrap (Int.fdiv r45057_0 (2 ^ 8)), IntKind.u8.wrap r45057_0, (165 : Int)] : List Int).length ≤ LIM 1) then (K (0 : Int) ((((([IntKind.u8.wrap (Int.fdiv a1 (2 ^ 24)), IntKind.u8.wrap (Int.fdiv a1 (2 ^ 16)), IntKind.u8.wrap (Int.fdiv a1 (2 ^ 8)), IntKind.u8.wrap a1, y13_N_1, IntKind.u8.wrap (a3.size : Int), IntKind.u8.wrap (Int.fdiv a4 (2 ^ 8)), IntKind.u8.wrap a4, IntKind.u8.wrap (Int.fdiv (a6.length : Int) (2 ^ 8)), IntKind.u8.wrap (a6.length : Int), y15_N_2, (0 : Int)] : List Int) ++ (bytesOf a3)) ++ a6) ++ r43014_0) ++ ([IntKind.u8.wrap (Int.fdiv r45057_0 (2 ^ 8)), IntKind.u8.wrap r45057_0, (165 : Int)] : List Int))) else none))) else none))) else none) else none)) a0 y13_N_1 (0 : Int) a5 a1 a2 a3 a4 a5 a6)) a0 (1 : Int) (0 : Int) a2 a1 a2 a3 a4 a5 a6)) else (K (3 : Int) ([] : List Int))) else (K (3 : Int) ([] : List Int))) else (f19_1000013 k (fun y13_N_1 => (f19_1000015 k (fun y15_N_2 => (bif decide (([IntKind.u8.wrap (Int.fdiv a1 (2 ^ 24)), IntKind.u8.wrap (Int.fdiv a1 (2 ^ 16)), IntKind.u8.wrap (Int.fdiv a1 (2 ^ 8)), IntKind.u8.wrap a1, y13_N_1, IntKind.u8.wrap (a3.size : Int), IntKind.u8.wrap (Int.fdiv a4 (2 ^ 8)), IntKind.u8.wrap a4, IntKind.u8.wrap (Int.fdiv (a6.length : Int) (2 ^ 8)), IntKind.u8.wrap (a6.length : Int), y15_N_2, (0 : Int)] : List Int).length + (bytesOf a3).length ≤ LIM 1) then (bif decide ((([IntKind.u8.wrap (Int.fdiv a1 (2 ^ 24)), IntKind.u8.wrap (Int.fdiv a1 (2 ^ 16)), IntKind.u8.wrap (Int.fdiv a1 (2 ^ 8)), IntKind.u8.wrap a1, y13_N_1, IntKind.u8.wrap (a3.size : Int), IntKind.u8.wrap (Int.fdiv a4 (2 ^ 8)), IntKind.u8.wrap a4, IntKind.u8.wrap (Int.fdiv (a6.length : Int) (2 ^ 8)), IntKind.u8.wrap (a6.length : Int), y15_N_2, (0 : Int)] : List Int) ++ (bytesOf a3)).length + a6.length ≤ LIM 1) then (f49 k (IntKind.i64.wrap ((IntKind.i64.wrap (a0 - (3 : Int))) - (((([IntKind.u8.wrap (Int.fdiv a1 (2 ^ 24)), IntKind.u8.wrap (Int.fdiv a1 (2 ^ 16)), IntKind.u8.wrap (Int.fdiv a1 (2 ^ 8)), IntKind.u8.wrap a1, y13_N_1, IntKind.u8.wrap (a3.size : Int), IntKind.u8.wrap (Int.fdiv a4 (2 ^ 8)), IntKind.u8.wrap a4, IntKind.u8.wrap (Int.fdiv (a6.length : Int) (2 ^ 8)), IntKind.u8.wrap (a6.length : Int), y15_N_2, (0 : Int)] : List Int) ++ (bytesOf a3)) ++ a6).length : Int))) (fun r43014_0 => (bif decide (((([IntKind.u8.wrap (Int.fdiv a1 (2 ^ 24)), IntKind.u8.wrap (Int.fdiv a1 (2 ^ 16)), IntKind.u8.wrap (Int.fdiv a1 (2 ^ 8)), IntKind.u8.wrap a1, y13_N_1, IntKind.u8.wrap (a3.size : Int), IntKind.u8.wrap (Int.fdiv a4 (2 ^ 8)), IntKind.u8.wrap a4, IntKind.u8.wrap (Int.fdiv (a6.length : Int) (2 ^ 8)), IntKind.u8.wrap (a6.length : Int), y15_N_2, (0 : Int)] : List Int) ++ (bytesOf a3)) ++ a6).length + r43014_0.length ≤ LIM 1) then (f51 k (((([IntKind.u8.wrap (Int.fdiv a1 (2 ^ 24)), IntKind.u8.wrap (Int.fdiv a1 (2 ^ 16)), IntKind.u8.wrap (Int.fdiv a1 (2 ^ 8)), IntKind.u8.wrap a1, y13_N_1, IntKind.u8.wrap (a3.size : Int), IntKind.u8.wrap (Int.fdiv a4 (2 ^ 8)), IntKind.u8.wrap a4, IntKind.u8.wrap (Int.fdiv (a6.length : Int) (2 ^ 8)), IntKind.u8.wrap (a6.length : Int), y15_N_2, (0 : Int)] : List Int) ++ (bytesOf a3)) ++ a6) ++ r43014_0) (fun r45057_0 => (bif decide ((((([IntKind.u8.wrap (Int.fdiv a1 (2 ^ 24)), IntKind.u8.wrap (Int.fdiv a1 (2 ^ 16)), IntKind.u8.wrap (Int.fdiv a1 (2 ^ 8)), IntKind.u8.wrap a1, y13_N_1, IntKind.u8.wrap (a3.size : Int), IntKind.u8.wrap (Int.fdiv a4 (2 ^ 8)), IntKind.u8.wrap a4, IntKind.u8.wrap (Int.fdiv (a6.length : Int) (2 ^ 8)), IntKind.u8.wrap (a6.length : Int), y15_N_2, (0 : Int)] : List Int) ++ (bytesOf a3)) ++ a6) ++ r43014_0).length + ([IntKind.u8.wrap (Int.fdiv r45057_0 (2 ^ 8)), IntKind.u8.wrap r45057_0, (165 : Int)] : List Int).length ≤ LIM 1) then (K (0 : Int) ((((([IntKind.u8.wrap (Int.fdiv a1 (2 ^ 24)), IntKind.u8.wrap (Int.fdiv a1 (2 ^ 16)), IntKind.u8.wrap (Int.fdiv a1 (2 ^ 8)), IntKind.u8.wrap a1, y13_N_1, IntKind.u8.wrap (a3.size : Int), IntKind.u8.wrap (Int.fdiv a4 (2 ^ 8)), IntKind.u8.wrap a4, IntKind.u8.wrap (Int.fdiv (a6.length : Int) (2 ^ 8)), IntKind.u8.wrap (a6.length : Int), y15_N_2, (0 : Int)] : List Int) ++ (bytesOf a3)) ++ a6) ++ r43014_0) ++ ([IntKind.u8.wrap (Int.fdiv r45057_0 (2 ^ 8)), IntKind.u8.wrap r45057_0, (165 : Int)] : List Int))) else none))) else none))) else none) else none)) a0 y13_N_1 (0 : Int) a5 a1 a2 a3 a4 a5 a6)) a0 (1 : Int) (0 : Int) a2 a1 a2 a3 a4 a5 a6)))))))))))))) else (K (1 : Int) ([] : List Int)))))
theorem f19x {R : Type} : ∃ f, f = @f19d R := ⟨_, rfl⟩
noncomputable def f19 {R : Type} := Classical.choose (f19x (R := R))
theorem f19_def {R : Type} : @f19 R = @f19d R := Classical.choose_spec f19x
noncomputable def f97d {R : Type} (k : Nat) (a0 : Int) (K : Bool → Option R) : Option R := match k with
  | 0 => none
  | k + 1 => (K (a0 != (255 : Int)))
theorem f97x {R : Type} : ∃ f, f = @f97d R := ⟨_, rfl⟩
noncomputable def f97 {R : Type} := Classical.choose (f97x (R := R))
theorem f97_def {R : Type} : @f97 R = @f97d R := Classical.choose_spec f97x
noncomputable def f108_0b {R : Type} (k : Nat) (rec : Int → Option R) (K : Int → Option R) (x0 : Option R) (v0_0 : List Int) (v0_1 : Int) (v0_2 : Int) : Option R :=
  (bif decide (v0_2 < v0_1) then (bif (decide ((0 : Int) ≤ v0_2) && decide (v0_2 < (v0_0.length : Int))) then (f97 k (v0_0.getD (Int.toNat v0_2) (0 : Int)) (fun r10245_0 => (bif r10245_0 then (K v0_2) else (rec (IntKind.i64.wrap (v0_2 + (1 : Int))))))) else none) else x0)
noncomputable def f108_0d {R : Type} (k : Nat) (K : Int → Option R) (x0 : Option R) (v0_0 : List Int) (v0_1 : Int) : Nat → Int → Option R
  | 0, _ => none
  | m + 1, v0_2 => f108_0b k (f108_0d k K x0 v0_0 v0_1 m) K x0 v0_0 v0_1 v0_2
theorem f108_0x {R : Type} : ∃ f, f = @f108_0d R := ⟨_, rfl⟩
noncomputable def f108_0 {R : Type} := Classical.choose (f108_0x (R := R))
theorem f108_0_def {R : Type} : @f108_0 R = @f108_0d R := Classical.choose_spec f108_0x
noncomputable def f108d {R : Type} (k : Nat) (a0 : List Int) (K : Int → Option R) : Option R := match k with
  | 0 => none
  | k + 1 => (f108_0 k K (K (-1 : Int)) a0 (a0.length : Int) k (0 : Int))
theorem f108x {R : Type} : ∃ f, f = @f108d R := ⟨_, rfl⟩
noncomputable def f108 {R : Type} := Classical.choose (f108x (R := R))
theorem f108_def {R : Type} : @f108 R = @f108d R := Classical.choose_spec f108x
noncomputable def f96d {R : Type} (k : Nat) (a0 : List Int) (K : Bool → Option R) : Option R := match k with
  | 0 => none
  | k + 1 => (f108 k a0 (fun r4098_0 => (K (decide (r4098_0 ≥ (0 : Int))))))
theorem f96x {R : Type} : ∃ f, f = @f96d R := ⟨_, rfl⟩
noncomputable def f96 {R : Type} := Classical.choose (f96x (R := R))
theorem f96_def {R : Type} : @f96 R = @f96d R := Classical.choose_spec f96x
noncomputable def f74d {R : Type} (k : Nat) (a0 : List Int) (K : Bool → Option R) : Option R := match k with
  | 0 => none
  | k + 1 => (f96 k a0 (fun r4097_0 => (K (!r4097_0))))
theorem f74x {R : Type} : ∃ f, f = @f74d R := ⟨_, rfl⟩
noncomputable def f74 {R : Type} := Classical.choose (f74x (R := R))
theorem f74_def {R : Type} : @f74 R = @f74d R := Classical.choose_spec f74x
noncomputable def f75d {R : Type} (k : Nat) (a0 : List Int) (K : Int → Option R) : Option R := match k with
  | 0 => none
  | k + 1 => (bif decide ((0 : Int) < (a0.length : Int)) then (bif decide ((1 : Int) < (a0.length : Int)) then (bif decide ((2 : Int) < (a0.length : Int)) then (bif decide ((3 : Int) < (a0.length : Int)) then (K (bits .or .i64 (bits .or .i64 (bits .or .i64 (IntKind.i64.wrap ((IntKind.i64.wrap (a0.getD 0 (0 : Int))) * 2 ^ 24)) (IntKind.i64.wrap ((IntKind.i64.wrap (a0.getD 1 (0 : Int))) * 2 ^ 16))) (IntKind.i64.wrap ((IntKind.i64.wrap (a0.getD 2 (0 : Int))) * 2 ^ 8))) (IntKind.i64.wrap (a0.getD 3 (0 : Int))))) else none) else none) else none) else none)
theorem f75x {R : Type} : ∃ f, f = @f75d R := ⟨_, rfl⟩
noncomputable def f75 {R : Type} := Classical.choose (f75x (R := R))
theorem f75_def {R : Type} : @f75 R = @f75d R := Classical.choose_spec f75x
noncomputable def f72d {R : Type} (k : Nat) (a0 : List Int) (K : List Int → Option R) : Option R := match k with
  | 0 => none
  | _ + 1 => bif decide (a0.length ≤ LIM 1) then K a0 else none
theorem f72x {R : Type} : ∃ f, f = @f72d R := ⟨_, rfl⟩
noncomputable def f72 {R : Type} := Classical.choose (f72x (R := R))
theorem f72_def {R : Type} : @f72 R = @f72d R := Classical.choose_spec f72x
noncomputable def f76_0b {R : Type} (k : Nat) (rec : Int → Option R) (K : Bool → Option R) (x0 : Option R) (v0_0 : List Int) (v0_1 : List Int) (v0_2 : Int) (v0_3 : Int) : Option R :=
  (bif decide (v0_3 < v0_2) then (bif (decide ((0 : Int) ≤ v0_3) && decide (v0_3 < (v0_0.length : Int))) then (bif (decide ((0 : Int) ≤ v0_3) && decide (v0_3 < (v0_1.length : Int))) then (bif ((v0_0.getD (Int.toNat v0_3) (0 : Int)) != (v0_1.getD (Int.toNat v0_3) (0 : Int))) then (K false) else (rec (IntKind.i64.wrap (v0_3 + (1 : Int))))) else none) else none) else x0)
noncomputable def f76_0d {R : Type} (k : Nat) (K : Bool → Option R) (x0 : Option R) (v0_0 : List Int) (v0_1 : List Int) (v0_2 : Int) : Nat → Int → Option R
  | 0, _ => none
  | m + 1, v0_3 => f76_0b k (f76_0d k K x0 v0_0 v0_1 v0_2 m) K x0 v0_0 v0_1 v0_2 v0_3
theorem f76_0x {R : Type} : ∃ f, f = @f76_0d R := ⟨_, rfl⟩
noncomputable def f76_0 {R : Type} := Classical.choose (f76_0x (R := R))
theorem f76_0_def {R : Type} : @f76_0 R = @f76_0d R := Classical.choose_spec f76_0x
noncomputable def f76d {R : Type} (k : Nat) (a0 : List Int) (a1 : List Int) (K : Bool → Option R) : Option R := match k with
  | 0 => none
  | k + 1 => (bif ((a0.length : Int) != (a1.length : Int)) then (K false) else (f76_0 k K (K true) a0 a1 (a0.length : Int) k (0 : Int)))
theorem f76x {R : Type} : ∃ f, f = @f76d R := ⟨_, rfl⟩
noncomputable def f76 {R : Type} := Classical.choose (f76x (R := R))
theorem f76_def {R : Type} : @f76 R = @f76d R := Classical.choose_spec f76x
noncomputable def f56d {R : Type} (k : Nat) (a0 : List Int) (K : Int → Int → Bool → ByteArray → Int → Bool → List Int → Option R) : Option R := match k with
  | 0 => none
  | k + 1 => (f74 k a0 (fun r6145_0 => (bif r6145_0 then (K (1 : Int) (0 : Int) false (⟨#[]⟩ : ByteArray) (0 : Int) false ([] : List Int)) else (bif (decide ((0 : Int) ≤ IntKind.i64.wrap ((a0.length : Int) - (1 : Int))) && decide (IntKind.i64.wrap ((a0.length : Int) - (1 : Int)) < (a0.length : Int))) then (bif ((a0.getD (Int.toNat (IntKind.i64.wrap ((a0.length : Int) - (1 : Int)))) (0 : Int)) != (165 : Int)) then (K (2 : Int) (0 : Int) false (⟨#[]⟩ : ByteArray) (0 : Int) false ([] : List Int)) else (bif decide ((5 : Int) < (a0.length : Int)) then (bif decide ((8 : Int) < (a0.length : Int)) then (bif decide ((9 : Int) < (a0.length : Int)) then (bif decide (IntKind.i64.wrap ((IntKind.i64.wrap ((12 : Int) + (IntKind.i64.wrap (a0.getD 5 (0 : Int))))) + (bits .or .i64 (IntKind.i64.wrap ((IntKind.i64.wrap (a0.getD 8 (0 : Int))) * 2 ^ 8)) (IntKind.i64.wrap (a0.getD 9 (0 : Int))))) > IntKind.i64.wrap ((a0.length : Int) - (3 : Int))) then (K (3 : Int) (0 : Int) false (⟨#[]⟩ : ByteArray) (0 : Int) false ([] : List Int)) else (f75 k a0 (fun r20481_0 => (bif decide ((4 : Int) < (a0.length : Int)) then (bif (decide ((12 : Int) ≤ IntKind.i64.wrap ((12 : Int) + (IntKind.i64.wrap (a0.getD 5 (0 : Int))))) && decide (IntKind.i64.wrap ((12 : Int) + (IntKind.i64.wrap (a0.getD 5 (0 : Int)))) ≤ (a0.length : Int))) then (bif decide ((6 : Int) < (a0.length : Int)) then (bif decide ((7 : Int) < (a0.length : Int)) then (bif decide ((10 : Int) < (a0.length : Int)) then (bif (decide ((0 : Int) ≤ IntKind.i64.wrap ((12 : Int) + (IntKind.i64.wrap (a0.getD 5 (0 : Int))))) && (decide (IntKind.i64.wrap ((12 : Int) + (IntKind.i64.wrap (a0.getD 5 (0 : Int)))) ≤ IntKind.i64.wrap ((IntKind.i64.wrap ((12 : Int) + (IntKind.i64.wrap (a0.getD 5 (0 : Int))))) + (bits .or .i64 (IntKind.i64.wrap ((IntKind.i64.wrap (a0.getD 8 (0 : Int))) * 2 ^ 8)) (IntKind.i64.wrap (a0.getD 9 (0 : Int)))))) && decide (IntKind.i64.wrap ((IntKind.i64.wrap ((12 : Int) + (IntKind.i64.wrap (a0.getD 5 (0 : Int))))) + (bits .or .i64 (IntKind.i64.wrap ((IntKind.i64.wrap (a0.getD 8 (0 : Int))) * 2 ^ 8)) (IntKind.i64.wrap (a0.getD 9 (0 : Int))))) ≤ (a0.length : Int)))) then (f72 k ((a0.take (Int.toNat (IntKind.i64.wrap ((IntKind.i64.wrap ((12 : Int) + (IntKind.i64.wrap (a0.getD 5 (0 : Int))))) + (bits .or .i64 (IntKind.i64.wrap ((IntKind.i64.wrap (a0.getD 8 (0 : Int))) * 2 ^ 8)) (IntKind.i64.wrap (a0.getD 9 (0 : Int)))))))).drop (Int.toNat (IntKind.i64.wrap ((12 : Int) + (IntKind.i64.wrap (a0.getD 5 (0 : Int))))))) (fun r20513_0 => (f18 k (a0.length : Int) r20481_0 ((a0.getD 4 (0 : Int)) == (2 : Int)) (strOf ((a0.take (Int.toNat (IntKind.i64.wrap ((12 : Int) + (IntKind.i64.wrap (a0.getD 5 (0 : Int))))))).drop 12)) (bits .or .i64 (IntKind.i64.wrap ((IntKind.i64.wrap (a0.getD 6 (0 : Int))) * 2 ^ 8)) (IntKind.i64.wrap (a0.getD 7 (0 : Int)))) ((a0.getD 10 (0 : Int)) == (1 : Int)) r20513_0 (fun r22531_0 r22531_1 => (bif ((r22531_0 != (0 : Int)) == false) then (f76 k a0 r22531_1 (fun r24581_0 => (bif (!r24581_0) then (K (3 : Int) (0 : Int) false (⟨#[]⟩ : ByteArray) (0 : Int) false ([] : List Int)) else (K (4 : Int) r20481_0 ((a0.getD 4 (0 : Int)) == (2 : Int)) (strOf ((a0.take (Int.toNat (IntKind.i64.wrap ((12 : Int) + (IntKind.i64.wrap (a0.getD 5 (0 : Int))))))).drop 12)) (bits .or .i64 (IntKind.i64.wrap ((IntKind.i64.wrap (a0.getD 6 (0 : Int))) * 2 ^ 8)) (IntKind.i64.wrap (a0.getD 7 (0 : Int)))) ((a0.getD 10 (0 : Int)) == (1 : Int)) r20513_0)))) else (K (3 : Int) (0 : Int) false (⟨#[]⟩ : ByteArray) (0 : Int) false ([] : List Int))))))) else none) else none) else none) else none) else none) else none)))) else none) else none) else none)) else none))))
theorem f56x {R : Type} : ∃ f, f = @f56d R := ⟨_, rfl⟩
noncomputable def f56 {R : Type} := Classical.choose (f56x (R := R))
theorem f56_def {R : Type} : @f56 R = @f56d R := Classical.choose_spec f56x
noncomputable def f20d {R : Type} (k : Nat) (a0 : List Int) (K : Int → Int → Bool → ByteArray → Int → Bool → Int → List Int → Option R) : Option R := match k with
  | 0 => none
  | k + 1 => (f52 k (a0.length : Int) (64 : Int) (1024 : Int) (fun r4098_0 => (bif (!r4098_0) then (K (0 : Int) (0 : Int) false (⟨#[]⟩ : ByteArray) (0 : Int) false (3 : Int) ([] : List Int)) else (f56 k a0 (fun r8193_0 r8193_1 r8193_2 r8193_3 r8193_4 r8193_5 r8193_6 => (K r8193_0 r8193_1 r8193_2 r8193_3 r8193_4 r8193_5 (0 : Int) r8193_6))))))
theorem f20x {R : Type} : ∃ f, f = @f20d R := ⟨_, rfl⟩
noncomputable def f20 {R : Type} := Classical.choose (f20x (R := R))
theorem f20_def {R : Type} : @f20 R = @f20d R := Classical.choose_spec f20x
noncomputable def f77_0b {R : Type} (k : Nat) (rec : Int → Option R) (K : Bool → Option R) (x0 : Option R) (v0_0 : List Int) (v0_1 : Int) : Option R :=
  (bif decide (v0_1 < (v0_0.length : Int)) then (bif (decide ((0 : Int) ≤ v0_1) && decide (v0_1 < (v0_0.length : Int))) then (bif ((v0_0.getD (Int.toNat v0_1) (0 : Int)) != (255 : Int)) then (K false) else (rec (IntKind.i64.wrap (v0_1 + (1 : Int))))) else none) else x0)
noncomputable def f77_0d {R : Type} (k : Nat) (K : Bool → Option R) (x0 : Option R) (v0_0 : List Int) : Nat → Int → Option R
  | 0, _ => none
  | m + 1, v0_1 => f77_0b k (f77_0d k K x0 v0_0 m) K x0 v0_0 v0_1
theorem f77_0x {R : Type} : ∃ f, f = @f77_0d R := ⟨_, rfl⟩
noncomputable def f77_0 {R : Type} := Classical.choose (f77_0x (R := R))
theorem f77_0_def {R : Type} : @f77_0 R = @f77_0d R := Classical.choose_spec f77_0x
noncomputable def f77d {R : Type} (k : Nat) (a0 : List Int) (K : Bool → Option R) : Option R := match k with
  | 0 => none
  | k + 1 => (f77_0 k K (K true) a0 k (0 : Int))
theorem f77x {R : Type} : ∃ f, f = @f77d R := ⟨_, rfl⟩
noncomputable def f77 {R : Type} := Classical.choose (f77x (R := R))
theorem f77_def {R : Type} : @f77 R = @f77d R := Classical.choose_spec f77x
noncomputable def f78d {R : Type} (k : Nat) (a0 : List Int) (a1 : Int) (K : Int → Option R) : Option R := match k with
  | 0 => none
  | k + 1 => (bif (decide ((0 : Int) ≤ a1) && decide (a1 < (a0.length : Int))) then (bif (decide ((0 : Int) ≤ IntKind.i64.wrap (a1 + (1 : Int))) && decide (IntKind.i64.wrap (a1 + (1 : Int)) < (a0.length : Int))) then (K (IntKind.i64.wrap ((IntKind.i64.wrap ((IntKind.i64.wrap (a0.getD (Int.toNat a1) (0 : Int))) * (256 : Int))) + (IntKind.i64.wrap (a0.getD (Int.toNat (IntKind.i64.wrap (a1 + (1 : Int)))) (0 : Int)))))) else none) else none)
theorem f78x {R : Type} : ∃ f, f = @f78d R := ⟨_, rfl⟩
noncomputable def f78 {R : Type} := Classical.choose (f78x (R := R))
theorem f78_def {R : Type} : @f78 R = @f78d R := Classical.choose_spec f78x
noncomputable def f22d {R : Type} (k : Nat) (a0 : List Int) (a1 : List Int) (K : Bool → Option R) : Option R := match k with
  | 0 => none
  | k + 1 => (K ((strOf a0).toList == (strOf a1).toList))
theorem f22x {R : Type} : ∃ f, f = @f22d R := ⟨_, rfl⟩
noncomputable def f22 {R : Type} := Classical.choose (f22x (R := R))
theorem f22_def {R : Type} : @f22 R = @f22d R := Classical.choose_spec f22x
noncomputable def f57d {R : Type} (k : Nat) (a0 : List Int) (K : Int → Int → Bool → ByteArray → Int → Bool → List Int → Option R) : Option R := match k with
  | 0 => none
  | k + 1 => (f77 k a0 (fun r4097_0 => (bif r4097_0 then (K (1 : Int) (0 : Int) false (⟨#[]⟩ : ByteArray) (0 : Int) false ([] : List Int)) else (bif (decide ((0 : Int) ≤ IntKind.i64.wrap ((a0.length : Int) - (1 : Int))) && decide (IntKind.i64.wrap ((a0.length : Int) - (1 : Int)) < (a0.length : Int))) then (bif ((a0.getD (Int.toNat (IntKind.i64.wrap ((a0.length : Int) - (1 : Int)))) (0 : Int)) != (165 : Int)) then (K (2 : Int) (0 : Int) false (⟨#[]⟩ : ByteArray) (0 : Int) false ([] : List Int)) else (bif decide ((5 : Int) < (a0.length : Int)) then (f78 k a0 (8 : Int) (fun r12293_0 => (bif decide (IntKind.i64.wrap ((IntKind.i64.wrap ((12 : Int) + (IntKind.i64.wrap (a0.getD 5 (0 : Int))))) + r12293_0) > IntKind.i64.wrap ((a0.length : Int) - (3 : Int))) then (K (3 : Int) (0 : Int) false (⟨#[]⟩ : ByteArray) (0 : Int) false ([] : List Int)) else (f78 k a0 (0 : Int) (fun r18433_0 => (f78 k a0 (2 : Int) (fun r18436_0 => (bif decide ((4 : Int) < (a0.length : Int)) then (bif (decide ((12 : Int) ≤ IntKind.i64.wrap ((12 : Int) + (IntKind.i64.wrap (a0.getD 5 (0 : Int))))) && decide (IntKind.i64.wrap ((12 : Int) + (IntKind.i64.wrap (a0.getD 5 (0 : Int)))) ≤ (a0.length : Int))) then (f78 k a0 (6 : Int) (fun r18448_0 => (bif decide ((10 : Int) < (a0.length : Int)) then (bif (decide ((0 : Int) ≤ IntKind.i64.wrap ((12 : Int) + (IntKind.i64.wrap (a0.getD 5 (0 : Int))))) && (decide (IntKind.i64.wrap ((12 : Int) + (IntKind.i64.wrap (a0.getD 5 (0 : Int)))) ≤ IntKind.i64.wrap ((IntKind.i64.wrap ((12 : Int) + (IntKind.i64.wrap (a0.getD 5 (0 : Int))))) + r12293_0)) && decide (IntKind.i64.wrap ((IntKind.i64.wrap ((12 : Int) + (IntKind.i64.wrap (a0.getD 5 (0 : Int))))) + r12293_0) ≤ (a0.length : Int)))) then (bif decide (((a0.take (Int.toNat (IntKind.i64.wrap ((IntKind.i64.wrap ((12 : Int) + (IntKind.i64.wrap (a0.getD 5 (0 : Int))))) + r12293_0)))).drop (Int.toNat (IntKind.i64.wrap ((12 : Int) + (IntKind.i64.wrap (a0.getD 5 (0 : Int))))))).length ≤ LIM 1) then (f19 k (a0.length : Int) (IntKind.i64.wrap ((IntKind.i64.wrap (r18433_0 * (65536 : Int))) + r18436_0)) ((a0.getD 4 (0 : Int)) == (2 : Int)) (strOf ((a0.take (Int.toNat (IntKind.i64.wrap ((12 : Int) + (IntKind.i64.wrap (a0.getD 5 (0 : Int))))))).drop 12)) r18448_0 ((a0.getD 10 (0 : Int)) == (1 : Int)) ((a0.take (Int.toNat (IntKind.i64.wrap ((IntKind.i64.wrap ((12 : Int) + (IntKind.i64.wrap (a0.getD 5 (0 : Int))))) + r12293_0)))).drop (Int.toNat (IntKind.i64.wrap ((12 : Int) + (IntKind.i64.wrap (a0.getD 5 (0 : Int))))))) (fun r22531_0 r22531_1 => (bif ((r22531_0 != (0 : Int)) == false) then (f22 k r22531_1 a0 (fun r24581_0 => (bif (!r24581_0) then (K (3 : Int) (0 : Int) false (⟨#[]⟩ : ByteArray) (0 : Int) false ([] : List Int)) else (K (4 : Int) (IntKind.i64.wrap ((IntKind.i64.wrap (r18433_0 * (65536 : Int))) + r18436_0)) ((a0.getD 4 (0 : Int)) == (2 : Int)) (strOf ((a0.take (Int.toNat (IntKind.i64.wrap ((12 : Int) + (IntKind.i64.wrap (a0.getD 5 (0 : Int))))))).drop 12)) r18448_0 ((a0.getD 10 (0 : Int)) == (1 : Int)) ((a0.take (Int.toNat (IntKind.i64.wrap ((IntKind.i64.wrap ((12 : Int) + (IntKind.i64.wrap (a0.getD 5 (0 : Int))))) + r12293_0)))).drop (Int.toNat (IntKind.i64.wrap ((12 : Int) + (IntKind.i64.wrap (a0.getD 5 (0 : Int))))))))))) else (K (3 : Int) (0 : Int) false (⟨#[]⟩ : ByteArray) (0 : Int) false ([] : List Int))))) else none) else none) else none))) else none) else none)))))))) else none)) else none))))
theorem f57x {R : Type} : ∃ f, f = @f57d R := ⟨_, rfl⟩
noncomputable def f57 {R : Type} := Classical.choose (f57x (R := R))
theorem f57_def {R : Type} : @f57 R = @f57d R := Classical.choose_spec f57x
noncomputable def f21d {R : Type} (k : Nat) (a0 : List Int) (K : Int → Int → Bool → ByteArray → Int → Bool → Int → List Int → Option R) : Option R := match k with
  | 0 => none
  | k + 1 => (f41 k (a0.length : Int) (64 : Int) (1024 : Int) (fun r4098_0 => (bif (!r4098_0) then (K (0 : Int) (0 : Int) false (⟨#[]⟩ : ByteArray) (0 : Int) false (3 : Int) ([] : List Int)) else (f57 k a0 (fun r8193_0 r8193_1 r8193_2 r8193_3 r8193_4 r8193_5 r8193_6 => (K r8193_0 r8193_1 r8193_2 r8193_3 r8193_4 r8193_5 (0 : Int) r8193_6))))))
theorem f21x {R : Type} : ∃ f, f = @f21d R := ⟨_, rfl⟩
noncomputable def f21 {R : Type} := Classical.choose (f21x (R := R))
theorem f21_def {R : Type} : @f21 R = @f21d R := Classical.choose_spec f21x
noncomputable def f23d {R : Type} (k : Nat) (a0 : Int) (a1 : Bool) (a2 : ByteArray) (a3 : Int) (a4 : Bool) (a5 : List Int) (a6 : Int) (a7 : Bool) (a8 : ByteArray) (a9 : Int) (a10 : Bool) (a11 : List Int) (K : Bool → Option R) : Option R := match k with
  | 0 => none
  | k + 1 => (bif ((a0 == a6) == true) then (bif ((a1 == a7) == true) then (bif ((a2.toList == a8.toList) == true) then (bif ((a3 == a9) == true) then (bif ((a4 == a10) == true) then (f22 k a5 a11 (fun r4134_0 => (K r4134_0))) else (K false)) else (K false)) else (K false)) else (K false)) else (K false))
theorem f23x {R : Type} : ∃ f, f = @f23d R := ⟨_, rfl⟩
noncomputable def f23 {R : Type} := Classical.choose (f23x (R := R))
theorem f23_def {R : Type} : @f23 R = @f23d R := Classical.choose_spec f23x
noncomputable def f16d {R : Type} (k : Nat) (a0 : List Int) (K : Int → Int → Option R) : Option R := match k with
  | 0 => none
  | k + 1 => (bif decide ((a0.length : Int) > (262144 : Int)) then (K (0 : Int) (2 : Int)) else (f50 k a0 (fun r8193_0 => (K r8193_0 (0 : Int)))))
theorem f16x {R : Type} : ∃ f, f = @f16d R := ⟨_, rfl⟩
noncomputable def f16 {R : Type} := Classical.choose (f16x (R := R))
theorem f16_def {R : Type} : @f16 R = @f16d R := Classical.choose_spec f16x
noncomputable def f13d {R : Type} (k : Nat) (K : Bool → Option R) : Option R := match k with
  | 0 => none
  | k + 1 => (bif decide (0 < ([(49 : Int), (50 : Int), (51 : Int), (52 : Int), (53 : Int), (54 : Int), (55 : Int), (56 : Int), (57 : Int)] : List Int).length) then (f16 k ([(49 : Int), (50 : Int), (51 : Int), (52 : Int), (53 : Int), (54 : Int), (55 : Int), (56 : Int), (57 : Int)] : List Int) (fun r4098_0 r4098_1 => (bif ((r4098_1 == (0 : Int)) == true) then (K (r4098_0 == (10673 : Int))) else (K false)))) else none)
theorem f13x {R : Type} : ∃ f, f = @f13d R := ⟨_, rfl⟩
noncomputable def f13 {R : Type} := Classical.choose (f13x (R := R))
theorem f13_def {R : Type} : @f13 R = @f13d R := Classical.choose_spec f13x
noncomputable def f5d {R : Type} (k : Nat) (a0 : Int) (a1 : Int) (a2 : Bool) (a3 : ByteArray) (a4 : Int) (a5 : Bool) (a6 : List Int) (a7 : List Int) (K : Bool → Option R) : Option R := match k with
  | 0 => none
  | k + 1 => (f18 k a0 a1 a2 a3 a4 a5 a6 (fun r4098_0 r4098_1 => (f19 k a0 a1 a2 a3 a4 a5 a6 (fun r6146_0 r6146_1 => (f20 k a7 (fun r8193_0 r8193_1 r8193_2 r8193_3 r8193_4 r8193_5 r8193_6 r8193_7 => (f21 k a7 (fun r10241_0 r10241_1 r10241_2 r10241_3 r10241_4 r10241_5 r10241_6 r10241_7 => (f22 k r4098_1 r6146_1 (fun r12290_0 => (bif (r12290_0 == true) then (bif ((r4098_0 == r6146_0) == true) then (bif ((r8193_0 == r10241_0) == true) then (f23 k r8193_1 r8193_2 r8193_3 r8193_4 r8193_5 r8193_7 r10241_1 r10241_2 r10241_3 r10241_4 r10241_5 r10241_7 (fun r12304_0 => (bif (r12304_0 == true) then (bif ((r8193_6 == r10241_6) == true) then (f13 k (fun r12312_0 => (K r12312_0))) else (K false)) else (K false)))) else (K false)) else (K false)) else (K false))))))))))))
theorem f5x {R : Type} : ∃ f, f = @f5d R := ⟨_, rfl⟩
noncomputable def f5 {R : Type} := Classical.choose (f5x (R := R))
theorem f5_def {R : Type} : @f5 R = @f5d R := Classical.choose_spec f5x
noncomputable def f24d {R : Type} (k : Nat) (a0 : List Int) (K : List Int → Option R) : Option R := match k with
  | 0 => none
  | _ + 1 => bif decide (a0.length ≤ LIM 1) then K a0 else none
theorem f24x {R : Type} : ∃ f, f = @f24d R := ⟨_, rfl⟩
noncomputable def f24 {R : Type} := Classical.choose (f24x (R := R))
theorem f24_def {R : Type} : @f24 R = @f24d R := Classical.choose_spec f24x
noncomputable def f6d {R : Type} (k : Nat) (a0 : Int) (a1 : Int) (a2 : Bool) (a3 : ByteArray) (a4 : Int) (a5 : Bool) (a6 : List Int) (a7 : Int) (K : Bool → Option R) : Option R := match k with
  | 0 => none
  | k + 1 => (f18 k a0 a1 a2 a3 a4 a5 a6 (fun r4098_0 r4098_1 => (bif (r4098_0 != (0 : Int)) then (bif (((r4098_1.length : Int) == (0 : Int)) == true) then (f13 k (fun r8196_0 => (K r8196_0))) else (K false)) else (f20 k r4098_1 (fun r10241_0 r10241_1 r10241_2 r10241_3 r10241_4 r10241_5 r10241_6 r10241_7 => (bif ((r10241_6 != (0 : Int)) == false) then (bif ((r10241_0 != (4 : Int)) == false) then (f23 k a1 a2 a3 a4 a5 a6 r10241_1 r10241_2 r10241_3 r10241_4 r10241_5 r10241_7 (fun r12297_0 => (bif (!r12297_0) then (K false) else (bif (decide (a7 < (0 : Int)) == false) then (bif decide (a7 ≥ IntKind.i64.wrap ((8 : Int) * (r4098_1.length : Int))) then (f13 k (fun r18432_0 => (K r18432_0))) else (f24 k r4098_1 (fun r20481_0 => (bif (decide ((0 : Int) ≤ IntKind.i64.wrap (Int.tdiv a7 (8 : Int))) && decide (IntKind.i64.wrap (Int.tdiv a7 (8 : Int)) < (r20481_0.length : Int))) then (bif decide ((0 : Int) ≤ IntKind.u64.wrap (Int.tmod a7 (8 : Int))) then (bif (decide ((0 : Int) ≤ IntKind.i64.wrap (Int.tdiv a7 (8 : Int))) && decide (IntKind.i64.wrap (Int.tdiv a7 (8 : Int)) < (r20481_0.length : Int))) then (f20 k (r20481_0.set (Int.toNat (IntKind.i64.wrap (Int.tdiv a7 (8 : Int)))) (bits .xor .u8 (r20481_0.getD (Int.toNat (IntKind.i64.wrap (Int.tdiv a7 (8 : Int)))) (0 : Int)) (Int.fdiv (128 : Int) (2 ^ min (Int.toNat (IntKind.u64.wrap (Int.tmod a7 (8 : Int)))) 8)))) (fun r24577_0 r24577_1 r24577_2 r24577_3 r24577_4 r24577_5 r24577_6 r24577_7 => (bif ((r24577_6 == (0 : Int)) == true) then (bif ((r24577_0 != (4 : Int)) == true) then (bif ((r24577_0 != (1 : Int)) == true) then (f13 k (fun r26635_0 => (K r26635_0))) else (K false)) else (K false)) else (K false)))) else none) else none) else none)))) else (f13 k (fun r18432_0 => (K r18432_0))))))) else (K false)) else (K false)))))))
theorem f6x {R : Type} : ∃ f, f = @f6d R := ⟨_, rfl⟩
noncomputable def f6 {R : Type} := Classical.choose (f6x (R := R))
theorem f6_def {R : Type} : @f6 R = @f6d R := Classical.choose_spec f6x
end Go.Proofs.Ytecnlienmpdlaaa.PM
