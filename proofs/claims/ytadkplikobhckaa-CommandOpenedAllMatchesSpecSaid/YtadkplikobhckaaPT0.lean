/- Functions of the program in typed form (printed by a program of this work). -/
import Derived.Test.YtadkplikobhckaaPmE
import Derived.Test.YtadkplikobhckaaSoD
import Derived.Test.YtadkplikobhckaaInD
set_option linter.unusedVariables false
set_option linter.unusedSimpArgs false
set_option maxRecDepth 100000
namespace Go.Proofs.Ytadkplikobhckaa.PM
open Go
noncomputable def f62d {R : Type} (k : Nat) (a0 : Int) (a1 : Int) (a2 : Int) (K : Bool → Option R) : Option R := match k with
  | 0 => none
  | k + 1 => (bif (decide (a1 ≤ a0) == true) then (K (decide (a0 ≤ a2))) else (K false))
theorem f62x {R : Type} : ∃ f, f = @f62d R := ⟨_, rfl⟩
noncomputable def f62 {R : Type} := Classical.choose (f62x (R := R))
theorem f62_def {R : Type} : @f62 R = @f62d R := Classical.choose_spec f62x
noncomputable def f48_1b {R : Type} (k : Nat) (rec : Int → Option R) (K : Int → Option R) (x1 : Option R) (v1_0 : List Int) (v1_1 : Int) (v1_3 : Int) (v1_4 : Int) (v1_5 : List Int) (v1_2 : Int) : Option R :=
  (bif decide (v1_2 < v1_1) then (bif (decide ((0 : Int) ≤ v1_2) && decide (v1_2 < (v1_0.length : Int))) then (f62 k (v1_0.getD (Int.toNat v1_2) (0 : Int)) (IntKind.i64.wrap (v1_4 + (1 : Int))) (if (1000000000 : Int) < IntKind.i64.wrap (v1_4 + (64 : Int)) then (1000000000 : Int) else IntKind.i64.wrap (v1_4 + (64 : Int))) (fun r18440_0 => (bif (!r18440_0) then (K (1 : Int)) else (bif (decide (v1_2 > (0 : Int)) == true) then (bif (decide ((0 : Int) ≤ IntKind.i64.wrap (v1_2 - (1 : Int))) && decide (IntKind.i64.wrap (v1_2 - (1 : Int)) < (v1_5.length : Int))) then (bif decide ((v1_0.getD (Int.toNat v1_2) (0 : Int)) ≤ (v1_5.getD (Int.toNat (IntKind.i64.wrap (v1_2 - (1 : Int)))) (0 : Int))) then (K (8 : Int)) else (rec (IntKind.i64.wrap (v1_2 + (1 : Int))))) else none) else (rec (IntKind.i64.wrap (v1_2 + (1 : Int)))))))) else none) else x1)
noncomputable def f48_1d {R : Type} (k : Nat) (K : Int → Option R) (x1 : Option R) (v1_0 : List Int) (v1_1 : Int) (v1_3 : Int) (v1_4 : Int) (v1_5 : List Int) : Nat → Int → Option R
  | 0, _ => none
  | m + 1, v1_2 => f48_1b k (f48_1d k K x1 v1_0 v1_1 v1_3 v1_4 v1_5 m) K x1 v1_0 v1_1 v1_3 v1_4 v1_5 v1_2
theorem f48_1x {R : Type} : ∃ f, f = @f48_1d R := ⟨_, rfl⟩
noncomputable def f48_1 {R : Type} := Classical.choose (f48_1x (R := R))
theorem f48_1_def {R : Type} : @f48_1 R = @f48_1d R := Classical.choose_spec f48_1x
noncomputable def f48d {R : Type} (k : Nat) (a0 : Int) (a1 : Int) (a2 : List Int) (K : Int → Option R) : Option R := match k with
  | 0 => none
  | k + 1 => (f62 k a0 (0 : Int) (1000000000000000 : Int) (fun r4098_0 => (bif ((!r4098_0) == false) then (f62 k a1 (0 : Int) (1000000001 : Int) (fun r4103_0 => (bif (!r4103_0) then (K (1 : Int)) else (bif decide ((a2.length : Int) > (64 : Int)) then (K (2 : Int)) else (f48_1 k K (K (0 : Int)) a2 (a2.length : Int) a0 a1 a2 k (0 : Int)))))) else (K (1 : Int)))))
theorem f48x {R : Type} : ∃ f, f = @f48d R := ⟨_, rfl⟩
noncomputable def f48 {R : Type} := Classical.choose (f48x (R := R))
theorem f48_def {R : Type} : @f48 R = @f48d R := Classical.choose_spec f48x
noncomputable def f25_1000008d {R : Type} (k : Nat) (xN : Int → Option R) (v8_0 : Int) (v8_1 : Int) (v8_2 : Int) (v8_3 : Int) (v8_4 : Bool) (v8_5 : Int) (v8_6 : Bool) (v8_7 : Bool) (v8_8 : Bool) (v8_9 : List Bool) : Option R :=
  (bif v8_4 then (bif decide ((0 : Int) ≤ v8_1) then (xN (bits .or .u8 v8_0 (IntKind.u8.wrap ((1 : Int) * 2 ^ min (Int.toNat v8_1) 8)))) else none) else (xN v8_0))
theorem f25_1000008x {R : Type} : ∃ f, f = @f25_1000008d R := ⟨_, rfl⟩
noncomputable def f25_1000008 {R : Type} := Classical.choose (f25_1000008x (R := R))
theorem f25_1000008_def {R : Type} : @f25_1000008 R = @f25_1000008d R := Classical.choose_spec f25_1000008x
noncomputable def f25_0b {R : Type} (k : Nat) (rec : Int → Int → Option R) (x0 : Int → Option R) (v0_1 : Int) (v0_3 : Int) (v0_4 : Bool) (v0_5 : Bool) (v0_6 : Bool) (v0_7 : List Bool) (v0_0 : Int) (v0_2 : Int) : Option R :=
  (bif decide (v0_2 < v0_1) then (bif (decide ((0 : Int) ≤ v0_2) && decide (v0_2 < (v0_7.length : Int))) then (f25_1000008 k (fun y8_N_0 => (rec y8_N_0 (IntKind.i64.wrap (v0_2 + (1 : Int))))) v0_0 v0_2 v0_1 v0_2 (v0_7.getD (Int.toNat v0_2) false) v0_3 v0_4 v0_5 v0_6 v0_7) else none) else (x0 v0_0))
noncomputable def f25_0d {R : Type} (k : Nat) (x0 : Int → Option R) (v0_1 : Int) (v0_3 : Int) (v0_4 : Bool) (v0_5 : Bool) (v0_6 : Bool) (v0_7 : List Bool) : Nat → Int → Int → Option R
  | 0, _, _ => none
  | m + 1, v0_0, v0_2 => f25_0b k (f25_0d k x0 v0_1 v0_3 v0_4 v0_5 v0_6 v0_7 m) x0 v0_1 v0_3 v0_4 v0_5 v0_6 v0_7 v0_0 v0_2
theorem f25_0x {R : Type} : ∃ f, f = @f25_0d R := ⟨_, rfl⟩
noncomputable def f25_0 {R : Type} := Classical.choose (f25_0x (R := R))
theorem f25_0_def {R : Type} : @f25_0 R = @f25_0d R := Classical.choose_spec f25_0x
noncomputable def f25d {R : Type} (k : Nat) (a0 : Int) (a1 : Bool) (a2 : Bool) (a3 : Bool) (K : Int → List Int → Option R) : Option R := match k with
  | 0 => none
  | k + 1 => (f62 k a0 (0 : Int) (255 : Int) (fun r4098_0 => (bif (!r4098_0) then (K (1 : Int) ([] : List Int)) else (f25_0 k (fun y0_0_0 => (K (0 : Int) ([IntKind.u8.wrap a0, y0_0_0] : List Int))) (([a1, a2, a3] : List Bool).length : Int) a0 a1 a2 a3 ([a1, a2, a3] : List Bool) k (0 : Int) (0 : Int)))))
theorem f25x {R : Type} : ∃ f, f = @f25d R := ⟨_, rfl⟩
noncomputable def f25 {R : Type} := Classical.choose (f25x (R := R))
theorem f25_def {R : Type} : @f25 R = @f25d R := Classical.choose_spec f25x
noncomputable def f24_0b {R : Type} (k : Nat) (rec : Int → Option R) (K : Bool → Option R) (x0 : Option R) (v0_0 : List Int) (v0_1 : List Int) (v0_2 : Int) (v0_3 : Int) : Option R :=
  (bif decide (v0_3 < v0_2) then (bif (decide ((0 : Int) ≤ v0_3) && decide (v0_3 < (v0_0.length : Int))) then (bif (decide ((0 : Int) ≤ v0_3) && decide (v0_3 < (v0_1.length : Int))) then (bif ((v0_0.getD (Int.toNat v0_3) (0 : Int)) != (v0_1.getD (Int.toNat v0_3) (0 : Int))) then (K false) else (rec (IntKind.i64.wrap (v0_3 + (1 : Int))))) else none) else none) else x0)
noncomputable def f24_0d {R : Type} (k : Nat) (K : Bool → Option R) (x0 : Option R) (v0_0 : List Int) (v0_1 : List Int) (v0_2 : Int) : Nat → Int → Option R
  | 0, _ => none
  | m + 1, v0_3 => f24_0b k (f24_0d k K x0 v0_0 v0_1 v0_2 m) K x0 v0_0 v0_1 v0_2 v0_3
theorem f24_0x {R : Type} : ∃ f, f = @f24_0d R := ⟨_, rfl⟩
noncomputable def f24_0 {R : Type} := Classical.choose (f24_0x (R := R))
theorem f24_0_def {R : Type} : @f24_0 R = @f24_0d R := Classical.choose_spec f24_0x
noncomputable def f24d {R : Type} (k : Nat) (a0 : List Int) (a1 : List Int) (K : Bool → Option R) : Option R := match k with
  | 0 => none
  | k + 1 => (bif ((a0.length : Int) != (a1.length : Int)) then (K false) else (f24_0 k K (K true) a0 a1 (a0.length : Int) k (0 : Int)))
theorem f24x {R : Type} : ∃ f, f = @f24d R := ⟨_, rfl⟩
noncomputable def f24 {R : Type} := Classical.choose (f24x (R := R))
theorem f24_def {R : Type} : @f24 R = @f24d R := Classical.choose_spec f24x
noncomputable def f21d {R : Type} (k : Nat) (K : Bool → Option R) : Option R := match k with
  | 0 => none
  | k + 1 => (f25 k (7 : Int) false true false (fun r4097_0 r4097_1 => (bif ((r4097_0 == (0 : Int)) == true) then (f24 k r4097_1 ([(7 : Int), (2 : Int)] : List Int) (fun r6149_0 => (K r6149_0))) else (K false))))
theorem f21x {R : Type} : ∃ f, f = @f21d R := ⟨_, rfl⟩
noncomputable def f21 {R : Type} := Classical.choose (f21x (R := R))
theorem f21_def {R : Type} : @f21 R = @f21d R := Classical.choose_spec f21x
noncomputable def f74d {R : Type} (k : Nat) (a0 : Int) (a1 : Int) (a2 : Int) (K : Int → Option R) : Option R := match k with
  | 0 => none
  | k + 1 => (f62 k a0 a1 a2 (fun r4099_0 => (bif (!r4099_0) then (K (1 : Int)) else (K (0 : Int)))))
theorem f74x {R : Type} : ∃ f, f = @f74d R := ⟨_, rfl⟩
noncomputable def f74 {R : Type} := Classical.choose (f74x (R := R))
theorem f74_def {R : Type} : @f74 R = @f74d R := Classical.choose_spec f74x
noncomputable def f70d {R : Type} (k : Nat) (a0 : List Int) (K : Int → Option R) : Option R := match k with
  | 0 => none
  | k + 1 => (bif ((a0.length : Int) == (0 : Int)) then (K (9 : Int)) else (bif decide ((a0.length : Int) > (200 : Int)) then (K (2 : Int)) else (K (0 : Int))))
theorem f70x {R : Type} : ∃ f, f = @f70d R := ⟨_, rfl⟩
noncomputable def f70 {R : Type} := Classical.choose (f70x (R := R))
theorem f70_def {R : Type} : @f70 R = @f70d R := Classical.choose_spec f70x
noncomputable def f65_0b {R : Type} (k : Nat) (rec : Int → Option R) (K : Int → Option R) (x0 : Option R) (v0_0 : List Int) (v0_1 : Int) (v0_2 : Int) : Option R :=
  (bif decide (v0_2 < v0_1) then (bif (decide ((0 : Int) ≤ v0_2) && decide (v0_2 < (v0_0.length : Int))) then (bif ((v0_0.getD (Int.toNat v0_2) (0 : Int)) != (0 : Int)) then (K (v0_0.getD (Int.toNat v0_2) (0 : Int))) else (rec (IntKind.i64.wrap (v0_2 + (1 : Int))))) else none) else x0)
noncomputable def f65_0d {R : Type} (k : Nat) (K : Int → Option R) (x0 : Option R) (v0_0 : List Int) (v0_1 : Int) : Nat → Int → Option R
  | 0, _ => none
  | m + 1, v0_2 => f65_0b k (f65_0d k K x0 v0_0 v0_1 m) K x0 v0_0 v0_1 v0_2
theorem f65_0x {R : Type} : ∃ f, f = @f65_0d R := ⟨_, rfl⟩
noncomputable def f65_0 {R : Type} := Classical.choose (f65_0x (R := R))
theorem f65_0_def {R : Type} : @f65_0 R = @f65_0d R := Classical.choose_spec f65_0x
noncomputable def f65d {R : Type} (k : Nat) (a0 : List Int) (K : Int → Option R) : Option R := match k with
  | 0 => none
  | k + 1 => (f65_0 k K (K (0 : Int)) a0 (a0.length : Int) k (0 : Int))
theorem f65x {R : Type} : ∃ f, f = @f65d R := ⟨_, rfl⟩
noncomputable def f65 {R : Type} := Classical.choose (f65x (R := R))
theorem f65_def {R : Type} : @f65 R = @f65d R := Classical.choose_spec f65x
noncomputable def f82_0b {R : Type} (k : Nat) (rec : Int → List Int → Option R) (x0 : List Int → Option R) (v0_0 : Int) (v0_1 : Int) (v0_2 : List Int) : Option R :=
  (bif decide (v0_1 ≥ (0 : Int)) then (bif decide ((0 : Int) ≤ v0_1) then (bif decide (v0_2.length + ([IntKind.u8.wrap (Int.fdiv v0_0 (2 ^ min (Int.toNat v0_1) 64))] : List Int).length ≤ LIM 1) then (rec (IntKind.i64.wrap (v0_1 - (8 : Int))) (v0_2 ++ ([IntKind.u8.wrap (Int.fdiv v0_0 (2 ^ min (Int.toNat v0_1) 64))] : List Int))) else none) else none) else (x0 v0_2))
noncomputable def f82_0d {R : Type} (k : Nat) (x0 : List Int → Option R) (v0_0 : Int) : Nat → Int → List Int → Option R
  | 0, _, _ => none
  | m + 1, v0_1, v0_2 => f82_0b k (f82_0d k x0 v0_0 m) x0 v0_0 v0_1 v0_2
theorem f82_0x {R : Type} : ∃ f, f = @f82_0d R := ⟨_, rfl⟩
noncomputable def f82_0 {R : Type} := Classical.choose (f82_0x (R := R))
theorem f82_0_def {R : Type} : @f82_0 R = @f82_0d R := Classical.choose_spec f82_0x
noncomputable def f82d {R : Type} (k : Nat) (a0 : Int) (K : List Int → Option R) : Option R := match k with
  | 0 => none
  | k + 1 => (f82_0 k (fun y0_0_0 => (K y0_0_0)) a0 k (56 : Int) ([] : List Int))
theorem f82x {R : Type} : ∃ f, f = @f82d R := ⟨_, rfl⟩
noncomputable def f82 {R : Type} := Classical.choose (f82x (R := R))
theorem f82_def {R : Type} : @f82 R = @f82d R := Classical.choose_spec f82x
noncomputable def f101_1000002d {R : Type} (k : Nat) (xN : Option R) (v2_0 : Int) (v2_1 : Bool) : Option R :=
  (bif v2_1 then none else xN)
theorem f101_1000002x {R : Type} : ∃ f, f = @f101_1000002d R := ⟨_, rfl⟩
noncomputable def f101_1000002 {R : Type} := Classical.choose (f101_1000002x (R := R))
theorem f101_1000002_def {R : Type} : @f101_1000002 R = @f101_1000002d R := Classical.choose_spec f101_1000002x
noncomputable def f101_1000005d {R : Type} (k : Nat) (xN : List Int → Option R) (v5_0 : Int) (v5_1 : Bool) : Option R :=
  (bif v5_1 then (bif (decide ((0 : Int) ≤ v5_0) && decide ((List.replicate (Int.toNat v5_0) (0 : Int)).length ≤ LIM 1)) then (bif decide ((0 : Int) ≤ ((List.replicate (Int.toNat v5_0) (0 : Int)).length : Int)) then (xN (((List.replicate (Int.toNat v5_0) (0 : Int)).drop 0).take 0)) else none) else none) else (xN ([] : List Int)))
theorem f101_1000005x {R : Type} : ∃ f, f = @f101_1000005d R := ⟨_, rfl⟩
noncomputable def f101_1000005 {R : Type} := Classical.choose (f101_1000005x (R := R))
theorem f101_1000005_def {R : Type} : @f101_1000005 R = @f101_1000005d R := Classical.choose_spec f101_1000005x
noncomputable def f101d {R : Type} (k : Nat) (a0 : Int) (K : List Int → Option R) : Option R := match k with
  | 0 => none
  | k + 1 => (f101_1000002 k (f101_1000005 k (fun y5_N_0 => (K y5_N_0)) (IntKind.i64.wrap (a0 - (0 : Int))) (decide (IntKind.i64.wrap (a0 - (0 : Int)) > (0 : Int)))) a0 (decide (a0 < (0 : Int))))
theorem f101x {R : Type} : ∃ f, f = @f101d R := ⟨_, rfl⟩
noncomputable def f101 {R : Type} := Classical.choose (f101x (R := R))
theorem f101_def {R : Type} : @f101 R = @f101d R := Classical.choose_spec f101x
noncomputable def f96_1000007d {R : Type} (k : Nat) (xN : Option R) (v7_0 : List (List Int)) (v7_1 : Int) (v7_2 : List (List Int)) (v7_3 : Int) (v7_4 : Int) (v7_5 : Bool) : Option R :=
  (bif v7_5 then none else xN)
theorem f96_1000007x {R : Type} : ∃ f, f = @f96_1000007d R := ⟨_, rfl⟩
noncomputable def f96_1000007 {R : Type} := Classical.choose (f96_1000007x (R := R))
theorem f96_1000007_def {R : Type} : @f96_1000007 R = @f96_1000007d R := Classical.choose_spec f96_1000007x
noncomputable def f96_0b {R : Type} (k : Nat) (rec : Int → Int → Option R) (x0 : Int → Option R) (v0_0 : List (List Int)) (v0_2 : List (List Int)) (v0_3 : Int) (v0_1 : Int) (v0_4 : Int) : Option R :=
  (bif decide (v0_4 < v0_3) then (bif (decide ((0 : Int) ≤ v0_4) && decide (v0_4 < (v0_2.length : Int))) then (f96_1000007 k (rec (IntKind.i64.wrap (v0_1 + ((v0_2.getD (Int.toNat v0_4) ([] : List Int)).length : Int))) (IntKind.i64.wrap (v0_4 + (1 : Int)))) v0_0 (IntKind.i64.wrap (v0_1 + ((v0_2.getD (Int.toNat v0_4) ([] : List Int)).length : Int))) v0_2 v0_3 v0_4 (decide (IntKind.i64.wrap (v0_1 + ((v0_2.getD (Int.toNat v0_4) ([] : List Int)).length : Int)) < (0 : Int)))) else none) else (x0 v0_1))
noncomputable def f96_0d {R : Type} (k : Nat) (x0 : Int → Option R) (v0_0 : List (List Int)) (v0_2 : List (List Int)) (v0_3 : Int) : Nat → Int → Int → Option R
  | 0, _, _ => none
  | m + 1, v0_1, v0_4 => f96_0b k (f96_0d k x0 v0_0 v0_2 v0_3 m) x0 v0_0 v0_2 v0_3 v0_1 v0_4
theorem f96_0x {R : Type} : ∃ f, f = @f96_0d R := ⟨_, rfl⟩
noncomputable def f96_0 {R : Type} := Classical.choose (f96_0x (R := R))
theorem f96_0_def {R : Type} : @f96_0 R = @f96_0d R := Classical.choose_spec f96_0x
noncomputable def f96_2b {R : Type} (k : Nat) (rec : Int → List Int → Option R) (x2 : List Int → Option R) (v2_0 : List (List Int)) (v2_1 : Int) (v2_2 : Int) (v2_3 : List Int) : Option R :=
  (bif decide (v2_2 < v2_1) then (bif (decide ((0 : Int) ≤ v2_2) && decide (v2_2 < (v2_0.length : Int))) then (bif decide (v2_3.length + (v2_0.getD (Int.toNat v2_2) ([] : List Int)).length ≤ LIM 1) then (rec (IntKind.i64.wrap (v2_2 + (1 : Int))) (v2_3 ++ (v2_0.getD (Int.toNat v2_2) ([] : List Int)))) else none) else none) else (x2 v2_3))
noncomputable def f96_2d {R : Type} (k : Nat) (x2 : List Int → Option R) (v2_0 : List (List Int)) (v2_1 : Int) : Nat → Int → List Int → Option R
  | 0, _, _ => none
  | m + 1, v2_2, v2_3 => f96_2b k (f96_2d k x2 v2_0 v2_1 m) x2 v2_0 v2_1 v2_2 v2_3
theorem f96_2x {R : Type} : ∃ f, f = @f96_2d R := ⟨_, rfl⟩
noncomputable def f96_2 {R : Type} := Classical.choose (f96_2x (R := R))
theorem f96_2_def {R : Type} : @f96_2 R = @f96_2d R := Classical.choose_spec f96_2x
noncomputable def f96d {R : Type} (k : Nat) (a0 : List (List Int)) (K : List Int → Option R) : Option R := match k with
  | 0 => none
  | k + 1 => (f96_0 k (fun y0_0_1 => (f101 k y0_0_1 (fun r20481_0 => (f96_2 k (fun y2_2_0 => (K y2_2_0)) a0 (a0.length : Int) k (0 : Int) r20481_0)))) a0 a0 (a0.length : Int) k (0 : Int) (0 : Int))
theorem f96x {R : Type} : ∃ f, f = @f96d R := ⟨_, rfl⟩
noncomputable def f96 {R : Type} := Classical.choose (f96x (R := R))
theorem f96_def {R : Type} : @f96 R = @f96d R := Classical.choose_spec f96x
noncomputable def f83_0b {R : Type} (k : Nat) (rec : Int → Int → Option R) (x0 : Int → Option R) (v0_1 : Int) (v0_3 : List Int) (v0_0 : Int) (v0_2 : Int) : Option R :=
  (bif decide (v0_2 < v0_1) then (bif (decide ((0 : Int) ≤ v0_2) && decide (v0_2 < (v0_3.length : Int))) then (rec (IntKind.u64.wrap ((bits .xor .u64 v0_0 (IntKind.u64.wrap (v0_3.getD (Int.toNat v0_2) (0 : Int)))) * (1099511628211 : Int))) (IntKind.i64.wrap (v0_2 + (1 : Int)))) else none) else (x0 v0_0))
noncomputable def f83_0d {R : Type} (k : Nat) (x0 : Int → Option R) (v0_1 : Int) (v0_3 : List Int) : Nat → Int → Int → Option R
  | 0, _, _ => none
  | m + 1, v0_0, v0_2 => f83_0b k (f83_0d k x0 v0_1 v0_3 m) x0 v0_1 v0_3 v0_0 v0_2
theorem f83_0x {R : Type} : ∃ f, f = @f83_0d R := ⟨_, rfl⟩
noncomputable def f83_0 {R : Type} := Classical.choose (f83_0x (R := R))
theorem f83_0_def {R : Type} : @f83_0 R = @f83_0d R := Classical.choose_spec f83_0x
noncomputable def f83d {R : Type} (k : Nat) (a0 : Int) (a1 : List Int) (K : Int → Option R) : Option R := match k with
  | 0 => none
  | k + 1 => (f82 k (IntKind.u64.wrap a0) (fun r4098_0 => (f96 k ([r4098_0, a1, r4098_0] : List (List Int)) (fun r8196_0 => (f83_0 k (fun y0_0_0 => (K y0_0_0)) (r8196_0.length : Int) r8196_0 k (14695981039346656037 : Int) (0 : Int))))))
theorem f83x {R : Type} : ∃ f, f = @f83d R := ⟨_, rfl⟩
noncomputable def f83 {R : Type} := Classical.choose (f83x (R := R))
theorem f83_def {R : Type} : @f83 R = @f83d R := Classical.choose_spec f83x
noncomputable def f49d {R : Type} (k : Nat) (a0 : Int) (a1 : Int) (a2 : List Int) (K : Int → List Int → Option R) : Option R := match k with
  | 0 => none
  | k + 1 => (f74 k a0 (0 : Int) (1000000000000000 : Int) (fun r4097_0 => (f74 k a1 (0 : Int) (1000000000 : Int) (fun r4099_0 => (f70 k a2 (fun r4101_0 => (f65 k ([r4097_0, r4099_0, r4101_0] : List Int) (fun r4103_0 => (bif (r4103_0 != (0 : Int)) then (K r4103_0 ([] : List Int)) else (f82 k (IntKind.u64.wrap a1) (fun r10242_0 => (bif decide (r10242_0.length + a2.length ≤ LIM 1) then (f83 k a0 (r10242_0 ++ a2) (fun r12291_0 => (f82 k r12291_0 (fun r12292_0 => (bif decide ((r10242_0 ++ a2).length + r12292_0.length ≤ LIM 1) then (K (0 : Int) ((r10242_0 ++ a2) ++ r12292_0)) else none))))) else none))))))))))))
theorem f49x {R : Type} : ∃ f, f = @f49d R := ⟨_, rfl⟩
noncomputable def f49 {R : Type} := Classical.choose (f49x (R := R))
theorem f49_def {R : Type} : @f49 R = @f49d R := Classical.choose_spec f49x
noncomputable def f97_0b {R : Type} (k : Nat) (rec : Int → Int → Option R) (x0 : Int → Option R) (v0_1 : List Int) (v0_2 : Int) (v0_0 : Int) (v0_3 : Int) : Option R :=
  (bif decide (v0_3 < v0_2) then (bif (decide ((0 : Int) ≤ v0_3) && decide (v0_3 < (v0_1.length : Int))) then (rec (bits .or .u64 (IntKind.u64.wrap (v0_0 * 2 ^ 8)) (IntKind.u64.wrap (v0_1.getD (Int.toNat v0_3) (0 : Int)))) (IntKind.i64.wrap (v0_3 + (1 : Int)))) else none) else (x0 v0_0))
noncomputable def f97_0d {R : Type} (k : Nat) (x0 : Int → Option R) (v0_1 : List Int) (v0_2 : Int) : Nat → Int → Int → Option R
  | 0, _, _ => none
  | m + 1, v0_0, v0_3 => f97_0b k (f97_0d k x0 v0_1 v0_2 m) x0 v0_1 v0_2 v0_0 v0_3
theorem f97_0x {R : Type} : ∃ f, f = @f97_0d R := ⟨_, rfl⟩
noncomputable def f97_0 {R : Type} := Classical.choose (f97_0x (R := R))
theorem f97_0_def {R : Type} : @f97_0 R = @f97_0d R := Classical.choose_spec f97_0x
noncomputable def f97d {R : Type} (k : Nat) (a0 : List Int) (K : Int → Option R) : Option R := match k with
  | 0 => none
  | k + 1 => (bif decide ((8 : Int) ≤ (a0.length : Int)) then (f97_0 k (fun y0_0_0 => (K y0_0_0)) (a0.take 8) ((a0.take 8).length : Int) k (0 : Int) (0 : Int)) else none)
theorem f97x {R : Type} : ∃ f, f = @f97d R := ⟨_, rfl⟩
noncomputable def f97 {R : Type} := Classical.choose (f97x (R := R))
theorem f97_def {R : Type} : @f97 R = @f97d R := Classical.choose_spec f97x
noncomputable def f85_0b {R : Type} (k : Nat) (rec : Int → Option R) (K : Int → Option R) (x0 : Option R) (v0_0 : List Int) (v0_1 : Int) (v0_2 : Int) (v0_3 : Int) : Option R :=
  (bif decide (v0_3 < v0_2) then (bif (decide ((0 : Int) ≤ v0_3) && decide (v0_3 < (v0_0.length : Int))) then (bif (v0_1 == (v0_0.getD (Int.toNat v0_3) (0 : Int))) then (K v0_3) else (rec (IntKind.i64.wrap (v0_3 + (1 : Int))))) else none) else x0)
noncomputable def f85_0d {R : Type} (k : Nat) (K : Int → Option R) (x0 : Option R) (v0_0 : List Int) (v0_1 : Int) (v0_2 : Int) : Nat → Int → Option R
  | 0, _ => none
  | m + 1, v0_3 => f85_0b k (f85_0d k K x0 v0_0 v0_1 v0_2 m) K x0 v0_0 v0_1 v0_2 v0_3
theorem f85_0x {R : Type} : ∃ f, f = @f85_0d R := ⟨_, rfl⟩
noncomputable def f85_0 {R : Type} := Classical.choose (f85_0x (R := R))
theorem f85_0_def {R : Type} : @f85_0 R = @f85_0d R := Classical.choose_spec f85_0x
noncomputable def f85d {R : Type} (k : Nat) (a0 : List Int) (a1 : Int) (K : Int → Option R) : Option R := match k with
  | 0 => none
  | k + 1 => (f85_0 k K (K (-1 : Int)) a0 a1 (a0.length : Int) k (0 : Int))
theorem f85x {R : Type} : ∃ f, f = @f85d R := ⟨_, rfl⟩
noncomputable def f85 {R : Type} := Classical.choose (f85x (R := R))
theorem f85_def {R : Type} : @f85 R = @f85d R := Classical.choose_spec f85x
noncomputable def f51d {R : Type} (k : Nat) (a0 : List Int) (a1 : Int) (K : Bool → Option R) : Option R := match k with
  | 0 => none
  | k + 1 => (f85 k a0 a1 (fun r4098_0 => (K (decide (r4098_0 ≥ (0 : Int))))))
theorem f51x {R : Type} : ∃ f, f = @f51d R := ⟨_, rfl⟩
noncomputable def f51 {R : Type} := Classical.choose (f51x (R := R))
theorem f51_def {R : Type} : @f51 R = @f51d R := Classical.choose_spec f51x
noncomputable def f86d {R : Type} (k : Nat) (a0 : List Int) (K : List Int → Option R) : Option R := match k with
  | 0 => none
  | _ + 1 => bif decide (a0.length ≤ LIM 8) then K a0 else none
theorem f86x {R : Type} : ∃ f, f = @f86d R := ⟨_, rfl⟩
noncomputable def f86 {R : Type} := Classical.choose (f86x (R := R))
theorem f86_def {R : Type} : @f86 R = @f86d R := Classical.choose_spec f86x
noncomputable def f102d {R : Type} (k : Nat) (a0 : List Int) (K : List Int → Option R) : Option R := match k with
  | 0 => none
  | _ + 1 => bif sortIOk a0 then K (sortI a0) else none
theorem f102x {R : Type} : ∃ f, f = @f102d R := ⟨_, rfl⟩
noncomputable def f102 {R : Type} := Classical.choose (f102x (R := R))
theorem f102_def {R : Type} : @f102 R = @f102d R := Classical.choose_spec f102x
noncomputable def f98_0b {R : Type} (k : Nat) (rec : Int → List Int → Option R) (x0 : Int → List Int → Option R) (v0_0 : Int) (v0_2 : List Int) (v0_3 : Int) (v0_4 : Int) (v0_1 : Int) (v0_5 : List Int) : Option R :=
  (bif (decide ((v0_5.length : Int) > (0 : Int)) == true) then (bif decide ((0 : Int) < (v0_5.length : Int)) then (bif ((v0_5.getD 0 (0 : Int)) == v0_1) then (bif decide ((1 : Int) ≤ (v0_5.length : Int)) then (rec (IntKind.i64.wrap (v0_1 + (1 : Int))) ((v0_5.drop 1).take (v0_5.length - 1))) else none) else (x0 v0_1 v0_5)) else none) else (x0 v0_1 v0_5))
noncomputable def f98_0d {R : Type} (k : Nat) (x0 : Int → List Int → Option R) (v0_0 : Int) (v0_2 : List Int) (v0_3 : Int) (v0_4 : Int) : Nat → Int → List Int → Option R
  | 0, _, _ => none
  | m + 1, v0_1, v0_5 => f98_0b k (f98_0d k x0 v0_0 v0_2 v0_3 v0_4 m) x0 v0_0 v0_2 v0_3 v0_4 v0_1 v0_5
theorem f98_0x {R : Type} : ∃ f, f = @f98_0d R := ⟨_, rfl⟩
noncomputable def f98_0 {R : Type} := Classical.choose (f98_0x (R := R))
theorem f98_0_def {R : Type} : @f98_0 R = @f98_0d R := Classical.choose_spec f98_0x
noncomputable def f98d {R : Type} (k : Nat) (a0 : Int) (a1 : Int) (a2 : List Int) (a3 : Int) (K : Int → Int → List Int → Option R) : Option R := match k with
  | 0 => none
  | k + 1 => (f86 k a2 (fun r4098_0 => (bif decide (r4098_0.length + ([a3] : List Int).length ≤ LIM 8) then (f102 k (r4098_0 ++ ([a3] : List Int)) (fun r6145_0 => (bif (decide (r6145_0.length = (r4098_0 ++ ([a3] : List Int)).length) && true) then (f98_0 k (fun y0_0_1 y0_0_5 => (f86 k y0_0_5 (fun r12289_0 => (K a0 y0_0_1 r12289_0)))) a0 a2 (0 : Int) (0 : Int) k a1 r6145_0) else none))) else none)))
theorem f98x {R : Type} : ∃ f, f = @f98d R := ⟨_, rfl⟩
noncomputable def f98 {R : Type} := Classical.choose (f98x (R := R))
theorem f98_def {R : Type} : @f98 R = @f98d R := Classical.choose_spec f98x
noncomputable def f59d {R : Type} (k : Nat) (a0 : List Int) (K : List Int → Option R) : Option R := match k with
  | 0 => none
  | _ + 1 => bif decide (a0.length ≤ LIM 1) then K a0 else none
theorem f59x {R : Type} : ∃ f, f = @f59d R := ⟨_, rfl⟩
noncomputable def f59 {R : Type} := Classical.choose (f59x (R := R))
theorem f59_def {R : Type} : @f59 R = @f59d R := Classical.choose_spec f59x
noncomputable def f84d {R : Type} (k : Nat) (a0 : Int) (a1 : Int) (a2 : List Int) (a3 : List Int) (K : Int → Int → Int → Int → List Int → List Int → Option R) : Option R := match k with
  | 0 => none
  | k + 1 => (bif decide ((a3.length : Int) ≤ (16 : Int)) then (K (0 : Int) (0 : Int) (0 : Int) (9 : Int) ([] : List Int) ([] : List Int)) else (bif decide ((a3.length : Int) > (216 : Int)) then (K (0 : Int) (0 : Int) (0 : Int) (2 : Int) ([] : List Int) ([] : List Int)) else (bif (decide ((0 : Int) ≤ IntKind.i64.wrap ((a3.length : Int) - (8 : Int))) && decide (IntKind.i64.wrap ((a3.length : Int) - (8 : Int)) ≤ (a3.length : Int))) then (f83 k a0 (a3.take (Int.toNat (IntKind.i64.wrap ((a3.length : Int) - (8 : Int))))) (fun r14341_0 => (bif (decide ((0 : Int) ≤ IntKind.i64.wrap ((a3.length : Int) - (8 : Int))) && decide (IntKind.i64.wrap ((a3.length : Int) - (8 : Int)) ≤ (a3.length : Int))) then (f97 k (a3.drop (Int.toNat (IntKind.i64.wrap ((a3.length : Int) - (8 : Int))))) (fun r14345_0 => (bif (r14341_0 != r14345_0) then (K (0 : Int) (0 : Int) (0 : Int) (15 : Int) ([] : List Int) ([] : List Int)) else (f97 k a3 (fun r18433_0 => (bif decide (r18433_0 > (1000000000 : Int)) then (K (0 : Int) (0 : Int) (0 : Int) (1 : Int) ([] : List Int) ([] : List Int)) else (bif (decide (IntKind.i64.wrap r18433_0 < a1) == false) then (f51 k a2 (IntKind.i64.wrap r18433_0) (fun r26632_0 => (bif r26632_0 then (K (0 : Int) (0 : Int) (0 : Int) (7 : Int) ([] : List Int) ([] : List Int)) else (bif decide (IntKind.i64.wrap r18433_0 > IntKind.i64.wrap (a1 + (64 : Int))) then (K (0 : Int) (0 : Int) (0 : Int) (11 : Int) ([] : List Int) ([] : List Int)) else (f98 k a0 a1 a2 (IntKind.i64.wrap r18433_0) (fun r34818_0 r34818_1 r34818_2 => (bif (decide ((8 : Int) ≤ IntKind.i64.wrap ((a3.length : Int) - (8 : Int))) && decide (IntKind.i64.wrap ((a3.length : Int) - (8 : Int)) ≤ (a3.length : Int))) then (f59 k ((a3.take (Int.toNat (IntKind.i64.wrap ((a3.length : Int) - (8 : Int))))).drop 8) (fun r34822_0 => (K r34818_0 r34818_1 (IntKind.i64.wrap r18433_0) (0 : Int) r34818_2 r34822_0))) else none))))))) else (K (0 : Int) (0 : Int) (0 : Int) (7 : Int) ([] : List Int) ([] : List Int))))))))) else none))) else none)))
theorem f84x {R : Type} : ∃ f, f = @f84d R := ⟨_, rfl⟩
noncomputable def f84 {R : Type} := Classical.choose (f84x (R := R))
theorem f84_def {R : Type} : @f84 R = @f84d R := Classical.choose_spec f84x
noncomputable def f50d {R : Type} (k : Nat) (a0 : Int) (a1 : Int) (a2 : List Int) (a3 : List Int) (K : Int → Int → Int → Int → List Int → List Int → Option R) : Option R := match k with
  | 0 => none
  | k + 1 => (f48 k a0 a1 a2 (fun r4097_0 => (bif (r4097_0 != (0 : Int)) then (K (0 : Int) (0 : Int) (0 : Int) r4097_0 ([] : List Int) ([] : List Int)) else (f84 k a0 a1 a2 a3 (fun r10242_0 r10242_1 r10242_2 r10242_3 r10242_4 r10242_5 => (K r10242_0 r10242_1 r10242_2 r10242_3 r10242_4 r10242_5))))))
theorem f50x {R : Type} : ∃ f, f = @f50d R := ⟨_, rfl⟩
noncomputable def f50 {R : Type} := Classical.choose (f50x (R := R))
theorem f50_def {R : Type} : @f50 R = @f50d R := Classical.choose_spec f50x
noncomputable def f12d {R : Type} (k : Nat) (a0 : Int) (a1 : Int) (a2 : List Int) (a3 : Int) (a4 : List Int) (K : Bool → Option R) : Option R := match k with
  | 0 => none
  | k + 1 => (f48 k a0 a1 a2 (fun r4097_0 => (bif (r4097_0 != (0 : Int)) then (f21 k (fun r6144_0 => (K r6144_0))) else (f49 k a0 a3 a4 (fun r8196_0 r8196_1 => (bif (r8196_0 != (0 : Int)) then (bif (((r8196_1.length : Int) == (0 : Int)) == true) then (f21 k (fun r12292_0 => (K r12292_0))) else (K false)) else (f50 k a0 a1 a2 r8196_1 (fun r14338_0 r14338_1 r14338_2 r14338_3 r14338_4 r14338_5 => (bif (decide (a3 ≥ a1) == true) then (bif (decide (a3 ≤ IntKind.i64.wrap (a1 + (64 : Int))) == true) then (f51 k a2 a3 (fun r16399_0 => (bif (!(!r16399_0)) then (bif ((r14338_3 != (0 : Int)) == true) then (f21 k (fun r20483_0 => (K r20483_0))) else (K false)) else (bif ((r14338_3 != (0 : Int)) == false) then (bif ((r14338_2 != a3) == false) then (f24 k r14338_5 a4 (fun r22538_0 => (bif ((!r22538_0) == false) then (f48 k r14338_0 r14338_1 r14338_4 (fun r22543_0 => (bif (r22543_0 != (0 : Int)) then (K false) else (f50 k r14338_0 r14338_1 r14338_4 r8196_1 (fun r26626_0 r26626_1 r26626_2 r26626_3 r26626_4 r26626_5 => (bif ((r26626_3 == (7 : Int)) == true) then (f21 k (fun r28675_0 => (K r28675_0))) else (K false))))))) else (K false)))) else (K false)) else (K false))))) else (bif ((r14338_3 != (0 : Int)) == true) then (f21 k (fun r20483_0 => (K r20483_0))) else (K false))) else (bif ((r14338_3 != (0 : Int)) == true) then (f21 k (fun r20483_0 => (K r20483_0))) else (K false)))))))))))
theorem f12x {R : Type} : ∃ f, f = @f12d R := ⟨_, rfl⟩
noncomputable def f12 {R : Type} := Classical.choose (f12x (R := R))
theorem f12_def {R : Type} : @f12 R = @f12d R := Classical.choose_spec f12x
noncomputable def f47_1000003d {R : Type} (k : Nat) (xN : Int → Option R) (v3_0 : Int) (v3_1 : Int) (v3_2 : Bool) : Option R :=
  (bif v3_2 then (xN (IntKind.i64.wrap (v3_0 + v3_1))) else (xN v3_0))
theorem f47_1000003x {R : Type} : ∃ f, f = @f47_1000003d R := ⟨_, rfl⟩
noncomputable def f47_1000003 {R : Type} := Classical.choose (f47_1000003x (R := R))
theorem f47_1000003_def {R : Type} : @f47_1000003 R = @f47_1000003d R := Classical.choose_spec f47_1000003x
noncomputable def f47d {R : Type} (k : Nat) (a0 : Int) (a1 : Int) (K : Int → Option R) : Option R := match k with
  | 0 => none
  | k + 1 => (bif (!(a1 == 0)) then (f47_1000003 k (fun y3_N_0 => (K y3_N_0)) (Int.tmod a0 a1) a1 (decide (Int.tmod a0 a1 < (0 : Int)))) else none)
theorem f47x {R : Type} : ∃ f, f = @f47d R := ⟨_, rfl⟩
noncomputable def f47 {R : Type} := Classical.choose (f47x (R := R))
theorem f47_def {R : Type} : @f47 R = @f47d R := Classical.choose_spec f47x
noncomputable def f52_1000014d {R : Type} (k : Nat) (xN : Int → Int → List Int → List (List Int) → Option R) (v14_0 : Int) (v14_1 : List (List Int)) (v14_2 : Int) (v14_3 : Int) (v14_4 : Bool) (v14_5 : Int) (v14_6 : Int) (v14_7 : List Int) (v14_8 : Int) (v14_9 : Int) (v14_10 : List (List Int)) (v14_11 : List Int) (v14_12 : Int) (v14_13 : Int) (v14_14 : List Int) (v14_15 : List Int) : Option R :=
  (bif v14_4 then (bif decide (v14_10.length + ([v14_15] : List (List Int)).length ≤ LIM 24) then (xN v14_12 v14_13 v14_14 (v14_10 ++ ([v14_15] : List (List Int)))) else none) else (xN v14_5 v14_6 v14_7 v14_10))
theorem f52_1000014x {R : Type} : ∃ f, f = @f52_1000014d R := ⟨_, rfl⟩
noncomputable def f52_1000014 {R : Type} := Classical.choose (f52_1000014x (R := R))
theorem f52_1000014_def {R : Type} : @f52_1000014 R = @f52_1000014d R := Classical.choose_spec f52_1000014x
noncomputable def f52_0b {R : Type} (k : Nat) (rec : Int → Int → Int → List Int → List (List Int) → List Int → Option R) (x0 : Int → Int → List Int → List (List Int) → List Int → Option R) (v0_0 : List (List Int)) (v0_1 : Int) (v0_6 : Int) (v0_7 : Int) (v0_2 : Int) (v0_3 : Int) (v0_4 : Int) (v0_5 : List Int) (v0_8 : List (List Int)) (v0_9 : List Int) : Option R :=
  (bif decide (v0_2 < v0_1) then (bif (decide ((0 : Int) ≤ v0_2) && decide (v0_2 < (v0_0.length : Int))) then (f84 k v0_3 v0_4 v0_5 (v0_0.getD (Int.toNat v0_2) ([] : List Int)) (fun r26626_0 r26626_1 r26626_2 r26626_3 r26626_4 r26626_5 => (f52_1000014 k (fun y14_N_4 y14_N_5 y14_N_6 y14_N_9 => (bif decide (v0_9.length + ([r26626_3] : List Int).length ≤ LIM 8) then (rec (IntKind.i64.wrap (v0_2 + (1 : Int))) y14_N_4 y14_N_5 y14_N_6 y14_N_9 (v0_9 ++ ([r26626_3] : List Int))) else none)) r26626_3 v0_0 v0_1 v0_2 (r26626_3 == (0 : Int)) v0_3 v0_4 v0_5 v0_6 v0_7 v0_8 v0_9 r26626_0 r26626_1 r26626_4 r26626_5))) else none) else (x0 v0_3 v0_4 v0_5 v0_8 v0_9))
noncomputable def f52_0d {R : Type} (k : Nat) (x0 : Int → Int → List Int → List (List Int) → List Int → Option R) (v0_0 : List (List Int)) (v0_1 : Int) (v0_6 : Int) (v0_7 : Int) : Nat → Int → Int → Int → List Int → List (List Int) → List Int → Option R
  | 0, _, _, _, _, _, _ => none
  | m + 1, v0_2, v0_3, v0_4, v0_5, v0_8, v0_9 => f52_0b k (f52_0d k x0 v0_0 v0_1 v0_6 v0_7 m) x0 v0_0 v0_1 v0_6 v0_7 v0_2 v0_3 v0_4 v0_5 v0_8 v0_9
theorem f52_0x {R : Type} : ∃ f, f = @f52_0d R := ⟨_, rfl⟩
noncomputable def f52_0 {R : Type} := Classical.choose (f52_0x (R := R))
theorem f52_0_def {R : Type} : @f52_0 R = @f52_0d R := Classical.choose_spec f52_0x
noncomputable def f52d {R : Type} (k : Nat) (a0 : Int) (a1 : Int) (a2 : List Int) (a3 : List (List Int)) (K : Int → Int → Int → List Int → List (List Int) → List Int → Option R) : Option R := match k with
  | 0 => none
  | k + 1 => (f48 k a0 a1 a2 (fun r4097_0 => (bif (r4097_0 != (0 : Int)) then (K (0 : Int) (0 : Int) r4097_0 ([] : List Int) ([] : List (List Int)) ([] : List Int)) else (bif decide ((a3.length : Int) > (2000 : Int)) then (K (0 : Int) (0 : Int) (2 : Int) ([] : List Int) ([] : List (List Int)) ([] : List Int)) else (f86 k a2 (fun r14338_0 => (f52_0 k (fun y0_0_0 y0_0_1 y0_0_2 y0_0_5 y0_0_6 => (K y0_0_0 y0_0_1 (0 : Int) y0_0_2 y0_0_5 y0_0_6)) a3 (a3.length : Int) (0 : Int) (0 : Int) k (0 : Int) a0 a1 r14338_0 ([] : List (List Int)) ([] : List Int))))))))
theorem f52x {R : Type} : ∃ f, f = @f52d R := ⟨_, rfl⟩
noncomputable def f52 {R : Type} := Classical.choose (f52x (R := R))
theorem f52_def {R : Type} : @f52 R = @f52d R := Classical.choose_spec f52x
noncomputable def f13_1000012d {R : Type} (k : Nat) (xN : List (List Int) → List Int → Option R) (v12_0 : Int) (v12_1 : List Int) (v12_2 : Int) (v12_3 : Int) (v12_4 : Bool) (v12_5 : Int) (v12_6 : Int) (v12_7 : List Int) (v12_8 : List (List Int)) (v12_9 : List Int) (v12_10 : List Int) : Option R :=
  (bif v12_4 then (bif decide (v12_8.length + ([v12_10] : List (List Int)).length ≤ LIM 24) then (bif decide (v12_9.length + ([v12_0] : List Int).length ≤ LIM 8) then (xN (v12_8 ++ ([v12_10] : List (List Int))) (v12_9 ++ ([v12_0] : List Int))) else none) else none) else (xN v12_8 v12_9))
theorem f13_1000012x {R : Type} : ∃ f, f = @f13_1000012d R := ⟨_, rfl⟩
noncomputable def f13_1000012 {R : Type} := Classical.choose (f13_1000012x (R := R))
theorem f13_1000012_def {R : Type} : @f13_1000012 R = @f13_1000012d R := Classical.choose_spec f13_1000012x
noncomputable def f13_0b {R : Type} (k : Nat) (rec : Int → List (List Int) → List Int → Option R) (x0 : List (List Int) → List Int → Option R) (v0_0 : List Int) (v0_1 : Int) (v0_3 : Int) (v0_4 : Int) (v0_5 : List Int) (v0_2 : Int) (v0_6 : List (List Int)) (v0_7 : List Int) : Option R :=
  (bif decide (v0_2 < v0_1) then (bif (decide ((0 : Int) ≤ v0_2) && decide (v0_2 < (v0_0.length : Int))) then (bif decide (v0_2 ≥ (100 : Int)) then (x0 v0_6 v0_7) else (f47 k (v0_0.getD (Int.toNat v0_2) (0 : Int)) (128 : Int) (fun r20483_0 => (f49 k v0_3 (IntKind.i64.wrap (v0_4 + r20483_0)) ([(1 : Int), IntKind.u8.wrap (IntKind.i64.wrap (v0_4 + r20483_0))] : List Int) (fun r22534_0 r22534_1 => (f13_1000012 k (fun y12_N_6 y12_N_7 => (rec (IntKind.i64.wrap (v0_2 + (1 : Int))) y12_N_6 y12_N_7)) (IntKind.i64.wrap (v0_4 + r20483_0)) v0_0 v0_1 v0_2 (r22534_0 == (0 : Int)) v0_3 v0_4 v0_5 v0_6 v0_7 r22534_1)))))) else none) else (x0 v0_6 v0_7))
noncomputable def f13_0d {R : Type} (k : Nat) (x0 : List (List Int) → List Int → Option R) (v0_0 : List Int) (v0_1 : Int) (v0_3 : Int) (v0_4 : Int) (v0_5 : List Int) : Nat → Int → List (List Int) → List Int → Option R
  | 0, _, _, _ => none
  | m + 1, v0_2, v0_6, v0_7 => f13_0b k (f13_0d k x0 v0_0 v0_1 v0_3 v0_4 v0_5 m) x0 v0_0 v0_1 v0_3 v0_4 v0_5 v0_2 v0_6 v0_7
theorem f13_0x {R : Type} : ∃ f, f = @f13_0d R := ⟨_, rfl⟩
noncomputable def f13_0 {R : Type} := Classical.choose (f13_0x (R := R))
theorem f13_0_def {R : Type} : @f13_0 R = @f13_0d R := Classical.choose_spec f13_0x
noncomputable def f13_3d {R : Type} (k : Nat) (x3 : List Int → Option R) (K : Bool → Option R) (v3_0 : Int) (v3_1 : Int) (v3_2 : Int) (v3_3 : Int) (v3_4 : List Int) (v3_5 : List Int) (v3_6 : List (List Int)) (v3_7 : List Int) (v3_8 : List Int) : Option R :=
  (bif (decide ((0 : Int) ≤ v3_1) && decide (v3_1 < (v3_8.length : Int))) then (bif ((v3_8.getD (Int.toNat v3_1) (0 : Int)) != (0 : Int)) then (x3 v3_7) else (bif (decide ((0 : Int) ≤ v3_1) && decide (v3_1 < (v3_5.length : Int))) then (f51 k v3_7 (v3_5.getD (Int.toNat v3_1) (0 : Int)) (fun r47109_0 => (bif (r47109_0 == false) then (bif (decide ((0 : Int) ≤ v3_1) && decide (v3_1 < (v3_5.length : Int))) then (f51 k v3_4 (v3_5.getD (Int.toNat v3_1) (0 : Int)) (fun r47117_0 => (bif r47117_0 then (K false) else (bif (decide ((0 : Int) ≤ v3_1) && decide (v3_1 < (v3_5.length : Int))) then (bif decide (v3_7.length + ([(v3_5.getD (Int.toNat v3_1) (0 : Int))] : List Int).length ≤ LIM 8) then (x3 (v3_7 ++ ([(v3_5.getD (Int.toNat v3_1) (0 : Int))] : List Int))) else none) else none)))) else none) else (K false)))) else none)) else none)
theorem f13_3x {R : Type} : ∃ f, f = @f13_3d R := ⟨_, rfl⟩
noncomputable def f13_3 {R : Type} := Classical.choose (f13_3x (R := R))
theorem f13_3_def {R : Type} : @f13_3 R = @f13_3d R := Classical.choose_spec f13_3x
noncomputable def f13_2b {R : Type} (k : Nat) (rec : Int → List Int → Option R) (K : Bool → Option R) (x2 : List Int → Option R) (v2_0 : Int) (v2_2 : Int) (v2_3 : Int) (v2_4 : List Int) (v2_5 : List Int) (v2_6 : List (List Int)) (v2_8 : List Int) (v2_1 : Int) (v2_7 : List Int) : Option R :=
  (bif decide (v2_1 < v2_0) then (f13_3 k (fun y3_3_7 => (rec (IntKind.i64.wrap (v2_1 + (1 : Int))) y3_3_7)) K v2_0 v2_1 v2_2 v2_3 v2_4 v2_5 v2_6 v2_7 v2_8) else (x2 v2_7))
noncomputable def f13_2d {R : Type} (k : Nat) (K : Bool → Option R) (x2 : List Int → Option R) (v2_0 : Int) (v2_2 : Int) (v2_3 : Int) (v2_4 : List Int) (v2_5 : List Int) (v2_6 : List (List Int)) (v2_8 : List Int) : Nat → Int → List Int → Option R
  | 0, _, _ => none
  | m + 1, v2_1, v2_7 => f13_2b k (f13_2d k K x2 v2_0 v2_2 v2_3 v2_4 v2_5 v2_6 v2_8 m) K x2 v2_0 v2_2 v2_3 v2_4 v2_5 v2_6 v2_8 v2_1 v2_7
theorem f13_2x {R : Type} : ∃ f, f = @f13_2d R := ⟨_, rfl⟩
noncomputable def f13_2 {R : Type} := Classical.choose (f13_2x (R := R))
theorem f13_2_def {R : Type} : @f13_2 R = @f13_2d R := Classical.choose_spec f13_2x
noncomputable def f13d {R : Type} (k : Nat) (a0 : Int) (a1 : Int) (a2 : List Int) (a3 : List Int) (K : Bool → Option R) : Option R := match k with
  | 0 => none
  | k + 1 => (f48 k a0 a1 a2 (fun r4097_0 => (bif (r4097_0 != (0 : Int)) then (f21 k (fun r6144_0 => (K r6144_0))) else (f13_0 k (fun y0_0_3 y0_0_4 => (f52 k a0 a1 a2 y0_0_3 (fun r30722_0 r30722_1 r30722_2 r30722_3 r30722_4 r30722_5 => (bif ((r30722_2 != (0 : Int)) == false) then (bif ((r30722_5.length : Int) != (y0_0_3.length : Int)) then (K false) else (f13_2 k K (fun y2_2_1 => (bif (((r30722_4.length : Int) == (y2_2_1.length : Int)) == true) then (f21 k (fun r55302_0 => (K r55302_0))) else (K false))) (r30722_5.length : Int) a0 a1 a2 y0_0_4 r30722_4 r30722_5 k (0 : Int) ([] : List Int))) else (K false))))) a3 (a3.length : Int) a0 a1 a2 k (0 : Int) ([] : List (List Int)) ([] : List Int)))))
theorem f13x {R : Type} : ∃ f, f = @f13d R := ⟨_, rfl⟩
noncomputable def f13 {R : Type} := Classical.choose (f13x (R := R))
theorem f13_def {R : Type} : @f13 R = @f13d R := Classical.choose_spec f13x
noncomputable def f63d {R : Type} (k : Nat) (a0 : Int) (a1 : Int) (a2 : Int) (K : Bool → Option R) : Option R := match k with
  | 0 => none
  | k + 1 => (bif (decide (a1 ≤ a0) == true) then (K (decide (a0 ≤ a2))) else (K false))
theorem f63x {R : Type} : ∃ f, f = @f63d R := ⟨_, rfl⟩
noncomputable def f63 {R : Type} := Classical.choose (f63x (R := R))
theorem f63_def {R : Type} : @f63 R = @f63d R := Classical.choose_spec f63x
noncomputable def f57_0b {R : Type} (k : Nat) (rec : Int → Option R) (K : Int → Option R) (x0 : Option R) (v0_0 : List Int) (v0_1 : Int) (v0_3 : Int) (v0_4 : Int) (v0_5 : List Int) (v0_2 : Int) : Option R :=
  (bif decide (v0_2 < v0_1) then (bif (decide ((0 : Int) ≤ v0_2) && decide (v0_2 < (v0_0.length : Int))) then (f63 k (v0_0.getD (Int.toNat v0_2) (0 : Int)) (IntKind.i64.wrap (v0_4 + (1 : Int))) (if (1000000000 : Int) < IntKind.i64.wrap (v0_4 + (64 : Int)) then (1000000000 : Int) else IntKind.i64.wrap (v0_4 + (64 : Int))) (fun r18440_0 => (bif (!r18440_0) then (K (1 : Int)) else (bif (decide (v0_2 > (0 : Int)) == true) then (bif (decide ((0 : Int) ≤ IntKind.i64.wrap (v0_2 - (1 : Int))) && decide (IntKind.i64.wrap (v0_2 - (1 : Int)) < (v0_5.length : Int))) then (bif decide ((v0_0.getD (Int.toNat v0_2) (0 : Int)) ≤ (v0_5.getD (Int.toNat (IntKind.i64.wrap (v0_2 - (1 : Int)))) (0 : Int))) then (K (8 : Int)) else (rec (IntKind.i64.wrap (v0_2 + (1 : Int))))) else none) else (rec (IntKind.i64.wrap (v0_2 + (1 : Int)))))))) else none) else x0)
noncomputable def f57_0d {R : Type} (k : Nat) (K : Int → Option R) (x0 : Option R) (v0_0 : List Int) (v0_1 : Int) (v0_3 : Int) (v0_4 : Int) (v0_5 : List Int) : Nat → Int → Option R
  | 0, _ => none
  | m + 1, v0_2 => f57_0b k (f57_0d k K x0 v0_0 v0_1 v0_3 v0_4 v0_5 m) K x0 v0_0 v0_1 v0_3 v0_4 v0_5 v0_2
theorem f57_0x {R : Type} : ∃ f, f = @f57_0d R := ⟨_, rfl⟩
noncomputable def f57_0 {R : Type} := Classical.choose (f57_0x (R := R))
theorem f57_0_def {R : Type} : @f57_0 R = @f57_0d R := Classical.choose_spec f57_0x
noncomputable def f57d {R : Type} (k : Nat) (a0 : Int) (a1 : Int) (a2 : List Int) (K : Int → Option R) : Option R := match k with
  | 0 => none
  | k + 1 => (f63 k a0 (0 : Int) (1000000000000000 : Int) (fun r4098_0 => (bif ((!r4098_0) == false) then (f63 k a1 (0 : Int) (1000000001 : Int) (fun r4103_0 => (bif (!r4103_0) then (K (1 : Int)) else (bif decide ((a2.length : Int) > (64 : Int)) then (K (2 : Int)) else (f57_0 k K (K (0 : Int)) a2 (a2.length : Int) a0 a1 a2 k (0 : Int)))))) else (K (1 : Int)))))
theorem f57x {R : Type} : ∃ f, f = @f57d R := ⟨_, rfl⟩
noncomputable def f57 {R : Type} := Classical.choose (f57x (R := R))
theorem f57_def {R : Type} : @f57 R = @f57d R := Classical.choose_spec f57x
noncomputable def f88_0b {R : Type} (k : Nat) (rec : Int → List Int → Option R) (x0 : List Int → Option R) (v0_0 : Int) (v0_1 : Int) (v0_2 : Int) (v0_3 : List Int) : Option R :=
  (bif decide (v0_2 < v0_1) then (bif decide ((0 : Int) ≤ IntKind.i64.wrap ((56 : Int) - (IntKind.i64.wrap ((8 : Int) * v0_2)))) then (bif (decide ((0 : Int) ≤ v0_2) && decide (v0_2 < (v0_3.length : Int))) then (rec (IntKind.i64.wrap (v0_2 + (1 : Int))) (v0_3.set (Int.toNat v0_2) (IntKind.u8.wrap (Int.fdiv v0_0 (2 ^ min (Int.toNat (IntKind.i64.wrap ((56 : Int) - (IntKind.i64.wrap ((8 : Int) * v0_2))))) 64))))) else none) else none) else (x0 v0_3))
noncomputable def f88_0d {R : Type} (k : Nat) (x0 : List Int → Option R) (v0_0 : Int) (v0_1 : Int) : Nat → Int → List Int → Option R
  | 0, _, _ => none
  | m + 1, v0_2, v0_3 => f88_0b k (f88_0d k x0 v0_0 v0_1 m) x0 v0_0 v0_1 v0_2 v0_3
theorem f88_0x {R : Type} : ∃ f, f = @f88_0d R := ⟨_, rfl⟩
noncomputable def f88_0 {R : Type} := Classical.choose (f88_0x (R := R))
theorem f88_0_def {R : Type} : @f88_0 R = @f88_0d R := Classical.choose_spec f88_0x
noncomputable def f88d {R : Type} (k : Nat) (a0 : Int) (K : List Int → Option R) : Option R := match k with
  | 0 => none
  | k + 1 => (bif decide ((8 : Int) ≤ (LIM 1 : Int)) then (f88_0 k (fun y0_0_0 => (K y0_0_0)) a0 ((List.replicate 8 (0 : Int)).length : Int) k (0 : Int) (List.replicate 8 (0 : Int))) else none)
theorem f88x {R : Type} : ∃ f, f = @f88d R := ⟨_, rfl⟩
noncomputable def f88 {R : Type} := Classical.choose (f88x (R := R))
theorem f88_def {R : Type} : @f88 R = @f88d R := Classical.choose_spec f88x
noncomputable def f89_0b {R : Type} (k : Nat) (rec : Int → Int → Option R) (x0 : Int → Option R) (v0_1 : Int) (v0_3 : List Int) (v0_0 : Int) (v0_2 : Int) : Option R :=
  (bif decide (v0_2 < v0_1) then (bif (decide ((0 : Int) ≤ v0_2) && decide (v0_2 < (v0_3.length : Int))) then (rec (IntKind.u64.wrap ((bits .xor .u64 v0_0 (IntKind.u64.wrap (v0_3.getD (Int.toNat v0_2) (0 : Int)))) * (1099511628211 : Int))) (IntKind.i64.wrap (v0_2 + (1 : Int)))) else none) else (x0 v0_0))
noncomputable def f89_0d {R : Type} (k : Nat) (x0 : Int → Option R) (v0_1 : Int) (v0_3 : List Int) : Nat → Int → Int → Option R
  | 0, _, _ => none
  | m + 1, v0_0, v0_2 => f89_0b k (f89_0d k x0 v0_1 v0_3 m) x0 v0_1 v0_3 v0_0 v0_2
theorem f89_0x {R : Type} : ∃ f, f = @f89_0d R := ⟨_, rfl⟩
noncomputable def f89_0 {R : Type} := Classical.choose (f89_0x (R := R))
theorem f89_0_def {R : Type} : @f89_0 R = @f89_0d R := Classical.choose_spec f89_0x
noncomputable def f89d {R : Type} (k : Nat) (a0 : Int) (a1 : List Int) (K : Int → Option R) : Option R := match k with
  | 0 => none
  | k + 1 => (f88 k (IntKind.u64.wrap a0) (fun r6146_0 => (f96 k ([r6146_0, a1, r6146_0] : List (List Int)) (fun r8196_0 => (f89_0 k (fun y0_0_0 => (K y0_0_0)) (r8196_0.length : Int) r8196_0 k (14695981039346656037 : Int) (0 : Int))))))
theorem f89x {R : Type} : ∃ f, f = @f89d R := ⟨_, rfl⟩
noncomputable def f89 {R : Type} := Classical.choose (f89x (R := R))
theorem f89_def {R : Type} : @f89 R = @f89d R := Classical.choose_spec f89x
noncomputable def f99_0b {R : Type} (k : Nat) (rec : Int → Int → Option R) (x0 : Int → Option R) (v0_1 : List Int) (v0_2 : Int) (v0_0 : Int) (v0_3 : Int) : Option R :=
  (bif decide (v0_3 < v0_2) then (bif (decide ((0 : Int) ≤ v0_3) && decide (v0_3 < (v0_1.length : Int))) then (rec (bits .or .u64 (IntKind.u64.wrap (v0_0 * 2 ^ 8)) (IntKind.u64.wrap (v0_1.getD (Int.toNat v0_3) (0 : Int)))) (IntKind.i64.wrap (v0_3 + (1 : Int)))) else none) else (x0 v0_0))
noncomputable def f99_0d {R : Type} (k : Nat) (x0 : Int → Option R) (v0_1 : List Int) (v0_2 : Int) : Nat → Int → Int → Option R
  | 0, _, _ => none
  | m + 1, v0_0, v0_3 => f99_0b k (f99_0d k x0 v0_1 v0_2 m) x0 v0_1 v0_2 v0_0 v0_3
theorem f99_0x {R : Type} : ∃ f, f = @f99_0d R := ⟨_, rfl⟩
noncomputable def f99_0 {R : Type} := Classical.choose (f99_0x (R := R))
theorem f99_0_def {R : Type} : @f99_0 R = @f99_0d R := Classical.choose_spec f99_0x
noncomputable def f99d {R : Type} (k : Nat) (a0 : List Int) (K : Int → Option R) : Option R := match k with
  | 0 => none
  | k + 1 => (bif decide ((8 : Int) ≤ (a0.length : Int)) then (f99_0 k (fun y0_0_0 => (K y0_0_0)) (a0.take 8) ((a0.take 8).length : Int) k (0 : Int) (0 : Int)) else none)
theorem f99x {R : Type} : ∃ f, f = @f99d R := ⟨_, rfl⟩
noncomputable def f99 {R : Type} := Classical.choose (f99x (R := R))
theorem f99_def {R : Type} : @f99 R = @f99d R := Classical.choose_spec f99x
noncomputable def f103d {R : Type} (k : Nat) (a0 : Int) (a1 a2 : List Int) (K : List Int → List Int → Option R) : Option R := match k with
  | 0 => none
  | _ + 1 => bif insOk a0 a1 a2 then K a2 (insL a0 a1 a2) else none
theorem f103x {R : Type} : ∃ f, f = @f103d R := ⟨_, rfl⟩
noncomputable def f103 {R : Type} := Classical.choose (f103x (R := R))
theorem f103_def {R : Type} : @f103 R = @f103d R := Classical.choose_spec f103x
noncomputable def f100_0b {R : Type} (k : Nat) (rec : Int → Option R) (x0 : Int → Option R) (v0_0 : Int) (v0_2 : Int) (v0_3 : Int) (v0_4 : List Int) (v0_5 : Int) (v0_6 : Int) (v0_7 : List Int) (v0_1 : Int) : Option R :=
  (bif (decide (v0_1 < (v0_7.length : Int)) == true) then (bif (decide ((0 : Int) ≤ v0_1) && decide (v0_1 < (v0_7.length : Int))) then (bif decide ((v0_7.getD (Int.toNat v0_1) (0 : Int)) < v0_0) then (rec (IntKind.i64.wrap (v0_1 + (1 : Int)))) else (x0 v0_1)) else none) else (x0 v0_1))
noncomputable def f100_0d {R : Type} (k : Nat) (x0 : Int → Option R) (v0_0 : Int) (v0_2 : Int) (v0_3 : Int) (v0_4 : List Int) (v0_5 : Int) (v0_6 : Int) (v0_7 : List Int) : Nat → Int → Option R
  | 0, _ => none
  | m + 1, v0_1 => f100_0b k (f100_0d k x0 v0_0 v0_2 v0_3 v0_4 v0_5 v0_6 v0_7 m) x0 v0_0 v0_2 v0_3 v0_4 v0_5 v0_6 v0_7 v0_1
theorem f100_0x {R : Type} : ∃ f, f = @f100_0d R := ⟨_, rfl⟩
noncomputable def f100_0 {R : Type} := Classical.choose (f100_0x (R := R))
theorem f100_0_def {R : Type} : @f100_0 R = @f100_0d R := Classical.choose_spec f100_0x
noncomputable def f100_2b {R : Type} (k : Nat) (rec : Int → List Int → Option R) (x2 : Int → List Int → Option R) (v2_0 : Int) (v2_2 : List Int) (v2_3 : Int) (v2_4 : Int) (v2_1 : Int) (v2_5 : List Int) : Option R :=
  (bif (decide ((v2_5.length : Int) > (0 : Int)) == true) then (bif decide ((0 : Int) < (v2_5.length : Int)) then (bif ((v2_5.getD 0 (0 : Int)) == v2_1) then (bif decide ((1 : Int) ≤ (v2_5.length : Int)) then (rec (IntKind.i64.wrap (v2_1 + (1 : Int))) ((v2_5.drop 1).take (v2_5.length - 1))) else none) else (x2 v2_1 v2_5)) else none) else (x2 v2_1 v2_5))
noncomputable def f100_2d {R : Type} (k : Nat) (x2 : Int → List Int → Option R) (v2_0 : Int) (v2_2 : List Int) (v2_3 : Int) (v2_4 : Int) : Nat → Int → List Int → Option R
  | 0, _, _ => none
  | m + 1, v2_1, v2_5 => f100_2b k (f100_2d k x2 v2_0 v2_2 v2_3 v2_4 m) x2 v2_0 v2_2 v2_3 v2_4 v2_1 v2_5
theorem f100_2x {R : Type} : ∃ f, f = @f100_2d R := ⟨_, rfl⟩
noncomputable def f100_2 {R : Type} := Classical.choose (f100_2x (R := R))
theorem f100_2_def {R : Type} : @f100_2 R = @f100_2d R := Classical.choose_spec f100_2x
noncomputable def f100d {R : Type} (k : Nat) (a0 : Int) (a1 : Int) (a2 : List Int) (a3 : Int) (K : Int → Int → List Int → Option R) : Option R := match k with
  | 0 => none
  | k + 1 => (f86 k a2 (fun r4098_0 => (f100_0 k (fun y0_0_1 => (f103 k y0_0_1 r4098_0 ([a3] : List Int) (fun r12292_0 r12292_1 => (bif (decide (r12292_0.length = ([a3] : List Int).length) && true) then (f100_2 k (fun y2_2_1 y2_2_5 => (K a0 y2_2_1 y2_2_5)) a0 a2 (0 : Int) (0 : Int) k a1 r12292_1) else none)))) a3 a0 a1 a2 (0 : Int) (0 : Int) r4098_0 k (0 : Int))))
theorem f100x {R : Type} : ∃ f, f = @f100d R := ⟨_, rfl⟩
noncomputable def f100 {R : Type} := Classical.choose (f100x (R := R))
theorem f100_def {R : Type} : @f100 R = @f100d R := Classical.choose_spec f100x
noncomputable def f87d {R : Type} (k : Nat) (a0 : Int) (a1 : Int) (a2 : List Int) (a3 : List Int) (K : Int → Int → Int → Int → List Int → List Int → Option R) : Option R := match k with
  | 0 => none
  | k + 1 => (bif decide ((a3.length : Int) < (17 : Int)) then (K (0 : Int) (0 : Int) (0 : Int) (9 : Int) ([] : List Int) ([] : List Int)) else (bif decide ((a3.length : Int) > (216 : Int)) then (K (0 : Int) (0 : Int) (0 : Int) (2 : Int) ([] : List Int) ([] : List Int)) else (bif (decide ((0 : Int) ≤ IntKind.i64.wrap ((a3.length : Int) - (8 : Int))) && decide (IntKind.i64.wrap ((a3.length : Int) - (8 : Int)) ≤ (a3.length : Int))) then (f89 k a0 (a3.take (Int.toNat (IntKind.i64.wrap ((a3.length : Int) - (8 : Int))))) (fun r14339_0 => (bif (decide ((0 : Int) ≤ IntKind.i64.wrap ((a3.length : Int) - (8 : Int))) && decide (IntKind.i64.wrap ((a3.length : Int) - (8 : Int)) ≤ (a3.length : Int))) then (f99 k (a3.drop (Int.toNat (IntKind.i64.wrap ((a3.length : Int) - (8 : Int))))) (fun r14345_0 => (bif (r14339_0 != r14345_0) then (K (0 : Int) (0 : Int) (0 : Int) (15 : Int) ([] : List Int) ([] : List Int)) else (f99 k (a3.take (Int.toNat (IntKind.i64.wrap ((a3.length : Int) - (8 : Int))))) (fun r18433_0 => (bif decide (r18433_0 > (1000000000 : Int)) then (K (0 : Int) (0 : Int) (0 : Int) (1 : Int) ([] : List Int) ([] : List Int)) else (bif (decide (IntKind.i64.wrap r18433_0 < a1) == false) then (f51 k a2 (IntKind.i64.wrap r18433_0) (fun r26632_0 => (bif r26632_0 then (K (0 : Int) (0 : Int) (0 : Int) (7 : Int) ([] : List Int) ([] : List Int)) else (bif decide (IntKind.i64.wrap r18433_0 > IntKind.i64.wrap (a1 + (64 : Int))) then (K (0 : Int) (0 : Int) (0 : Int) (11 : Int) ([] : List Int) ([] : List Int)) else (f100 k a0 a1 a2 (IntKind.i64.wrap r18433_0) (fun r34818_0 r34818_1 r34818_2 => (bif decide ((8 : Int) ≤ ((a3.take (Int.toNat (IntKind.i64.wrap ((a3.length : Int) - (8 : Int))))).length : Int)) then (f59 k ((a3.take (Int.toNat (IntKind.i64.wrap ((a3.length : Int) - (8 : Int))))).drop 8) (fun r34821_0 => (K r34818_0 r34818_1 (IntKind.i64.wrap r18433_0) (0 : Int) r34818_2 r34821_0))) else none))))))) else (K (0 : Int) (0 : Int) (0 : Int) (7 : Int) ([] : List Int) ([] : List Int))))))))) else none))) else none)))
theorem f87x {R : Type} : ∃ f, f = @f87d R := ⟨_, rfl⟩
noncomputable def f87 {R : Type} := Classical.choose (f87x (R := R))
theorem f87_def {R : Type} : @f87 R = @f87d R := Classical.choose_spec f87x
noncomputable def f53_1000014d {R : Type} (k : Nat) (xN : Int → Int → List Int → List (List Int) → Option R) (v14_0 : List (List Int)) (v14_1 : Int) (v14_2 : Int) (v14_3 : Bool) (v14_4 : Int) (v14_5 : Int) (v14_6 : List Int) (v14_7 : Int) (v14_8 : Int) (v14_9 : List (List Int)) (v14_10 : List Int) (v14_11 : Int) (v14_12 : Int) (v14_13 : List Int) (v14_14 : List Int) : Option R :=
  (bif v14_3 then (bif decide (v14_9.length + ([v14_14] : List (List Int)).length ≤ LIM 24) then (xN v14_11 v14_12 v14_13 (v14_9 ++ ([v14_14] : List (List Int)))) else none) else (xN v14_4 v14_5 v14_6 v14_9))
theorem f53_1000014x {R : Type} : ∃ f, f = @f53_1000014d R := ⟨_, rfl⟩
noncomputable def f53_1000014 {R : Type} := Classical.choose (f53_1000014x (R := R))
theorem f53_1000014_def {R : Type} : @f53_1000014 R = @f53_1000014d R := Classical.choose_spec f53_1000014x
noncomputable def f53_0b {R : Type} (k : Nat) (rec : Int → Int → Int → List Int → List (List Int) → List Int → Option R) (x0 : Int → Int → List Int → List (List Int) → List Int → Option R) (v0_0 : List (List Int)) (v0_1 : Int) (v0_6 : Int) (v0_7 : Int) (v0_2 : Int) (v0_3 : Int) (v0_4 : Int) (v0_5 : List Int) (v0_8 : List (List Int)) (v0_9 : List Int) : Option R :=
  (bif decide (v0_2 < v0_1) then (bif (decide ((0 : Int) ≤ v0_2) && decide (v0_2 < (v0_0.length : Int))) then (f87 k v0_3 v0_4 v0_5 (v0_0.getD (Int.toNat v0_2) ([] : List Int)) (fun r24578_0 r24578_1 r24578_2 r24578_3 r24578_4 r24578_5 => (bif decide (v0_9.length + ([r24578_3] : List Int).length ≤ LIM 8) then (f53_1000014 k (fun y14_N_3 y14_N_4 y14_N_5 y14_N_8 => (rec (IntKind.i64.wrap (v0_2 + (1 : Int))) y14_N_3 y14_N_4 y14_N_5 y14_N_8 (v0_9 ++ ([r24578_3] : List Int)))) v0_0 v0_1 v0_2 (r24578_3 == (0 : Int)) v0_3 v0_4 v0_5 v0_6 v0_7 v0_8 (v0_9 ++ ([r24578_3] : List Int)) r24578_0 r24578_1 r24578_4 r24578_5) else none))) else none) else (x0 v0_3 v0_4 v0_5 v0_8 v0_9))
noncomputable def f53_0d {R : Type} (k : Nat) (x0 : Int → Int → List Int → List (List Int) → List Int → Option R) (v0_0 : List (List Int)) (v0_1 : Int) (v0_6 : Int) (v0_7 : Int) : Nat → Int → Int → Int → List Int → List (List Int) → List Int → Option R
  | 0, _, _, _, _, _, _ => none
  | m + 1, v0_2, v0_3, v0_4, v0_5, v0_8, v0_9 => f53_0b k (f53_0d k x0 v0_0 v0_1 v0_6 v0_7 m) x0 v0_0 v0_1 v0_6 v0_7 v0_2 v0_3 v0_4 v0_5 v0_8 v0_9
theorem f53_0x {R : Type} : ∃ f, f = @f53_0d R := ⟨_, rfl⟩
noncomputable def f53_0 {R : Type} := Classical.choose (f53_0x (R := R))
theorem f53_0_def {R : Type} : @f53_0 R = @f53_0d R := Classical.choose_spec f53_0x
noncomputable def f53d {R : Type} (k : Nat) (a0 : Int) (a1 : Int) (a2 : List Int) (a3 : List (List Int)) (K : Int → Int → Int → List Int → List (List Int) → List Int → Option R) : Option R := match k with
  | 0 => none
  | k + 1 => (f57 k a0 a1 a2 (fun r4097_0 => (bif (r4097_0 != (0 : Int)) then (K (0 : Int) (0 : Int) r4097_0 ([] : List Int) ([] : List (List Int)) ([] : List Int)) else (bif decide ((a3.length : Int) > (2000 : Int)) then (K (0 : Int) (0 : Int) (2 : Int) ([] : List Int) ([] : List (List Int)) ([] : List Int)) else (f53_0 k (fun y0_0_0 y0_0_1 y0_0_2 y0_0_5 y0_0_6 => (f86 k y0_0_2 (fun r34818_0 => (K y0_0_0 y0_0_1 (0 : Int) r34818_0 y0_0_5 y0_0_6)))) a3 (a3.length : Int) (0 : Int) (0 : Int) k (0 : Int) a0 a1 a2 ([] : List (List Int)) ([] : List Int))))))
theorem f53x {R : Type} : ∃ f, f = @f53d R := ⟨_, rfl⟩
noncomputable def f53 {R : Type} := Classical.choose (f53x (R := R))
theorem f53_def {R : Type} : @f53 R = @f53d R := Classical.choose_spec f53x
noncomputable def f54_0b {R : Type} (k : Nat) (rec : Int → Option R) (K : Bool → Option R) (x0 : Option R) (v0_0 : List Int) (v0_1 : List Int) (v0_2 : Int) (v0_3 : Int) : Option R :=
  (bif decide (v0_3 < v0_2) then (bif (decide ((0 : Int) ≤ v0_3) && decide (v0_3 < (v0_0.length : Int))) then (bif (decide ((0 : Int) ≤ v0_3) && decide (v0_3 < (v0_1.length : Int))) then (bif ((v0_0.getD (Int.toNat v0_3) (0 : Int)) != (v0_1.getD (Int.toNat v0_3) (0 : Int))) then (K false) else (rec (IntKind.i64.wrap (v0_3 + (1 : Int))))) else none) else none) else x0)
noncomputable def f54_0d {R : Type} (k : Nat) (K : Bool → Option R) (x0 : Option R) (v0_0 : List Int) (v0_1 : List Int) (v0_2 : Int) : Nat → Int → Option R
  | 0, _ => none
  | m + 1, v0_3 => f54_0b k (f54_0d k K x0 v0_0 v0_1 v0_2 m) K x0 v0_0 v0_1 v0_2 v0_3
theorem f54_0x {R : Type} : ∃ f, f = @f54_0d R := ⟨_, rfl⟩
noncomputable def f54_0 {R : Type} := Classical.choose (f54_0x (R := R))
theorem f54_0_def {R : Type} : @f54_0 R = @f54_0d R := Classical.choose_spec f54_0x
noncomputable def f54d {R : Type} (k : Nat) (a0 : List Int) (a1 : List Int) (K : Bool → Option R) : Option R := match k with
  | 0 => none
  | k + 1 => (bif ((a0.length : Int) != (a1.length : Int)) then (K false) else (f54_0 k K (K true) a0 a1 (a0.length : Int) k (0 : Int)))
theorem f54x {R : Type} : ∃ f, f = @f54d R := ⟨_, rfl⟩
noncomputable def f54 {R : Type} := Classical.choose (f54x (R := R))
theorem f54_def {R : Type} : @f54 R = @f54d R := Classical.choose_spec f54x
noncomputable def f46_0b {R : Type} (k : Nat) (rec : Int → Option R) (K : Bool → Option R) (x0 : Option R) (v0_0 : List (List Int)) (v0_1 : List (List Int)) (v0_2 : Int) (v0_3 : Int) : Option R :=
  (bif decide (v0_3 < v0_2) then (bif (decide ((0 : Int) ≤ v0_3) && decide (v0_3 < (v0_0.length : Int))) then (bif (decide ((0 : Int) ≤ v0_3) && decide (v0_3 < (v0_1.length : Int))) then (f24 k (v0_0.getD (Int.toNat v0_3) ([] : List Int)) (v0_1.getD (Int.toNat v0_3) ([] : List Int)) (fun r14344_0 => (bif (!r14344_0) then (K false) else (rec (IntKind.i64.wrap (v0_3 + (1 : Int))))))) else none) else none) else x0)
noncomputable def f46_0d {R : Type} (k : Nat) (K : Bool → Option R) (x0 : Option R) (v0_0 : List (List Int)) (v0_1 : List (List Int)) (v0_2 : Int) : Nat → Int → Option R
  | 0, _ => none
  | m + 1, v0_3 => f46_0b k (f46_0d k K x0 v0_0 v0_1 v0_2 m) K x0 v0_0 v0_1 v0_2 v0_3
theorem f46_0x {R : Type} : ∃ f, f = @f46_0d R := ⟨_, rfl⟩
noncomputable def f46_0 {R : Type} := Classical.choose (f46_0x (R := R))
theorem f46_0_def {R : Type} : @f46_0 R = @f46_0d R := Classical.choose_spec f46_0x
noncomputable def f46d {R : Type} (k : Nat) (a0 : List (List Int)) (a1 : List (List Int)) (K : Bool → Option R) : Option R := match k with
  | 0 => none
  | k + 1 => (bif ((a0.length : Int) != (a1.length : Int)) then (K false) else (f46_0 k K (K true) a0 a1 (a0.length : Int) k (0 : Int)))
theorem f46x {R : Type} : ∃ f, f = @f46d R := ⟨_, rfl⟩
noncomputable def f46 {R : Type} := Classical.choose (f46x (R := R))
theorem f46_def {R : Type} : @f46 R = @f46d R := Classical.choose_spec f46x
noncomputable def f55d {R : Type} (k : Nat) (a0 : Int) (a1 : Int) (a2 : List Int) (a3 : Int) (a4 : Int) (a5 : List Int) (K : Bool → Option R) : Option R := match k with
  | 0 => none
  | k + 1 => (bif ((a0 == a3) == true) then (bif ((a1 == a4) == true) then (f54 k a2 a5 (fun r4113_0 => (K r4113_0))) else (K false)) else (K false))
theorem f55x {R : Type} : ∃ f, f = @f55d R := ⟨_, rfl⟩
noncomputable def f55 {R : Type} := Classical.choose (f55x (R := R))
theorem f55_def {R : Type} : @f55 R = @f55d R := Classical.choose_spec f55x
noncomputable def f14d {R : Type} (k : Nat) (a0 : Int) (a1 : Int) (a2 : List Int) (a3 : List (List Int)) (K : Bool → Option R) : Option R := match k with
  | 0 => none
  | k + 1 => (f52 k a0 a1 a2 a3 (fun r4098_0 r4098_1 r4098_2 r4098_3 r4098_4 r4098_5 => (f53 k a0 a1 a2 a3 (fun r6146_0 r6146_1 r6146_2 r6146_3 r6146_4 r6146_5 => (bif ((r4098_2 == r6146_2) == true) then (f54 k r4098_5 r6146_5 (fun r8198_0 => (bif (r8198_0 == true) then (f46 k r4098_4 r6146_4 (fun r8203_0 => (bif (r8203_0 == true) then (f55 k r4098_0 r4098_1 r4098_3 r6146_0 r6146_1 r6146_3 (fun r8208_0 => (bif (r8208_0 == true) then (f21 k (fun r8211_0 => (K r8211_0))) else (K false)))) else (K false)))) else (K false)))) else (K false))))))
theorem f14x {R : Type} : ∃ f, f = @f14d R := ⟨_, rfl⟩
noncomputable def f14 {R : Type} := Classical.choose (f14x (R := R))
theorem f14_def {R : Type} : @f14 R = @f14d R := Classical.choose_spec f14x
noncomputable def f72d {R : Type} (k : Nat) (a0 : List Int) (K : Int → Option R) : Option R := match k with
  | 0 => none
  | k + 1 => (bif ((a0.length : Int) == (0 : Int)) then (K (9 : Int)) else (bif decide ((a0.length : Int) > (200 : Int)) then (K (2 : Int)) else (K (0 : Int))))
theorem f72x {R : Type} : ∃ f, f = @f72d R := ⟨_, rfl⟩
noncomputable def f72 {R : Type} := Classical.choose (f72x (R := R))
theorem f72_def {R : Type} : @f72 R = @f72d R := Classical.choose_spec f72x
noncomputable def f56d {R : Type} (k : Nat) (a0 : Int) (a1 : Int) (a2 : List Int) (K : Int → List Int → Option R) : Option R := match k with
  | 0 => none
  | k + 1 => (f63 k a0 (0 : Int) (1000000000000000 : Int) (fun r4097_0 => (bif ((!r4097_0) == false) then (f63 k a1 (0 : Int) (1000000000 : Int) (fun r4101_0 => (bif (!r4101_0) then (K (1 : Int) ([] : List Int)) else (f72 k a2 (fun r8193_0 => (bif (r8193_0 != (0 : Int)) then (K r8193_0 ([] : List Int)) else (f88 k (IntKind.u64.wrap a1) (fun r14338_0 => (bif decide (r14338_0.length + a2.length ≤ LIM 1) then (f89 k a0 (r14338_0 ++ a2) (fun r16387_0 => (f88 k r16387_0 (fun r16388_0 => (bif decide ((r14338_0 ++ a2).length + r16388_0.length ≤ LIM 1) then (K (0 : Int) ((r14338_0 ++ a2) ++ r16388_0)) else none))))) else none))))))))) else (K (1 : Int) ([] : List Int)))))
theorem f56x {R : Type} : ∃ f, f = @f56d R := ⟨_, rfl⟩
noncomputable def f56 {R : Type} := Classical.choose (f56x (R := R))
theorem f56_def {R : Type} : @f56 R = @f56d R := Classical.choose_spec f56x
noncomputable def f58d {R : Type} (k : Nat) (a0 : Int) (a1 : Int) (a2 : List Int) (a3 : List Int) (K : Int → Int → Int → Int → List Int → List Int → Option R) : Option R := match k with
  | 0 => none
  | k + 1 => (f57 k a0 a1 a2 (fun r4097_0 => (bif (r4097_0 != (0 : Int)) then (K (0 : Int) (0 : Int) (0 : Int) r4097_0 ([] : List Int) ([] : List Int)) else (f87 k a0 a1 a2 a3 (fun r10242_0 r10242_1 r10242_2 r10242_3 r10242_4 r10242_5 => (K r10242_0 r10242_1 r10242_2 r10242_3 r10242_4 r10242_5))))))
theorem f58x {R : Type} : ∃ f, f = @f58d R := ⟨_, rfl⟩
noncomputable def f58 {R : Type} := Classical.choose (f58x (R := R))
theorem f58_def {R : Type} : @f58 R = @f58d R := Classical.choose_spec f58x
noncomputable def f15d {R : Type} (k : Nat) (a0 : Int) (a1 : Int) (a2 : List Int) (a3 : Int) (a4 : Int) (a5 : List Int) (a6 : List Int) (K : Bool → Option R) : Option R := match k with
  | 0 => none
  | k + 1 => (f49 k a0 a1 a2 (fun r4099_0 r4099_1 => (f56 k a0 a1 a2 (fun r6147_0 r6147_1 => (f48 k a3 a4 a5 (fun r8193_0 => (f57 k a3 a4 a5 (fun r8195_0 => (bif ((r8193_0 != r8195_0) == false) then (bif ((r4099_0 != r6147_0) == false) then (f24 k r4099_1 r6147_1 (fun r8205_0 => (bif (!r8205_0) then (K false) else (f50 k a3 a4 a5 a6 (fun r12290_0 r12290_1 r12290_2 r12290_3 r12290_4 r12290_5 => (f58 k a3 a4 a5 a6 (fun r14338_0 r14338_1 r14338_2 r14338_3 r14338_4 r14338_5 => (bif ((r12290_3 == r14338_3) == true) then (bif ((r12290_2 == r14338_2) == true) then (f24 k r12290_5 r14338_5 (fun r16395_0 => (bif (r16395_0 == true) then (f55 k r12290_0 r12290_1 r12290_4 r14338_0 r14338_1 r14338_4 (fun r16400_0 => (bif (r16400_0 == true) then (f21 k (fun r16403_0 => (K r16403_0))) else (K false)))) else (K false)))) else (K false)) else (K false))))))))) else (K false)) else (K false))))))))))
theorem f15x {R : Type} : ∃ f, f = @f15d R := ⟨_, rfl⟩
noncomputable def f15 {R : Type} := Classical.choose (f15x (R := R))
theorem f15_def {R : Type} : @f15 R = @f15d R := Classical.choose_spec f15x
end Go.Proofs.Ytadkplikobhckaa.PM
