/- Functions of the program in typed form (printed by a program of this work). -/
import Derived.Test.YtahdmfboidjkoaaPmE
set_option linter.unusedVariables false
set_option linter.unusedSimpArgs false
set_option maxRecDepth 100000
namespace Go.Proofs.Ytahdmfboidjkoaa.PM
open Go
noncomputable def f66d {R : Type} (k : Nat) (a0 : Int) (a1 : Int) (a2 : Int) (K : Bool → Option R) : Option R := match k with
  | 0 => none
  | k + 1 => (bif (decide (a1 ≤ a0) == true) then (K (decide (a0 ≤ a2))) else (K false))
theorem f66x {R : Type} : ∃ f, f = @f66d R := ⟨_, rfl⟩
noncomputable def f66 {R : Type} := Classical.choose (f66x (R := R))
theorem f66_def {R : Type} : @f66 R = @f66d R := Classical.choose_spec f66x
noncomputable def f96d {R : Type} (k : Nat) (a0 : Int) (a1 : Int) (a2 : Int) (K : Int → Option R) : Option R := match k with
  | 0 => none
  | k + 1 => (f66 k a0 a1 a2 (fun r4099_0 => (bif (!r4099_0) then (K (1 : Int)) else (K (0 : Int)))))
theorem f96x {R : Type} : ∃ f, f = @f96d R := ⟨_, rfl⟩
noncomputable def f96 {R : Type} := Classical.choose (f96x (R := R))
theorem f96_def {R : Type} : @f96 R = @f96d R := Classical.choose_spec f96x
noncomputable def f75d {R : Type} (k : Nat) (a0 : Int) (K : Int → Option R) : Option R := match k with
  | 0 => none
  | k + 1 => (f96 k a0 (24 : Int) (1000 : Int) (fun r4097_0 => (K r4097_0)))
theorem f75x {R : Type} : ∃ f, f = @f75d R := ⟨_, rfl⟩
noncomputable def f75 {R : Type} := Classical.choose (f75x (R := R))
theorem f75_def {R : Type} : @f75 R = @f75d R := Classical.choose_spec f75x
noncomputable def f35d {R : Type} (k : Nat) (a0 : Int) (a1 : Int) (a2 : Int) (a3 : Int) (a4 : List Int) (a5 : Int) (K : Int → Option R) : Option R := match k with
  | 0 => none
  | k + 1 => (f75 k a5 (fun r4097_0 => (bif (r4097_0 != (0 : Int)) then (K (1 : Int)) else (f66 k a0 (0 : Int) (65535 : Int) (fun r8194_0 => (bif ((!r8194_0) == false) then (f66 k a1 (0 : Int) (7 : Int) (fun r8199_0 => (bif ((!r8199_0) == false) then (f66 k a2 (0 : Int) (255 : Int) (fun r8205_0 => (bif (!r8205_0) then (K (1 : Int)) else (bif ((a4.length : Int) != IntKind.i64.wrap (a5 - (8 : Int))) then (K (3 : Int)) else (bif ((a3 != (2047 : Int)) == true) then (f66 k a3 (0 : Int) (IntKind.i64.wrap ((a4.length : Int) - (1 : Int))) (fun r16394_0 => (bif (!r16394_0) then (K (1 : Int)) else (K (0 : Int))))) else (K (0 : Int))))))) else (K (1 : Int))))) else (K (1 : Int))))))))
theorem f35x {R : Type} : ∃ f, f = @f35d R := ⟨_, rfl⟩
noncomputable def f35 {R : Type} := Classical.choose (f35x (R := R))
theorem f35_def {R : Type} : @f35 R = @f35d R := Classical.choose_spec f35x
noncomputable def f65d {R : Type} (k : Nat) (a0 : List Int) (K : Int → Option R) : Option R := match k with
  | 0 => none
  | k + 1 => (bif decide ((0 : Int) < (a0.length : Int)) then (bif decide ((1 : Int) < (a0.length : Int)) then (K (bits .or .i64 (IntKind.i64.wrap ((IntKind.i64.wrap (a0.getD 0 (0 : Int))) * 2 ^ 8)) (IntKind.i64.wrap (a0.getD 1 (0 : Int))))) else none) else none)
theorem f65x {R : Type} : ∃ f, f = @f65d R := ⟨_, rfl⟩
noncomputable def f65 {R : Type} := Classical.choose (f65x (R := R))
theorem f65_def {R : Type} : @f65 R = @f65d R := Classical.choose_spec f65x
noncomputable def f19_1000010d {R : Type} (k : Nat) (xN : Int → Option R) (v10_0 : Int) (v10_1 : List Int) (v10_2 : Int) (v10_3 : Int) (v10_4 : Int) (v10_5 : Bool) : Option R :=
  (bif v10_5 then (xN (bits .xor .i64 v10_0 (69665 : Int))) else (xN v10_0))
theorem f19_1000010x {R : Type} : ∃ f, f = @f19_1000010d R := ⟨_, rfl⟩
noncomputable def f19_1000010 {R : Type} := Classical.choose (f19_1000010x (R := R))
theorem f19_1000010_def {R : Type} : @f19_1000010 R = @f19_1000010d R := Classical.choose_spec f19_1000010x
noncomputable def f19_2b {R : Type} (k : Nat) (rec : Int → Int → Option R) (x2 : Int → Option R) (v2_1 : List Int) (v2_2 : Int) (v2_3 : Int) (v2_0 : Int) (v2_4 : Int) : Option R :=
  (bif decide (v2_4 < (8 : Int)) then (f19_1000010 k (fun y10_N_0 => (rec y10_N_0 (IntKind.i64.wrap (v2_4 + (1 : Int))))) (IntKind.i64.wrap (v2_0 * 2 ^ 1)) v2_1 v2_2 v2_3 v2_4 (bits .and .i64 (IntKind.i64.wrap (v2_0 * 2 ^ 1)) (65536 : Int) != (0 : Int))) else (x2 v2_0))
noncomputable def f19_2d {R : Type} (k : Nat) (x2 : Int → Option R) (v2_1 : List Int) (v2_2 : Int) (v2_3 : Int) : Nat → Int → Int → Option R
  | 0, _, _ => none
  | m + 1, v2_0, v2_4 => f19_2b k (f19_2d k x2 v2_1 v2_2 v2_3 m) x2 v2_1 v2_2 v2_3 v2_0 v2_4
theorem f19_2x {R : Type} : ∃ f, f = @f19_2d R := ⟨_, rfl⟩
noncomputable def f19_2 {R : Type} := Classical.choose (f19_2x (R := R))
theorem f19_2_def {R : Type} : @f19_2 R = @f19_2d R := Classical.choose_spec f19_2x
noncomputable def f19_0b {R : Type} (k : Nat) (rec : Int → Int → Option R) (x0 : Int → Option R) (v0_1 : List Int) (v0_2 : Int) (v0_0 : Int) (v0_3 : Int) : Option R :=
  (bif decide (v0_3 < v0_2) then (bif (decide ((0 : Int) ≤ v0_3) && decide (v0_3 < (v0_1.length : Int))) then (f19_2 k (fun y2_2_0 => (rec y2_2_0 (IntKind.i64.wrap (v0_3 + (1 : Int))))) v0_1 v0_2 v0_3 k (bits .xor .i64 v0_0 (IntKind.i64.wrap ((IntKind.i64.wrap (v0_1.getD (Int.toNat v0_3) (0 : Int))) * 2 ^ 8))) (0 : Int)) else none) else (x0 v0_0))
noncomputable def f19_0d {R : Type} (k : Nat) (x0 : Int → Option R) (v0_1 : List Int) (v0_2 : Int) : Nat → Int → Int → Option R
  | 0, _, _ => none
  | m + 1, v0_0, v0_3 => f19_0b k (f19_0d k x0 v0_1 v0_2 m) x0 v0_1 v0_2 v0_0 v0_3
theorem f19_0x {R : Type} : ∃ f, f = @f19_0d R := ⟨_, rfl⟩
noncomputable def f19_0 {R : Type} := Classical.choose (f19_0x (R := R))
theorem f19_0_def {R : Type} : @f19_0 R = @f19_0d R := Classical.choose_spec f19_0x
noncomputable def f19d {R : Type} (k : Nat) (a0 : List Int) (K : Int → Option R) : Option R := match k with
  | 0 => none
  | k + 1 => (f19_0 k (fun y0_0_0 => (K y0_0_0)) a0 (a0.length : Int) k (65535 : Int) (0 : Int))
theorem f19x {R : Type} : ∃ f, f = @f19d R := ⟨_, rfl⟩
noncomputable def f19 {R : Type} := Classical.choose (f19x (R := R))
theorem f19_def {R : Type} : @f19 R = @f19d R := Classical.choose_spec f19x
noncomputable def f67d {R : Type} (k : Nat) (a0 : List Int) (K : Bool → Option R) : Option R := match k with
  | 0 => none
  | k + 1 => (bif (decide ((0 : Int) ≤ IntKind.i64.wrap ((a0.length : Int) - (2 : Int))) && decide (IntKind.i64.wrap ((a0.length : Int) - (2 : Int)) ≤ (a0.length : Int))) then (f19 k (a0.take (Int.toNat (IntKind.i64.wrap ((a0.length : Int) - (2 : Int))))) (fun r6147_0 => (bif (decide ((0 : Int) ≤ IntKind.i64.wrap ((a0.length : Int) - (2 : Int))) && decide (IntKind.i64.wrap ((a0.length : Int) - (2 : Int)) ≤ (a0.length : Int))) then (f65 k (a0.drop (Int.toNat (IntKind.i64.wrap ((a0.length : Int) - (2 : Int))))) (fun r6151_0 => (K (r6147_0 == r6151_0)))) else none))) else none)
theorem f67x {R : Type} : ∃ f, f = @f67d R := ⟨_, rfl⟩
noncomputable def f67 {R : Type} := Classical.choose (f67x (R := R))
theorem f67_def {R : Type} : @f67 R = @f67d R := Classical.choose_spec f67x
noncomputable def f41d {R : Type} (k : Nat) (a0 : List Int) (K : List Int → Option R) : Option R := match k with
  | 0 => none
  | _ + 1 => bif decide (a0.length ≤ LIM 1) then K a0 else none
theorem f41x {R : Type} : ∃ f, f = @f41d R := ⟨_, rfl⟩
noncomputable def f41 {R : Type} := Classical.choose (f41x (R := R))
theorem f41_def {R : Type} : @f41 R = @f41d R := Classical.choose_spec f41x
noncomputable def f22d {R : Type} (k : Nat) (a0 : List Int) (K : Int → Bool → Int → Int → Int → Int → List Int → Option R) : Option R := match k with
  | 0 => none
  | k + 1 => (bif decide ((a0.length : Int) < (6 : Int)) then (K (0 : Int) false (0 : Int) (0 : Int) (0 : Int) (9 : Int) ([] : List Int)) else (f65 k a0 (fun r8193_0 => (bif decide ((2 : Int) ≤ (a0.length : Int)) then (f65 k (a0.drop 2) (fun r8196_0 => (bif decide ((4 : Int) ≤ (a0.length : Int)) then (f65 k (a0.drop 4) (fun r8199_0 => (bif ((bits .andNot .i64 r8193_0 (6143 : Int) != (0 : Int)) == false) then (f66 k (IntKind.i64.wrap (r8199_0 - (1 : Int))) (1 : Int) (1000 : Int) (fun r10245_0 => (bif (!r10245_0) then (K (0 : Int) false (0 : Int) (0 : Int) (0 : Int) (3 : Int) ([] : List Int)) else (bif decide ((a0.length : Int) < IntKind.i64.wrap ((IntKind.i64.wrap ((6 : Int) + (IntKind.i64.wrap (r8199_0 - (1 : Int))))) + (2 : Int))) then (K (0 : Int) false (0 : Int) (0 : Int) (0 : Int) (9 : Int) ([] : List Int)) else (bif (decide ((0 : Int) ≤ IntKind.i64.wrap ((IntKind.i64.wrap ((6 : Int) + (IntKind.i64.wrap (r8199_0 - (1 : Int))))) + (2 : Int))) && decide (IntKind.i64.wrap ((IntKind.i64.wrap ((6 : Int) + (IntKind.i64.wrap (r8199_0 - (1 : Int))))) + (2 : Int)) ≤ (a0.length : Int))) then (f67 k (a0.take (Int.toNat (IntKind.i64.wrap ((IntKind.i64.wrap ((6 : Int) + (IntKind.i64.wrap (r8199_0 - (1 : Int))))) + (2 : Int))))) (fun r20483_0 => (bif (!r20483_0) then (K (0 : Int) false (0 : Int) (0 : Int) (0 : Int) (15 : Int) ([] : List Int)) else (bif (decide ((6 : Int) ≤ IntKind.i64.wrap ((IntKind.i64.wrap ((IntKind.i64.wrap ((6 : Int) + (IntKind.i64.wrap (r8199_0 - (1 : Int))))) + (2 : Int))) - (2 : Int))) && decide (IntKind.i64.wrap ((IntKind.i64.wrap ((IntKind.i64.wrap ((6 : Int) + (IntKind.i64.wrap (r8199_0 - (1 : Int))))) + (2 : Int))) - (2 : Int)) ≤ (a0.length : Int))) then (f41 k ((a0.take (Int.toNat (IntKind.i64.wrap ((IntKind.i64.wrap ((IntKind.i64.wrap ((6 : Int) + (IntKind.i64.wrap (r8199_0 - (1 : Int))))) + (2 : Int))) - (2 : Int))))).drop 6) (fun r24589_0 => (K (bits .and .i64 r8193_0 (2047 : Int)) (bits .and .i64 r8193_0 (4096 : Int) != (0 : Int)) (IntKind.i64.wrap (Int.tdiv r8196_0 (16384 : Int))) (Int.tmod r8196_0 (16384 : Int)) (IntKind.i64.wrap ((IntKind.i64.wrap ((6 : Int) + (IntKind.i64.wrap (r8199_0 - (1 : Int))))) + (2 : Int))) (0 : Int) r24589_0))) else none)))) else none))))) else (K (0 : Int) false (0 : Int) (0 : Int) (0 : Int) (3 : Int) ([] : List Int))))) else none))) else none))))
theorem f22x {R : Type} : ∃ f, f = @f22d R := ⟨_, rfl⟩
noncomputable def f22 {R : Type} := Classical.choose (f22x (R := R))
theorem f22_def {R : Type} : @f22 R = @f22d R := Classical.choose_spec f22x
noncomputable def f85_1000003d {R : Type} (k : Nat) (K : Bool → Int → List Int → List (Int × (Bool × (Int × (Int × (List Int × Unit))))) → Option R) (xN : List Int → Bool → List Int → Option R) (v3_0 : List Int) (v3_1 : Bool) (v3_2 : Bool) (v3_3 : Int) (v3_4 : List Int) (v3_5 : List (Int × (Bool × (Int × (Int × (List Int × Unit)))))) (v3_6 : Int) (v3_7 : Int) (v3_8 : Int) (v3_9 : Int) (v3_10 : List Int) : Option R :=
  (bif v3_1 then (bif (v3_9 == (2047 : Int)) then (K v3_2 v3_3 v3_4 v3_5) else (bif (decide ((0 : Int) ≤ v3_9) && decide (v3_9 ≤ (v3_0.length : Int))) then (xN (v3_0.drop (Int.toNat v3_9)) false ([] : List Int)) else none)) else (xN v3_0 v3_2 v3_4))
theorem f85_1000003x {R : Type} : ∃ f, f = @f85_1000003d R := ⟨_, rfl⟩
noncomputable def f85_1000003 {R : Type} := Classical.choose (f85_1000003x (R := R))
theorem f85_1000003_def {R : Type} : @f85_1000003 R = @f85_1000003d R := Classical.choose_spec f85_1000003x
noncomputable def f85_1000012d {R : Type} (k : Nat) (xN : List (Int × (Bool × (Int × (Int × (List Int × Unit))))) → Option R) (v12_0 : Int) (v12_1 : Bool) (v12_2 : Bool) (v12_3 : Int) (v12_4 : List Int) (v12_5 : List (Int × (Bool × (Int × (Int × (List Int × Unit)))))) (v12_6 : Int) (v12_7 : Bool) (v12_8 : Int) (v12_9 : Int) (v12_10 : List Int) : Option R :=
  (bif v12_1 then (bif decide (v12_5.length + ([(v12_6, (v12_7, (v12_8, (v12_9, (v12_10, ())))))] : List (Int × (Bool × (Int × (Int × (List Int × Unit)))))).length ≤ LIM 56) then (xN (v12_5 ++ ([(v12_6, (v12_7, (v12_8, (v12_9, (v12_10, ())))))] : List (Int × (Bool × (Int × (Int × (List Int × Unit)))))))) else none) else (xN v12_5))
theorem f85_1000012x {R : Type} : ∃ f, f = @f85_1000012d R := ⟨_, rfl⟩
noncomputable def f85_1000012 {R : Type} := Classical.choose (f85_1000012x (R := R))
theorem f85_1000012_def {R : Type} : @f85_1000012 R = @f85_1000012d R := Classical.choose_spec f85_1000012x
noncomputable def f85_0b {R : Type} (k : Nat) (rec : List Int → List (Int × (Bool × (Int × (Int × (List Int × Unit))))) → Option R) (K : Bool → Int → List Int → List (Int × (Bool × (Int × (Int × (List Int × Unit))))) → Option R) (v0_0 : Bool) (v0_1 : Int) (v0_2 : List Int) (v0_3 : List (Int × (Bool × (Int × (Int × (List Int × Unit)))))) : Option R :=
  (f22 k v0_2 (fun r14340_0 r14340_1 r14340_2 r14340_3 r14340_4 r14340_5 r14340_6 => (bif (r14340_5 == (0 : Int)) then (f85_1000012 k (fun y12_N_4 => (bif (decide ((0 : Int) ≤ r14340_4) && decide (r14340_4 ≤ (v0_2.length : Int))) then (rec ((v0_2.drop (Int.toNat r14340_4)).take (v0_2.length - (Int.toNat r14340_4))) y12_N_4) else none)) r14340_4 (r14340_0 != (2047 : Int)) v0_0 v0_1 v0_2 v0_3 r14340_0 r14340_1 r14340_2 r14340_3 r14340_6) else (bif (r14340_5 == (9 : Int)) then (K v0_0 v0_1 v0_2 v0_3) else (K true (IntKind.i64.wrap (v0_1 + (1 : Int))) ([] : List Int) v0_3)))))
noncomputable def f85_0d {R : Type} (k : Nat) (K : Bool → Int → List Int → List (Int × (Bool × (Int × (Int × (List Int × Unit))))) → Option R) (v0_0 : Bool) (v0_1 : Int) : Nat → List Int → List (Int × (Bool × (Int × (Int × (List Int × Unit))))) → Option R
  | 0, _, _ => none
  | m + 1, v0_2, v0_3 => f85_0b k (f85_0d k K v0_0 v0_1 m) K v0_0 v0_1 v0_2 v0_3
theorem f85_0x {R : Type} : ∃ f, f = @f85_0d R := ⟨_, rfl⟩
noncomputable def f85_0 {R : Type} := Classical.choose (f85_0x (R := R))
theorem f85_0_def {R : Type} : @f85_0 R = @f85_0d R := Classical.choose_spec f85_0x
noncomputable def f85d {R : Type} (k : Nat) (a0 : Int) (a1 : Int) (a2 : Int) (a3 : Int) (a4 : List Int) (a5 : Bool) (a6 : Int) (a7 : List Int) (a8 : List (Int × (Bool × (Int × (Int × (List Int × Unit)))))) (K : Bool → Int → List Int → List (Int × (Bool × (Int × (Int × (List Int × Unit))))) → Option R) : Option R := match k with
  | 0 => none
  | k + 1 => (f85_1000003 k K (fun y3_N_0 y3_N_1 y3_N_4 => (bif decide (y3_N_4.length + y3_N_0.length ≤ LIM 1) then (f85_0 k K y3_N_1 a6 k (y3_N_4 ++ y3_N_0) a8) else none)) a4 a5 a5 a6 a7 a8 a0 a1 a2 a3 a4)
theorem f85x {R : Type} : ∃ f, f = @f85d R := ⟨_, rfl⟩
noncomputable def f85 {R : Type} := Classical.choose (f85x (R := R))
theorem f85_def {R : Type} : @f85 R = @f85d R := Classical.choose_spec f85x
noncomputable def f50_1b {R : Type} (k : Nat) (rec : Int → Option R) (K : Int → Int → List (Int × (Bool × (Int × (Int × (List Int × Unit))))) → Option R) (x1 : Option R) (v1_0 : List ((Int × (Int × (Int × (Int × (List Int × Unit))))))) (v1_1 : Int) (v1_2 : List ((Int × (Int × (Int × (Int × (List Int × Unit))))))) (v1_3 : Int) (v1_4 : Int) : Option R :=
  (bif decide (v1_4 < v1_3) then (bif (decide ((0 : Int) ≤ v1_4) && decide (v1_4 < (v1_2.length : Int))) then (f35 k ((v1_2.getD (Int.toNat v1_4) ((0 : Int), ((0 : Int), ((0 : Int), ((0 : Int), (([] : List Int), ())))))).1) (((v1_2.getD (Int.toNat v1_4) ((0 : Int), ((0 : Int), ((0 : Int), ((0 : Int), (([] : List Int), ())))))).2).1) ((((v1_2.getD (Int.toNat v1_4) ((0 : Int), ((0 : Int), ((0 : Int), ((0 : Int), (([] : List Int), ())))))).2).2).1) (((((v1_2.getD (Int.toNat v1_4) ((0 : Int), ((0 : Int), ((0 : Int), ((0 : Int), (([] : List Int), ())))))).2).2).2).1) ((((((v1_2.getD (Int.toNat v1_4) ((0 : Int), ((0 : Int), ((0 : Int), ((0 : Int), (([] : List Int), ())))))).2).2).2).2).1) v1_1 (fun r18434_0 => (bif (r18434_0 != (0 : Int)) then (K (0 : Int) r18434_0 ([] : List ((Int × (Bool × (Int × (Int × (List Int × Unit)))))))) else (bif decide ((0 : Int) < (v1_0.length : Int)) then (bif (((v1_2.getD (Int.toNat v1_4) ((0 : Int), ((0 : Int), ((0 : Int), ((0 : Int), (([] : List Int), ())))))).1 != (v1_0.getD 0 ((0 : Int), ((0 : Int), ((0 : Int), ((0 : Int), (([] : List Int), ())))))).1) == false) then (bif decide ((0 : Int) < (v1_0.length : Int)) then (bif (((v1_2.getD (Int.toNat v1_4) ((0 : Int), ((0 : Int), ((0 : Int), ((0 : Int), (([] : List Int), ())))))).2).1 != ((v1_0.getD 0 ((0 : Int), ((0 : Int), ((0 : Int), ((0 : Int), (([] : List Int), ())))))).2).1) then (K (0 : Int) (12 : Int) ([] : List ((Int × (Bool × (Int × (Int × (List Int × Unit)))))))) else (rec (IntKind.i64.wrap (v1_4 + (1 : Int))))) else none) else (K (0 : Int) (12 : Int) ([] : List ((Int × (Bool × (Int × (Int × (List Int × Unit))))))))) else none)))) else none) else x1)
noncomputable def f50_1d {R : Type} (k : Nat) (K : Int → Int → List (Int × (Bool × (Int × (Int × (List Int × Unit))))) → Option R) (x1 : Option R) (v1_0 : List ((Int × (Int × (Int × (Int × (List Int × Unit))))))) (v1_1 : Int) (v1_2 : List ((Int × (Int × (Int × (Int × (List Int × Unit))))))) (v1_3 : Int) : Nat → Int → Option R
  | 0, _ => none
  | m + 1, v1_4 => f50_1b k (f50_1d k K x1 v1_0 v1_1 v1_2 v1_3 m) K x1 v1_0 v1_1 v1_2 v1_3 v1_4
theorem f50_1x {R : Type} : ∃ f, f = @f50_1d R := ⟨_, rfl⟩
noncomputable def f50_1 {R : Type} := Classical.choose (f50_1x (R := R))
theorem f50_1_def {R : Type} : @f50_1 R = @f50_1d R := Classical.choose_spec f50_1x
noncomputable def f50_1000022d {R : Type} (k : Nat) (xN : Bool → Int → Option R) (v22_0 : List ((Int × (Int × (Int × (Int × (List Int × Unit))))))) (v22_1 : List ((Int × (Int × (Int × (Int × (List Int × Unit))))))) (v22_2 : Int) (v22_3 : Int) (v22_4 : Bool) (v22_5 : Bool) (v22_6 : Int) (v22_7 : List Int) (v22_8 : List (Int × (Bool × (Int × (Int × (List Int × Unit)))))) (v22_9 : Int) (v22_10 : Int) (v22_11 : Int) (v22_12 : Int) (v22_13 : List Int) : Option R :=
  (bif v22_4 then (xN true (IntKind.i64.wrap (v22_6 + (1 : Int)))) else (xN v22_5 v22_6))
theorem f50_1000022x {R : Type} : ∃ f, f = @f50_1000022d R := ⟨_, rfl⟩
noncomputable def f50_1000022 {R : Type} := Classical.choose (f50_1000022x (R := R))
theorem f50_1000022_def {R : Type} : @f50_1000022 R = @f50_1000022d R := Classical.choose_spec f50_1000022x
noncomputable def f50_1000019d {R : Type} (k : Nat) (x4 : Option R) (xN : Bool → Int → Option R) (v19_0 : List ((Int × (Int × (Int × (Int × (List Int × Unit))))))) (v19_1 : Int) (v19_2 : List ((Int × (Int × (Int × (Int × (List Int × Unit))))))) (v19_3 : Int) (v19_4 : Int) (v19_5 : Bool) (v19_6 : Bool) (v19_7 : Int) (v19_8 : List Int) (v19_9 : List (Int × (Bool × (Int × (Int × (List Int × Unit)))))) (v19_10 : Int) (v19_11 : Int) (v19_12 : Int) (v19_13 : Int) (v19_14 : List Int) : Option R :=
  (bif v19_5 then (bif (decide ((0 : Int) ≤ IntKind.i64.wrap (v19_1 - (1 : Int))) && decide (IntKind.i64.wrap (v19_1 - (1 : Int)) < (v19_0.length : Int))) then (bif (v19_12 == (((v19_0.getD (Int.toNat (IntKind.i64.wrap (v19_1 - (1 : Int)))) ((0 : Int), ((0 : Int), ((0 : Int), ((0 : Int), (([] : List Int), ())))))).2).2).1) then x4 else (f50_1000022 k (fun y22_N_4 y22_N_5 => (xN y22_N_4 y22_N_5)) v19_0 v19_2 v19_3 v19_4 (v19_12 != Int.tmod (IntKind.i64.wrap (((((v19_0.getD (Int.toNat (IntKind.i64.wrap (v19_1 - (1 : Int)))) ((0 : Int), ((0 : Int), ((0 : Int), ((0 : Int), (([] : List Int), ())))))).2).2).1) + (1 : Int))) (256 : Int)) v19_6 v19_7 v19_8 v19_9 v19_10 v19_11 v19_12 v19_13 v19_14)) else none) else (xN v19_6 v19_7))
theorem f50_1000019x {R : Type} : ∃ f, f = @f50_1000019d R := ⟨_, rfl⟩
noncomputable def f50_1000019 {R : Type} := Classical.choose (f50_1000019x (R := R))
theorem f50_1000019_def {R : Type} : @f50_1000019 R = @f50_1000019d R := Classical.choose_spec f50_1000019x
noncomputable def f50_4d {R : Type} (k : Nat) (x4 : Bool → Int → List Int → List (Int × (Bool × (Int × (Int × (List Int × Unit))))) → Option R) (v4_0 : List ((Int × (Int × (Int × (Int × (List Int × Unit))))))) (v4_1 : List ((Int × (Int × (Int × (Int × (List Int × Unit))))))) (v4_2 : Int) (v4_3 : Int) (v4_4 : Bool) (v4_5 : Int) (v4_6 : List Int) (v4_7 : List (Int × (Bool × (Int × (Int × (List Int × Unit)))))) : Option R :=
  (bif (decide ((0 : Int) ≤ v4_3) && decide (v4_3 < (v4_1.length : Int))) then (f50_1000019 k (x4 v4_4 v4_5 v4_6 v4_7) (fun y19_N_4 y19_N_5 => (f85 k ((v4_1.getD (Int.toNat v4_3) ((0 : Int), ((0 : Int), ((0 : Int), ((0 : Int), (([] : List Int), ())))))).1) (((v4_1.getD (Int.toNat v4_3) ((0 : Int), ((0 : Int), ((0 : Int), ((0 : Int), (([] : List Int), ())))))).2).1) ((((v4_1.getD (Int.toNat v4_3) ((0 : Int), ((0 : Int), ((0 : Int), ((0 : Int), (([] : List Int), ())))))).2).2).1) (((((v4_1.getD (Int.toNat v4_3) ((0 : Int), ((0 : Int), ((0 : Int), ((0 : Int), (([] : List Int), ())))))).2).2).2).1) ((((((v4_1.getD (Int.toNat v4_3) ((0 : Int), ((0 : Int), ((0 : Int), ((0 : Int), (([] : List Int), ())))))).2).2).2).2).1) y19_N_4 y19_N_5 v4_6 v4_7 (fun r51202_0 r51202_1 r51202_2 r51202_3 => (x4 r51202_0 r51202_1 r51202_2 r51202_3)))) v4_0 v4_3 v4_1 v4_2 v4_3 (decide (v4_3 > (0 : Int))) v4_4 v4_5 v4_6 v4_7 ((v4_1.getD (Int.toNat v4_3) ((0 : Int), ((0 : Int), ((0 : Int), ((0 : Int), (([] : List Int), ())))))).1) (((v4_1.getD (Int.toNat v4_3) ((0 : Int), ((0 : Int), ((0 : Int), ((0 : Int), (([] : List Int), ())))))).2).1) ((((v4_1.getD (Int.toNat v4_3) ((0 : Int), ((0 : Int), ((0 : Int), ((0 : Int), (([] : List Int), ())))))).2).2).1) (((((v4_1.getD (Int.toNat v4_3) ((0 : Int), ((0 : Int), ((0 : Int), ((0 : Int), (([] : List Int), ())))))).2).2).2).1) ((((((v4_1.getD (Int.toNat v4_3) ((0 : Int), ((0 : Int), ((0 : Int), ((0 : Int), (([] : List Int), ())))))).2).2).2).2).1)) else none)
theorem f50_4x {R : Type} : ∃ f, f = @f50_4d R := ⟨_, rfl⟩
noncomputable def f50_4 {R : Type} := Classical.choose (f50_4x (R := R))
theorem f50_4_def {R : Type} : @f50_4 R = @f50_4d R := Classical.choose_spec f50_4x
noncomputable def f50_3b {R : Type} (k : Nat) (rec : Int → Bool → Int → List Int → List (Int × (Bool × (Int × (Int × (List Int × Unit))))) → Option R) (x3 : Bool → Int → List Int → List (Int × (Bool × (Int × (Int × (List Int × Unit))))) → Option R) (v3_0 : List ((Int × (Int × (Int × (Int × (List Int × Unit))))))) (v3_1 : List ((Int × (Int × (Int × (Int × (List Int × Unit))))))) (v3_2 : Int) (v3_3 : Int) (v3_4 : Bool) (v3_5 : Int) (v3_6 : List Int) (v3_7 : List (Int × (Bool × (Int × (Int × (List Int × Unit)))))) : Option R :=
  (bif decide (v3_3 < v3_2) then (f50_4 k (fun y4_4_4 y4_4_5 y4_4_6 y4_4_7 => (rec (IntKind.i64.wrap (v3_3 + (1 : Int))) y4_4_4 y4_4_5 y4_4_6 y4_4_7)) v3_0 v3_1 v3_2 v3_3 v3_4 v3_5 v3_6 v3_7) else (x3 v3_4 v3_5 v3_6 v3_7))
noncomputable def f50_3d {R : Type} (k : Nat) (x3 : Bool → Int → List Int → List (Int × (Bool × (Int × (Int × (List Int × Unit))))) → Option R) (v3_0 : List ((Int × (Int × (Int × (Int × (List Int × Unit))))))) (v3_1 : List ((Int × (Int × (Int × (Int × (List Int × Unit))))))) (v3_2 : Int) : Nat → Int → Bool → Int → List Int → List (Int × (Bool × (Int × (Int × (List Int × Unit))))) → Option R
  | 0, _, _, _, _, _ => none
  | m + 1, v3_3, v3_4, v3_5, v3_6, v3_7 => f50_3b k (f50_3d k x3 v3_0 v3_1 v3_2 m) x3 v3_0 v3_1 v3_2 v3_3 v3_4 v3_5 v3_6 v3_7
theorem f50_3x {R : Type} : ∃ f, f = @f50_3d R := ⟨_, rfl⟩
noncomputable def f50_3 {R : Type} := Classical.choose (f50_3x (R := R))
theorem f50_3_def {R : Type} : @f50_3 R = @f50_3d R := Classical.choose_spec f50_3x
noncomputable def f50d {R : Type} (k : Nat) (a0 : List ((Int × (Int × (Int × (Int × (List Int × Unit))))))) (a1 : Int) (K : Int → Int → List (Int × (Bool × (Int × (Int × (List Int × Unit))))) → Option R) : Option R := match k with
  | 0 => none
  | k + 1 => (f75 k a1 (fun r4097_0 => (bif (r4097_0 != (0 : Int)) then (K (0 : Int) (1 : Int) ([] : List ((Int × (Bool × (Int × (Int × (List Int × Unit)))))))) else (bif decide ((a0.length : Int) > (1000 : Int)) then (K (0 : Int) (2 : Int) ([] : List ((Int × (Bool × (Int × (Int × (List Int × Unit)))))))) else (f50_1 k K (f50_3 k (fun y3_3_0 y3_3_1 y3_3_2 y3_3_3 => (K y3_3_1 (0 : Int) y3_3_3)) a0 a0 (a0.length : Int) k (0 : Int) true (0 : Int) ([] : List Int) ([] : List ((Int × (Bool × (Int × (Int × (List Int × Unit)))))))) a0 a1 a0 (a0.length : Int) k (0 : Int))))))
theorem f50x {R : Type} : ∃ f, f = @f50d R := ⟨_, rfl⟩
noncomputable def f50 {R : Type} := Classical.choose (f50x (R := R))
theorem f50_def {R : Type} : @f50 R = @f50d R := Classical.choose_spec f50x
noncomputable def f69d {R : Type} (k : Nat) (a0 : Int) (a1 : Int) (a2 : Int) (K : Bool → Option R) : Option R := match k with
  | 0 => none
  | k + 1 => (bif (decide (a1 ≤ a0) == true) then (K (decide (a0 ≤ a2))) else (K false))
theorem f69x {R : Type} : ∃ f, f = @f69d R := ⟨_, rfl⟩
noncomputable def f69 {R : Type} := Classical.choose (f69x (R := R))
theorem f69_def {R : Type} : @f69 R = @f69d R := Classical.choose_spec f69x
noncomputable def f76d {R : Type} (k : Nat) (a0 : Int) (K : Int → Option R) : Option R := match k with
  | 0 => none
  | k + 1 => (f69 k a0 (24 : Int) (1000 : Int) (fun r4097_0 => (bif (!r4097_0) then (K (1 : Int)) else (K (0 : Int)))))
theorem f76x {R : Type} : ∃ f, f = @f76d R := ⟨_, rfl⟩
noncomputable def f76 {R : Type} := Classical.choose (f76x (R := R))
theorem f76_def {R : Type} : @f76 R = @f76d R := Classical.choose_spec f76x
noncomputable def f77d {R : Type} (k : Nat) (a0 : Int) (a1 : Int) (a2 : Int) (K : Int → Option R) : Option R := match k with
  | 0 => none
  | k + 1 => (f69 k a0 (0 : Int) (65535 : Int) (fun r4097_0 => (bif ((!r4097_0) == false) then (f69 k a1 (0 : Int) (7 : Int) (fun r4101_0 => (bif ((!r4101_0) == false) then (f69 k a2 (0 : Int) (255 : Int) (fun r4106_0 => (bif (!r4106_0) then (K (1 : Int)) else (K (0 : Int))))) else (K (1 : Int))))) else (K (1 : Int)))))
theorem f77x {R : Type} : ∃ f, f = @f77d R := ⟨_, rfl⟩
noncomputable def f77 {R : Type} := Classical.choose (f77x (R := R))
theorem f77_def {R : Type} : @f77 R = @f77d R := Classical.choose_spec f77x
noncomputable def f36d {R : Type} (k : Nat) (a0 : Int) (a1 : Int) (a2 : Int) (a3 : Int) (a4 : List Int) (a5 : Int) (K : Int → Option R) : Option R := match k with
  | 0 => none
  | k + 1 => (f76 k a5 (fun r4097_0 => (bif (r4097_0 != (0 : Int)) then (K r4097_0) else (f77 k a0 a1 a2 (fun r10246_0 => (bif (r10246_0 != (0 : Int)) then (K r10246_0) else (bif ((a4.length : Int) != IntKind.i64.wrap (a5 - (8 : Int))) then (K (3 : Int)) else (bif ((a3 != (2047 : Int)) == true) then (f69 k a3 (0 : Int) (IntKind.i64.wrap ((a4.length : Int) - (1 : Int))) (fun r20490_0 => (bif (!r20490_0) then (K (1 : Int)) else (K (0 : Int))))) else (K (0 : Int))))))))))
theorem f36x {R : Type} : ∃ f, f = @f36d R := ⟨_, rfl⟩
noncomputable def f36 {R : Type} := Classical.choose (f36x (R := R))
theorem f36_def {R : Type} : @f36 R = @f36d R := Classical.choose_spec f36x
noncomputable def f78_1000002d {R : Type} (k : Nat) (xN : Option R) (v2_0 : Int) (v2_1 : Bool) : Option R :=
  (bif v2_1 then none else xN)
theorem f78_1000002x {R : Type} : ∃ f, f = @f78_1000002d R := ⟨_, rfl⟩
noncomputable def f78_1000002 {R : Type} := Classical.choose (f78_1000002x (R := R))
theorem f78_1000002_def {R : Type} : @f78_1000002 R = @f78_1000002d R := Classical.choose_spec f78_1000002x
noncomputable def f78_1000005d {R : Type} (k : Nat) (xN : List Int → Option R) (v5_0 : Int) (v5_1 : Bool) : Option R :=
  (bif v5_1 then (bif (decide ((0 : Int) ≤ v5_0) && decide ((List.replicate (Int.toNat v5_0) (0 : Int)).length ≤ LIM 1)) then (bif decide ((0 : Int) ≤ ((List.replicate (Int.toNat v5_0) (0 : Int)).length : Int)) then (xN (((List.replicate (Int.toNat v5_0) (0 : Int)).drop 0).take 0)) else none) else none) else (xN ([] : List Int)))
theorem f78_1000005x {R : Type} : ∃ f, f = @f78_1000005d R := ⟨_, rfl⟩
noncomputable def f78_1000005 {R : Type} := Classical.choose (f78_1000005x (R := R))
theorem f78_1000005_def {R : Type} : @f78_1000005 R = @f78_1000005d R := Classical.choose_spec f78_1000005x
noncomputable def f78d {R : Type} (k : Nat) (a0 : Int) (K : List Int → Option R) : Option R := match k with
  | 0 => none
  | k + 1 => (f78_1000002 k (f78_1000005 k (fun y5_N_0 => (K y5_N_0)) (IntKind.i64.wrap (a0 - (0 : Int))) (decide (IntKind.i64.wrap (a0 - (0 : Int)) > (0 : Int)))) a0 (decide (a0 < (0 : Int))))
theorem f78x {R : Type} : ∃ f, f = @f78d R := ⟨_, rfl⟩
noncomputable def f78 {R : Type} := Classical.choose (f78x (R := R))
theorem f78_def {R : Type} : @f78 R = @f78d R := Classical.choose_spec f78x
noncomputable def f40_1000007d {R : Type} (k : Nat) (xN : Option R) (v7_0 : List (List Int)) (v7_1 : Int) (v7_2 : List (List Int)) (v7_3 : Int) (v7_4 : Int) (v7_5 : Bool) : Option R :=
  (bif v7_5 then none else xN)
theorem f40_1000007x {R : Type} : ∃ f, f = @f40_1000007d R := ⟨_, rfl⟩
noncomputable def f40_1000007 {R : Type} := Classical.choose (f40_1000007x (R := R))
theorem f40_1000007_def {R : Type} : @f40_1000007 R = @f40_1000007d R := Classical.choose_spec f40_1000007x
noncomputable def f40_0b {R : Type} (k : Nat) (rec : Int → Int → Option R) (x0 : Int → Option R) (v0_0 : List (List Int)) (v0_2 : List (List Int)) (v0_3 : Int) (v0_1 : Int) (v0_4 : Int) : Option R :=
  (bif decide (v0_4 < v0_3) then (bif (decide ((0 : Int) ≤ v0_4) && decide (v0_4 < (v0_2.length : Int))) then (f40_1000007 k (rec (IntKind.i64.wrap (v0_1 + ((v0_2.getD (Int.toNat v0_4) ([] : List Int)).length : Int))) (IntKind.i64.wrap (v0_4 + (1 : Int)))) v0_0 (IntKind.i64.wrap (v0_1 + ((v0_2.getD (Int.toNat v0_4) ([] : List Int)).length : Int))) v0_2 v0_3 v0_4 (decide (IntKind.i64.wrap (v0_1 + ((v0_2.getD (Int.toNat v0_4) ([] : List Int)).length : Int)) < (0 : Int)))) else none) else (x0 v0_1))
noncomputable def f40_0d {R : Type} (k : Nat) (x0 : Int → Option R) (v0_0 : List (List Int)) (v0_2 : List (List Int)) (v0_3 : Int) : Nat → Int → Int → Option R
  | 0, _, _ => none
  | m + 1, v0_1, v0_4 => f40_0b k (f40_0d k x0 v0_0 v0_2 v0_3 m) x0 v0_0 v0_2 v0_3 v0_1 v0_4
theorem f40_0x {R : Type} : ∃ f, f = @f40_0d R := ⟨_, rfl⟩
noncomputable def f40_0 {R : Type} := Classical.choose (f40_0x (R := R))
theorem f40_0_def {R : Type} : @f40_0 R = @f40_0d R := Classical.choose_spec f40_0x
noncomputable def f40_2b {R : Type} (k : Nat) (rec : Int → List Int → Option R) (x2 : List Int → Option R) (v2_0 : List (List Int)) (v2_1 : Int) (v2_2 : Int) (v2_3 : List Int) : Option R :=
  (bif decide (v2_2 < v2_1) then (bif (decide ((0 : Int) ≤ v2_2) && decide (v2_2 < (v2_0.length : Int))) then (bif decide (v2_3.length + (v2_0.getD (Int.toNat v2_2) ([] : List Int)).length ≤ LIM 1) then (rec (IntKind.i64.wrap (v2_2 + (1 : Int))) (v2_3 ++ (v2_0.getD (Int.toNat v2_2) ([] : List Int)))) else none) else none) else (x2 v2_3))
noncomputable def f40_2d {R : Type} (k : Nat) (x2 : List Int → Option R) (v2_0 : List (List Int)) (v2_1 : Int) : Nat → Int → List Int → Option R
  | 0, _, _ => none
  | m + 1, v2_2, v2_3 => f40_2b k (f40_2d k x2 v2_0 v2_1 m) x2 v2_0 v2_1 v2_2 v2_3
theorem f40_2x {R : Type} : ∃ f, f = @f40_2d R := ⟨_, rfl⟩
noncomputable def f40_2 {R : Type} := Classical.choose (f40_2x (R := R))
theorem f40_2_def {R : Type} : @f40_2 R = @f40_2d R := Classical.choose_spec f40_2x
noncomputable def f40d {R : Type} (k : Nat) (a0 : List (List Int)) (K : List Int → Option R) : Option R := match k with
  | 0 => none
  | k + 1 => (f40_0 k (fun y0_0_1 => (f78 k y0_0_1 (fun r20481_0 => (f40_2 k (fun y2_2_0 => (K y2_2_0)) a0 (a0.length : Int) k (0 : Int) r20481_0)))) a0 a0 (a0.length : Int) k (0 : Int) (0 : Int))
theorem f40x {R : Type} : ∃ f, f = @f40d R := ⟨_, rfl⟩
noncomputable def f40 {R : Type} := Classical.choose (f40x (R := R))
theorem f40_def {R : Type} : @f40 R = @f40d R := Classical.choose_spec f40x
noncomputable def f68d {R : Type} (k : Nat) (a0 : List Int) (K : Int → Option R) : Option R := match k with
  | 0 => none
  | k + 1 => (bif decide ((0 : Int) < (a0.length : Int)) then (bif decide ((1 : Int) < (a0.length : Int)) then (K (IntKind.i64.wrap ((IntKind.i64.wrap ((IntKind.i64.wrap (a0.getD 0 (0 : Int))) * 2 ^ 8)) + (IntKind.i64.wrap (a0.getD 1 (0 : Int)))))) else none) else none)
theorem f68x {R : Type} : ∃ f, f = @f68d R := ⟨_, rfl⟩
noncomputable def f68 {R : Type} := Classical.choose (f68x (R := R))
theorem f68_def {R : Type} : @f68 R = @f68d R := Classical.choose_spec f68x
noncomputable def f20_1000011d {R : Type} (k : Nat) (xN : Int → Option R) (v11_0 : Int) (v11_1 : List Int) (v11_2 : Int) (v11_3 : Int) (v11_4 : Int) (v11_5 : Bool) : Option R :=
  (bif v11_5 then (xN (bits .xor .i64 v11_0 (4129 : Int))) else (xN v11_0))
theorem f20_1000011x {R : Type} : ∃ f, f = @f20_1000011d R := ⟨_, rfl⟩
noncomputable def f20_1000011 {R : Type} := Classical.choose (f20_1000011x (R := R))
theorem f20_1000011_def {R : Type} : @f20_1000011 R = @f20_1000011d R := Classical.choose_spec f20_1000011x
noncomputable def f20_2b {R : Type} (k : Nat) (rec : Int → Int → Option R) (x2 : Int → Option R) (v2_1 : List Int) (v2_2 : Int) (v2_3 : Int) (v2_0 : Int) (v2_4 : Int) : Option R :=
  (bif decide (v2_4 < (8 : Int)) then (f20_1000011 k (fun y11_N_0 => (rec y11_N_0 (IntKind.i64.wrap (v2_4 + (1 : Int))))) (bits .and .i64 (IntKind.i64.wrap (v2_0 * 2 ^ 1)) (65535 : Int)) v2_1 v2_2 v2_3 v2_4 (bits .and .i64 v2_0 (32768 : Int) != (0 : Int))) else (x2 v2_0))
noncomputable def f20_2d {R : Type} (k : Nat) (x2 : Int → Option R) (v2_1 : List Int) (v2_2 : Int) (v2_3 : Int) : Nat → Int → Int → Option R
  | 0, _, _ => none
  | m + 1, v2_0, v2_4 => f20_2b k (f20_2d k x2 v2_1 v2_2 v2_3 m) x2 v2_1 v2_2 v2_3 v2_0 v2_4
theorem f20_2x {R : Type} : ∃ f, f = @f20_2d R := ⟨_, rfl⟩
noncomputable def f20_2 {R : Type} := Classical.choose (f20_2x (R := R))
theorem f20_2_def {R : Type} : @f20_2 R = @f20_2d R := Classical.choose_spec f20_2x
noncomputable def f20_0b {R : Type} (k : Nat) (rec : Int → Int → Option R) (x0 : Int → Option R) (v0_1 : List Int) (v0_2 : Int) (v0_0 : Int) (v0_3 : Int) : Option R :=
  (bif decide (v0_3 < v0_2) then (bif (decide ((0 : Int) ≤ v0_3) && decide (v0_3 < (v0_1.length : Int))) then (f20_2 k (fun y2_2_0 => (rec y2_2_0 (IntKind.i64.wrap (v0_3 + (1 : Int))))) v0_1 v0_2 v0_3 k (bits .xor .i64 v0_0 (IntKind.i64.wrap ((IntKind.i64.wrap (v0_1.getD (Int.toNat v0_3) (0 : Int))) * 2 ^ 8))) (0 : Int)) else none) else (x0 v0_0))
noncomputable def f20_0d {R : Type} (k : Nat) (x0 : Int → Option R) (v0_1 : List Int) (v0_2 : Int) : Nat → Int → Int → Option R
  | 0, _, _ => none
  | m + 1, v0_0, v0_3 => f20_0b k (f20_0d k x0 v0_1 v0_2 m) x0 v0_1 v0_2 v0_0 v0_3
theorem f20_0x {R : Type} : ∃ f, f = @f20_0d R := ⟨_, rfl⟩
noncomputable def f20_0 {R : Type} := Classical.choose (f20_0x (R := R))
theorem f20_0_def {R : Type} : @f20_0 R = @f20_0d R := Classical.choose_spec f20_0x
noncomputable def f20d {R : Type} (k : Nat) (a0 : List Int) (K : Int → Option R) : Option R := match k with
  | 0 => none
  | k + 1 => (f20_0 k (fun y0_0_0 => (K y0_0_0)) a0 (a0.length : Int) k (65535 : Int) (0 : Int))
theorem f20x {R : Type} : ∃ f, f = @f20d R := ⟨_, rfl⟩
noncomputable def f20 {R : Type} := Classical.choose (f20x (R := R))
theorem f20_def {R : Type} : @f20 R = @f20d R := Classical.choose_spec f20x
noncomputable def f23d {R : Type} (k : Nat) (a0 : List Int) (K : Int → Bool → Int → Int → Int → Int → List Int → Option R) : Option R := match k with
  | 0 => none
  | k + 1 => (bif decide ((a0.length : Int) < (6 : Int)) then (K (0 : Int) false (0 : Int) (0 : Int) (0 : Int) (9 : Int) ([] : List Int)) else (f68 k a0 (fun r8193_0 => (bif decide ((4 : Int) ≤ (a0.length : Int)) then (f68 k (a0.drop 4) (fun r8196_0 => (bif ((bits .andNot .i64 r8193_0 (6143 : Int) != (0 : Int)) == false) then (f69 k (IntKind.i64.wrap (r8196_0 - (1 : Int))) (1 : Int) (1000 : Int) (fun r10245_0 => (bif (!r10245_0) then (K (0 : Int) false (0 : Int) (0 : Int) (0 : Int) (3 : Int) ([] : List Int)) else (bif decide ((a0.length : Int) < IntKind.i64.wrap ((IntKind.i64.wrap (r8196_0 - (1 : Int))) + (8 : Int))) then (K (0 : Int) false (0 : Int) (0 : Int) (0 : Int) (9 : Int) ([] : List Int)) else (bif (decide ((0 : Int) ≤ IntKind.i64.wrap ((IntKind.i64.wrap (r8196_0 - (1 : Int))) + (6 : Int))) && decide (IntKind.i64.wrap ((IntKind.i64.wrap (r8196_0 - (1 : Int))) + (6 : Int)) ≤ (a0.length : Int))) then (f20 k (a0.take (Int.toNat (IntKind.i64.wrap ((IntKind.i64.wrap (r8196_0 - (1 : Int))) + (6 : Int))))) (fun r18436_0 => (bif (decide ((0 : Int) ≤ IntKind.i64.wrap ((IntKind.i64.wrap (r8196_0 - (1 : Int))) + (6 : Int))) && decide (IntKind.i64.wrap ((IntKind.i64.wrap (r8196_0 - (1 : Int))) + (6 : Int)) ≤ (a0.length : Int))) then (f68 k (a0.drop (Int.toNat (IntKind.i64.wrap ((IntKind.i64.wrap (r8196_0 - (1 : Int))) + (6 : Int))))) (fun r18441_0 => (bif (r18436_0 != r18441_0) then (K (0 : Int) false (0 : Int) (0 : Int) (0 : Int) (15 : Int) ([] : List Int)) else (bif decide ((2 : Int) ≤ (a0.length : Int)) then (f68 k (a0.drop 2) (fun r22530_0 => (bif (decide ((6 : Int) ≤ IntKind.i64.wrap ((IntKind.i64.wrap (r8196_0 - (1 : Int))) + (6 : Int))) && decide (IntKind.i64.wrap ((IntKind.i64.wrap (r8196_0 - (1 : Int))) + (6 : Int)) ≤ (a0.length : Int))) then (f41 k ((a0.take (Int.toNat (IntKind.i64.wrap ((IntKind.i64.wrap (r8196_0 - (1 : Int))) + (6 : Int))))).drop 6) (fun r24589_0 => (K (bits .and .i64 r8193_0 (2047 : Int)) (bits .and .i64 r8193_0 (4096 : Int) != (0 : Int)) (Int.fdiv r22530_0 (2 ^ 14)) (bits .and .i64 r22530_0 (16383 : Int)) (IntKind.i64.wrap ((IntKind.i64.wrap (r8196_0 - (1 : Int))) + (8 : Int))) (0 : Int) r24589_0))) else none))) else none)))) else none))) else none))))) else (K (0 : Int) false (0 : Int) (0 : Int) (0 : Int) (3 : Int) ([] : List Int))))) else none))))
theorem f23x {R : Type} : ∃ f, f = @f23d R := ⟨_, rfl⟩
noncomputable def f23 {R : Type} := Classical.choose (f23x (R := R))
theorem f23_def {R : Type} : @f23 R = @f23d R := Classical.choose_spec f23x
noncomputable def f86_1000007d {R : Type} (k : Nat) (xN : List (Int × (Bool × (Int × (Int × (List Int × Unit))))) → Option R) (v7_0 : Int) (v7_1 : Bool) (v7_2 : Bool) (v7_3 : Int) (v7_4 : List Int) (v7_5 : List (Int × (Bool × (Int × (Int × (List Int × Unit)))))) (v7_6 : Int) (v7_7 : Bool) (v7_8 : Int) (v7_9 : Int) (v7_10 : List Int) : Option R :=
  (bif v7_1 then (bif decide (v7_5.length + ([(v7_6, (v7_7, (v7_8, (v7_9, (v7_10, ())))))] : List (Int × (Bool × (Int × (Int × (List Int × Unit)))))).length ≤ LIM 56) then (xN (v7_5 ++ ([(v7_6, (v7_7, (v7_8, (v7_9, (v7_10, ())))))] : List (Int × (Bool × (Int × (Int × (List Int × Unit)))))))) else none) else (xN v7_5))
theorem f86_1000007x {R : Type} : ∃ f, f = @f86_1000007d R := ⟨_, rfl⟩
noncomputable def f86_1000007 {R : Type} := Classical.choose (f86_1000007x (R := R))
theorem f86_1000007_def {R : Type} : @f86_1000007 R = @f86_1000007d R := Classical.choose_spec f86_1000007x
noncomputable def f86_0b {R : Type} (k : Nat) (rec : List Int → List (Int × (Bool × (Int × (Int × (List Int × Unit))))) → Option R) (K : Bool → Int → List Int → List (Int × (Bool × (Int × (Int × (List Int × Unit))))) → Option R) (x0 : List Int → List (Int × (Bool × (Int × (Int × (List Int × Unit))))) → Option R) (v0_0 : Bool) (v0_1 : Int) (v0_2 : List Int) (v0_3 : List (Int × (Bool × (Int × (Int × (List Int × Unit)))))) : Option R :=
  (bif decide ((v0_2.length : Int) > (0 : Int)) then (f23 k v0_2 (fun r4100_0 r4100_1 r4100_2 r4100_3 r4100_4 r4100_5 r4100_6 => (bif (r4100_5 == (9 : Int)) then (K v0_0 v0_1 v0_2 v0_3) else (bif (r4100_5 != (0 : Int)) then (K false (IntKind.i64.wrap (v0_1 + (1 : Int))) ([] : List Int) v0_3) else (f86_1000007 k (fun y7_N_4 => (bif (decide ((0 : Int) ≤ r4100_4) && decide (r4100_4 ≤ (v0_2.length : Int))) then (rec ((v0_2.drop (Int.toNat r4100_4)).take (v0_2.length - (Int.toNat r4100_4))) y7_N_4) else none)) r4100_4 (r4100_0 != (2047 : Int)) v0_0 v0_1 v0_2 v0_3 r4100_0 r4100_1 r4100_2 r4100_3 r4100_6))))) else (x0 v0_2 v0_3))
noncomputable def f86_0d {R : Type} (k : Nat) (K : Bool → Int → List Int → List (Int × (Bool × (Int × (Int × (List Int × Unit))))) → Option R) (x0 : List Int → List (Int × (Bool × (Int × (Int × (List Int × Unit))))) → Option R) (v0_0 : Bool) (v0_1 : Int) : Nat → List Int → List (Int × (Bool × (Int × (Int × (List Int × Unit))))) → Option R
  | 0, _, _ => none
  | m + 1, v0_2, v0_3 => f86_0b k (f86_0d k K x0 v0_0 v0_1 m) K x0 v0_0 v0_1 v0_2 v0_3
theorem f86_0x {R : Type} : ∃ f, f = @f86_0d R := ⟨_, rfl⟩
noncomputable def f86_0 {R : Type} := Classical.choose (f86_0x (R := R))
theorem f86_0_def {R : Type} : @f86_0 R = @f86_0d R := Classical.choose_spec f86_0x
noncomputable def f86d {R : Type} (k : Nat) (a0 : Bool) (a1 : Int) (a2 : List Int) (a3 : List (Int × (Bool × (Int × (Int × (List Int × Unit)))))) (K : Bool → Int → List Int → List (Int × (Bool × (Int × (Int × (List Int × Unit))))) → Option R) : Option R := match k with
  | 0 => none
  | k + 1 => (f86_0 k K (fun y0_0_2 y0_0_3 => (K a0 a1 y0_0_2 y0_0_3)) a0 a1 k a2 a3)
theorem f86x {R : Type} : ∃ f, f = @f86d R := ⟨_, rfl⟩
noncomputable def f86 {R : Type} := Classical.choose (f86x (R := R))
theorem f86_def {R : Type} : @f86 R = @f86d R := Classical.choose_spec f86x
noncomputable def f51_0b {R : Type} (k : Nat) (rec : Int → Option R) (K : Int → Int → List (Int × (Bool × (Int × (Int × (List Int × Unit))))) → Option R) (x0 : Option R) (v0_0 : List ((Int × (Int × (Int × (Int × (List Int × Unit))))))) (v0_1 : Int) (v0_2 : List ((Int × (Int × (Int × (Int × (List Int × Unit))))))) (v0_3 : Int) (v0_4 : Int) : Option R :=
  (bif decide (v0_4 < v0_3) then (bif (decide ((0 : Int) ≤ v0_4) && decide (v0_4 < (v0_2.length : Int))) then (f36 k ((v0_2.getD (Int.toNat v0_4) ((0 : Int), ((0 : Int), ((0 : Int), ((0 : Int), (([] : List Int), ())))))).1) (((v0_2.getD (Int.toNat v0_4) ((0 : Int), ((0 : Int), ((0 : Int), ((0 : Int), (([] : List Int), ())))))).2).1) ((((v0_2.getD (Int.toNat v0_4) ((0 : Int), ((0 : Int), ((0 : Int), ((0 : Int), (([] : List Int), ())))))).2).2).1) (((((v0_2.getD (Int.toNat v0_4) ((0 : Int), ((0 : Int), ((0 : Int), ((0 : Int), (([] : List Int), ())))))).2).2).2).1) ((((((v0_2.getD (Int.toNat v0_4) ((0 : Int), ((0 : Int), ((0 : Int), ((0 : Int), (([] : List Int), ())))))).2).2).2).2).1) v0_1 (fun r20482_0 => (bif (r20482_0 != (0 : Int)) then (K (0 : Int) r20482_0 ([] : List ((Int × (Bool × (Int × (Int × (List Int × Unit)))))))) else (bif decide ((0 : Int) < (v0_0.length : Int)) then (bif (((v0_2.getD (Int.toNat v0_4) ((0 : Int), ((0 : Int), ((0 : Int), ((0 : Int), (([] : List Int), ())))))).1 != (v0_0.getD 0 ((0 : Int), ((0 : Int), ((0 : Int), ((0 : Int), (([] : List Int), ())))))).1) == false) then (bif decide ((0 : Int) < (v0_0.length : Int)) then (bif (((v0_2.getD (Int.toNat v0_4) ((0 : Int), ((0 : Int), ((0 : Int), ((0 : Int), (([] : List Int), ())))))).2).1 != ((v0_0.getD 0 ((0 : Int), ((0 : Int), ((0 : Int), ((0 : Int), (([] : List Int), ())))))).2).1) then (K (0 : Int) (12 : Int) ([] : List ((Int × (Bool × (Int × (Int × (List Int × Unit)))))))) else (rec (IntKind.i64.wrap (v0_4 + (1 : Int))))) else none) else (K (0 : Int) (12 : Int) ([] : List ((Int × (Bool × (Int × (Int × (List Int × Unit))))))))) else none)))) else none) else x0)
noncomputable def f51_0d {R : Type} (k : Nat) (K : Int → Int → List (Int × (Bool × (Int × (Int × (List Int × Unit))))) → Option R) (x0 : Option R) (v0_0 : List ((Int × (Int × (Int × (Int × (List Int × Unit))))))) (v0_1 : Int) (v0_2 : List ((Int × (Int × (Int × (Int × (List Int × Unit))))))) (v0_3 : Int) : Nat → Int → Option R
  | 0, _ => none
  | m + 1, v0_4 => f51_0b k (f51_0d k K x0 v0_0 v0_1 v0_2 v0_3 m) K x0 v0_0 v0_1 v0_2 v0_3 v0_4
theorem f51_0x {R : Type} : ∃ f, f = @f51_0d R := ⟨_, rfl⟩
noncomputable def f51_0 {R : Type} := Classical.choose (f51_0x (R := R))
theorem f51_0_def {R : Type} : @f51_0 R = @f51_0d R := Classical.choose_spec f51_0x
noncomputable def f51_1000021d {R : Type} (k : Nat) (xN : Bool → Int → Option R) (v21_0 : List ((Int × (Int × (Int × (Int × (List Int × Unit))))))) (v21_1 : List ((Int × (Int × (Int × (Int × (List Int × Unit))))))) (v21_2 : Int) (v21_3 : Int) (v21_4 : Bool) (v21_5 : Bool) (v21_6 : Int) (v21_7 : List Int) (v21_8 : List (Int × (Bool × (Int × (Int × (List Int × Unit)))))) (v21_9 : Int) (v21_10 : Int) (v21_11 : Int) (v21_12 : Int) (v21_13 : List Int) : Option R :=
  (bif v21_4 then (xN false (IntKind.i64.wrap (v21_6 + (1 : Int)))) else (xN v21_5 v21_6))
theorem f51_1000021x {R : Type} : ∃ f, f = @f51_1000021d R := ⟨_, rfl⟩
noncomputable def f51_1000021 {R : Type} := Classical.choose (f51_1000021x (R := R))
theorem f51_1000021_def {R : Type} : @f51_1000021 R = @f51_1000021d R := Classical.choose_spec f51_1000021x
noncomputable def f51_1000025d {R : Type} (k : Nat) (x3 : List Int → Option R) (xN : List Int → Bool → List Int → Option R) (v25_0 : List ((Int × (Int × (Int × (Int × (List Int × Unit))))))) (v25_1 : List Int) (v25_2 : List ((Int × (Int × (Int × (Int × (List Int × Unit))))))) (v25_3 : Int) (v25_4 : Int) (v25_5 : Bool) (v25_6 : Bool) (v25_7 : Int) (v25_8 : List Int) (v25_9 : List (Int × (Bool × (Int × (Int × (List Int × Unit)))))) (v25_10 : Int) (v25_11 : Int) (v25_12 : Int) (v25_13 : Int) (v25_14 : List Int) : Option R :=
  (bif v25_5 then (bif (v25_13 == (2047 : Int)) then (x3 ([] : List Int)) else (bif (decide ((0 : Int) ≤ v25_13) && decide (v25_13 ≤ (v25_14.length : Int))) then (xN (v25_14.drop (Int.toNat v25_13)) true ([] : List Int)) else none)) else (xN v25_1 v25_6 v25_8))
theorem f51_1000025x {R : Type} : ∃ f, f = @f51_1000025d R := ⟨_, rfl⟩
noncomputable def f51_1000025 {R : Type} := Classical.choose (f51_1000025x (R := R))
theorem f51_1000025_def {R : Type} : @f51_1000025 R = @f51_1000025d R := Classical.choose_spec f51_1000025x
noncomputable def f51_3d {R : Type} (k : Nat) (x3 : Bool → Int → List Int → List (Int × (Bool × (Int × (Int × (List Int × Unit))))) → Option R) (v3_0 : List ((Int × (Int × (Int × (Int × (List Int × Unit))))))) (v3_1 : List ((Int × (Int × (Int × (Int × (List Int × Unit))))))) (v3_2 : Int) (v3_3 : Int) (v3_4 : Bool) (v3_5 : Int) (v3_6 : List Int) (v3_7 : List (Int × (Bool × (Int × (Int × (List Int × Unit)))))) : Option R :=
  (bif (decide ((0 : Int) ≤ v3_3) && decide (v3_3 < (v3_1.length : Int))) then (bif (decide (v3_3 > (0 : Int)) == true) then (bif (decide ((0 : Int) ≤ IntKind.i64.wrap (v3_3 - (1 : Int))) && decide (IntKind.i64.wrap (v3_3 - (1 : Int)) < (v3_0.length : Int))) then (bif ((((v3_1.getD (Int.toNat v3_3) ((0 : Int), ((0 : Int), ((0 : Int), ((0 : Int), (([] : List Int), ())))))).2).2).1 == (((v3_0.getD (Int.toNat (IntKind.i64.wrap (v3_3 - (1 : Int)))) ((0 : Int), ((0 : Int), ((0 : Int), ((0 : Int), (([] : List Int), ())))))).2).2).1) then (x3 v3_4 v3_5 v3_6 v3_7) else (bif (decide (v3_3 > (0 : Int)) == true) then (bif (decide ((0 : Int) ≤ IntKind.i64.wrap (v3_3 - (1 : Int))) && decide (IntKind.i64.wrap (v3_3 - (1 : Int)) < (v3_0.length : Int))) then (f51_1000021 k (fun y21_N_4 y21_N_5 => (f51_1000025 k (fun y25_3_6 => (x3 y21_N_4 y21_N_5 y25_3_6 v3_7)) (fun y25_N_1 y25_N_5 y25_N_7 => (f40 k ([y25_N_7, y25_N_1] : List (List Int)) (fun r59399_0 => (f86 k y25_N_5 y21_N_5 r59399_0 v3_7 (fun r61441_0 r61441_1 r61441_2 r61441_3 => (x3 r61441_0 r61441_1 r61441_2 r61441_3)))))) v3_0 ((((((v3_1.getD (Int.toNat v3_3) ((0 : Int), ((0 : Int), ((0 : Int), ((0 : Int), (([] : List Int), ())))))).2).2).2).2).1) v3_1 v3_2 v3_3 (!y21_N_4) y21_N_4 y21_N_5 v3_6 v3_7 ((v3_1.getD (Int.toNat v3_3) ((0 : Int), ((0 : Int), ((0 : Int), ((0 : Int), (([] : List Int), ())))))).1) (((v3_1.getD (Int.toNat v3_3) ((0 : Int), ((0 : Int), ((0 : Int), ((0 : Int), (([] : List Int), ())))))).2).1) ((((v3_1.getD (Int.toNat v3_3) ((0 : Int), ((0 : Int), ((0 : Int), ((0 : Int), (([] : List Int), ())))))).2).2).1) (((((v3_1.getD (Int.toNat v3_3) ((0 : Int), ((0 : Int), ((0 : Int), ((0 : Int), (([] : List Int), ())))))).2).2).2).1) ((((((v3_1.getD (Int.toNat v3_3) ((0 : Int), ((0 : Int), ((0 : Int), ((0 : Int), (([] : List Int), ())))))).2).2).2).2).1))) v3_0 v3_1 v3_2 v3_3 ((((v3_1.getD (Int.toNat v3_3) ((0 : Int), ((0 : Int), ((0 : Int), ((0 : Int), (([] : List Int), ())))))).2).2).1 != Int.tmod (IntKind.i64.wrap (((((v3_0.getD (Int.toNat (IntKind.i64.wrap (v3_3 - (1 : Int)))) ((0 : Int), ((0 : Int), ((0 : Int), ((0 : Int), (([] : List Int), ())))))).2).2).1) + (1 : Int))) (256 : Int)) v3_4 v3_5 v3_6 v3_7 ((v3_1.getD (Int.toNat v3_3) ((0 : Int), ((0 : Int), ((0 : Int), ((0 : Int), (([] : List Int), ())))))).1) (((v3_1.getD (Int.toNat v3_3) ((0 : Int), ((0 : Int), ((0 : Int), ((0 : Int), (([] : List Int), ())))))).2).1) ((((v3_1.getD (Int.toNat v3_3) ((0 : Int), ((0 : Int), ((0 : Int), ((0 : Int), (([] : List Int), ())))))).2).2).1) (((((v3_1.getD (Int.toNat v3_3) ((0 : Int), ((0 : Int), ((0 : Int), ((0 : Int), (([] : List Int), ())))))).2).2).2).1) ((((((v3_1.getD (Int.toNat v3_3) ((0 : Int), ((0 : Int), ((0 : Int), ((0 : Int), (([] : List Int), ())))))).2).2).2).2).1)) else none) else (f51_1000021 k (fun y21_N_4 y21_N_5 => (f51_1000025 k (fun y25_3_6 => (x3 y21_N_4 y21_N_5 y25_3_6 v3_7)) (fun y25_N_1 y25_N_5 y25_N_7 => (f40 k ([y25_N_7, y25_N_1] : List (List Int)) (fun r59399_0 => (f86 k y25_N_5 y21_N_5 r59399_0 v3_7 (fun r61441_0 r61441_1 r61441_2 r61441_3 => (x3 r61441_0 r61441_1 r61441_2 r61441_3)))))) v3_0 ((((((v3_1.getD (Int.toNat v3_3) ((0 : Int), ((0 : Int), ((0 : Int), ((0 : Int), (([] : List Int), ())))))).2).2).2).2).1) v3_1 v3_2 v3_3 (!y21_N_4) y21_N_4 y21_N_5 v3_6 v3_7 ((v3_1.getD (Int.toNat v3_3) ((0 : Int), ((0 : Int), ((0 : Int), ((0 : Int), (([] : List Int), ())))))).1) (((v3_1.getD (Int.toNat v3_3) ((0 : Int), ((0 : Int), ((0 : Int), ((0 : Int), (([] : List Int), ())))))).2).1) ((((v3_1.getD (Int.toNat v3_3) ((0 : Int), ((0 : Int), ((0 : Int), ((0 : Int), (([] : List Int), ())))))).2).2).1) (((((v3_1.getD (Int.toNat v3_3) ((0 : Int), ((0 : Int), ((0 : Int), ((0 : Int), (([] : List Int), ())))))).2).2).2).1) ((((((v3_1.getD (Int.toNat v3_3) ((0 : Int), ((0 : Int), ((0 : Int), ((0 : Int), (([] : List Int), ())))))).2).2).2).2).1))) v3_0 v3_1 v3_2 v3_3 false v3_4 v3_5 v3_6 v3_7 ((v3_1.getD (Int.toNat v3_3) ((0 : Int), ((0 : Int), ((0 : Int), ((0 : Int), (([] : List Int), ())))))).1) (((v3_1.getD (Int.toNat v3_3) ((0 : Int), ((0 : Int), ((0 : Int), ((0 : Int), (([] : List Int), ())))))).2).1) ((((v3_1.getD (Int.toNat v3_3) ((0 : Int), ((0 : Int), ((0 : Int), ((0 : Int), (([] : List Int), ())))))).2).2).1) (((((v3_1.getD (Int.toNat v3_3) ((0 : Int), ((0 : Int), ((0 : Int), ((0 : Int), (([] : List Int), ())))))).2).2).2).1) ((((((v3_1.getD (Int.toNat v3_3) ((0 : Int), ((0 : Int), ((0 : Int), ((0 : Int), (([] : List Int), ())))))).2).2).2).2).1)))) else none) else (bif (decide (v3_3 > (0 : Int)) == true) then (bif (decide ((0 : Int) ≤ IntKind.i64.wrap (v3_3 - (1 : Int))) && decide (IntKind.i64.wrap (v3_3 - (1 : Int)) < (v3_0.length : Int))) then (f51_1000021 k (fun y21_N_4 y21_N_5 => (f51_1000025 k (fun y25_3_6 => (x3 y21_N_4 y21_N_5 y25_3_6 v3_7)) (fun y25_N_1 y25_N_5 y25_N_7 => (f40 k ([y25_N_7, y25_N_1] : List (List Int)) (fun r59399_0 => (f86 k y25_N_5 y21_N_5 r59399_0 v3_7 (fun r61441_0 r61441_1 r61441_2 r61441_3 => (x3 r61441_0 r61441_1 r61441_2 r61441_3)))))) v3_0 ((((((v3_1.getD (Int.toNat v3_3) ((0 : Int), ((0 : Int), ((0 : Int), ((0 : Int), (([] : List Int), ())))))).2).2).2).2).1) v3_1 v3_2 v3_3 (!y21_N_4) y21_N_4 y21_N_5 v3_6 v3_7 ((v3_1.getD (Int.toNat v3_3) ((0 : Int), ((0 : Int), ((0 : Int), ((0 : Int), (([] : List Int), ())))))).1) (((v3_1.getD (Int.toNat v3_3) ((0 : Int), ((0 : Int), ((0 : Int), ((0 : Int), (([] : List Int), ())))))).2).1) ((((v3_1.getD (Int.toNat v3_3) ((0 : Int), ((0 : Int), ((0 : Int), ((0 : Int), (([] : List Int), ())))))).2).2).1) (((((v3_1.getD (Int.toNat v3_3) ((0 : Int), ((0 : Int), ((0 : Int), ((0 : Int), (([] : List Int), ())))))).2).2).2).1) ((((((v3_1.getD (Int.toNat v3_3) ((0 : Int), ((0 : Int), ((0 : Int), ((0 : Int), (([] : List Int), ())))))).2).2).2).2).1))) v3_0 v3_1 v3_2 v3_3 ((((v3_1.getD (Int.toNat v3_3) ((0 : Int), ((0 : Int), ((0 : Int), ((0 : Int), (([] : List Int), ())))))).2).2).1 != Int.tmod (IntKind.i64.wrap (((((v3_0.getD (Int.toNat (IntKind.i64.wrap (v3_3 - (1 : Int)))) ((0 : Int), ((0 : Int), ((0 : Int), ((0 : Int), (([] : List Int), ())))))).2).2).1) + (1 : Int))) (256 : Int)) v3_4 v3_5 v3_6 v3_7 ((v3_1.getD (Int.toNat v3_3) ((0 : Int), ((0 : Int), ((0 : Int), ((0 : Int), (([] : List Int), ())))))).1) (((v3_1.getD (Int.toNat v3_3) ((0 : Int), ((0 : Int), ((0 : Int), ((0 : Int), (([] : List Int), ())))))).2).1) ((((v3_1.getD (Int.toNat v3_3) ((0 : Int), ((0 : Int), ((0 : Int), ((0 : Int), (([] : List Int), ())))))).2).2).1) (((((v3_1.getD (Int.toNat v3_3) ((0 : Int), ((0 : Int), ((0 : Int), ((0 : Int), (([] : List Int), ())))))).2).2).2).1) ((((((v3_1.getD (Int.toNat v3_3) ((0 : Int), ((0 : Int), ((0 : Int), ((0 : Int), (([] : List Int), ())))))).2).2).2).2).1)) else none) else (f51_1000021 k (fun y21_N_4 y21_N_5 => (f51_1000025 k (fun y25_3_6 => (x3 y21_N_4 y21_N_5 y25_3_6 v3_7)) (fun y25_N_1 y25_N_5 y25_N_7 => (f40 k ([y25_N_7, y25_N_1] : List (List Int)) (fun r59399_0 => (f86 k y25_N_5 y21_N_5 r59399_0 v3_7 (fun r61441_0 r61441_1 r61441_2 r61441_3 => (x3 r61441_0 r61441_1 r61441_2 r61441_3)))))) v3_0 ((((((v3_1.getD (Int.toNat v3_3) ((0 : Int), ((0 : Int), ((0 : Int), ((0 : Int), (([] : List Int), ())))))).2).2).2).2).1) v3_1 v3_2 v3_3 (!y21_N_4) y21_N_4 y21_N_5 v3_6 v3_7 ((v3_1.getD (Int.toNat v3_3) ((0 : Int), ((0 : Int), ((0 : Int), ((0 : Int), (([] : List Int), ())))))).1) (((v3_1.getD (Int.toNat v3_3) ((0 : Int), ((0 : Int), ((0 : Int), ((0 : Int), (([] : List Int), ())))))).2).1) ((((v3_1.getD (Int.toNat v3_3) ((0 : Int), ((0 : Int), ((0 : Int), ((0 : Int), (([] : List Int), ())))))).2).2).1) (((((v3_1.getD (Int.toNat v3_3) ((0 : Int), ((0 : Int), ((0 : Int), ((0 : Int), (([] : List Int), ())))))).2).2).2).1) ((((((v3_1.getD (Int.toNat v3_3) ((0 : Int), ((0 : Int), ((0 : Int), ((0 : Int), (([] : List Int), ())))))).2).2).2).2).1))) v3_0 v3_1 v3_2 v3_3 false v3_4 v3_5 v3_6 v3_7 ((v3_1.getD (Int.toNat v3_3) ((0 : Int), ((0 : Int), ((0 : Int), ((0 : Int), (([] : List Int), ())))))).1) (((v3_1.getD (Int.toNat v3_3) ((0 : Int), ((0 : Int), ((0 : Int), ((0 : Int), (([] : List Int), ())))))).2).1) ((((v3_1.getD (Int.toNat v3_3) ((0 : Int), ((0 : Int), ((0 : Int), ((0 : Int), (([] : List Int), ())))))).2).2).1) (((((v3_1.getD (Int.toNat v3_3) ((0 : Int), ((0 : Int), ((0 : Int), ((0 : Int), (([] : List Int), ())))))).2).2).2).1) ((((((v3_1.getD (Int.toNat v3_3) ((0 : Int), ((0 : Int), ((0 : Int), ((0 : Int), (([] : List Int), ())))))).2).2).2).2).1)))) else none)
theorem f51_3x {R : Type} : ∃ f, f = @f51_3d R := ⟨_, rfl⟩
noncomputable def f51_3 {R : Type} := Classical.choose (f51_3x (R := R))
theorem f51_3_def {R : Type} : @f51_3 R = @f51_3d R := Classical.choose_spec f51_3x
noncomputable def f51_2b {R : Type} (k : Nat) (rec : Int → Bool → Int → List Int → List (Int × (Bool × (Int × (Int × (List Int × Unit))))) → Option R) (x2 : Bool → Int → List Int → List (Int × (Bool × (Int × (Int × (List Int × Unit))))) → Option R) (v2_0 : List ((Int × (Int × (Int × (Int × (List Int × Unit))))))) (v2_1 : List ((Int × (Int × (Int × (Int × (List Int × Unit))))))) (v2_2 : Int) (v2_3 : Int) (v2_4 : Bool) (v2_5 : Int) (v2_6 : List Int) (v2_7 : List (Int × (Bool × (Int × (Int × (List Int × Unit)))))) : Option R :=
  (bif decide (v2_3 < v2_2) then (f51_3 k (fun y3_3_4 y3_3_5 y3_3_6 y3_3_7 => (rec (IntKind.i64.wrap (v2_3 + (1 : Int))) y3_3_4 y3_3_5 y3_3_6 y3_3_7)) v2_0 v2_1 v2_2 v2_3 v2_4 v2_5 v2_6 v2_7) else (x2 v2_4 v2_5 v2_6 v2_7))
noncomputable def f51_2d {R : Type} (k : Nat) (x2 : Bool → Int → List Int → List (Int × (Bool × (Int × (Int × (List Int × Unit))))) → Option R) (v2_0 : List ((Int × (Int × (Int × (Int × (List Int × Unit))))))) (v2_1 : List ((Int × (Int × (Int × (Int × (List Int × Unit))))))) (v2_2 : Int) : Nat → Int → Bool → Int → List Int → List (Int × (Bool × (Int × (Int × (List Int × Unit))))) → Option R
  | 0, _, _, _, _, _ => none
  | m + 1, v2_3, v2_4, v2_5, v2_6, v2_7 => f51_2b k (f51_2d k x2 v2_0 v2_1 v2_2 m) x2 v2_0 v2_1 v2_2 v2_3 v2_4 v2_5 v2_6 v2_7
theorem f51_2x {R : Type} : ∃ f, f = @f51_2d R := ⟨_, rfl⟩
noncomputable def f51_2 {R : Type} := Classical.choose (f51_2x (R := R))
theorem f51_2_def {R : Type} : @f51_2 R = @f51_2d R := Classical.choose_spec f51_2x
noncomputable def f51d {R : Type} (k : Nat) (a0 : List ((Int × (Int × (Int × (Int × (List Int × Unit))))))) (a1 : Int) (K : Int → Int → List (Int × (Bool × (Int × (Int × (List Int × Unit))))) → Option R) : Option R := match k with
  | 0 => none
  | k + 1 => (f76 k a1 (fun r4097_0 => (bif (r4097_0 != (0 : Int)) then (K (0 : Int) r4097_0 ([] : List ((Int × (Bool × (Int × (Int × (List Int × Unit)))))))) else (bif decide ((a0.length : Int) > (1000 : Int)) then (K (0 : Int) (2 : Int) ([] : List ((Int × (Bool × (Int × (Int × (List Int × Unit)))))))) else (f51_0 k K (f51_2 k (fun y2_2_0 y2_2_1 y2_2_2 y2_2_3 => (K y2_2_1 (0 : Int) y2_2_3)) a0 a0 (a0.length : Int) k (0 : Int) false (0 : Int) ([] : List Int) ([] : List ((Int × (Bool × (Int × (Int × (List Int × Unit)))))))) a0 a1 a0 (a0.length : Int) k (0 : Int))))))
theorem f51x {R : Type} : ∃ f, f = @f51d R := ⟨_, rfl⟩
noncomputable def f51 {R : Type} := Classical.choose (f51x (R := R))
theorem f51_def {R : Type} : @f51 R = @f51d R := Classical.choose_spec f51x
noncomputable def f32_0b {R : Type} (k : Nat) (rec : Int → Option R) (K : Bool → Option R) (x0 : Option R) (v0_0 : List Int) (v0_1 : List Int) (v0_2 : Int) (v0_3 : Int) : Option R :=
  (bif decide (v0_3 < v0_2) then (bif (decide ((0 : Int) ≤ v0_3) && decide (v0_3 < (v0_0.length : Int))) then (bif (decide ((0 : Int) ≤ v0_3) && decide (v0_3 < (v0_1.length : Int))) then (bif ((v0_0.getD (Int.toNat v0_3) (0 : Int)) != (v0_1.getD (Int.toNat v0_3) (0 : Int))) then (K false) else (rec (IntKind.i64.wrap (v0_3 + (1 : Int))))) else none) else none) else x0)
noncomputable def f32_0d {R : Type} (k : Nat) (K : Bool → Option R) (x0 : Option R) (v0_0 : List Int) (v0_1 : List Int) (v0_2 : Int) : Nat → Int → Option R
  | 0, _ => none
  | m + 1, v0_3 => f32_0b k (f32_0d k K x0 v0_0 v0_1 v0_2 m) K x0 v0_0 v0_1 v0_2 v0_3
theorem f32_0x {R : Type} : ∃ f, f = @f32_0d R := ⟨_, rfl⟩
noncomputable def f32_0 {R : Type} := Classical.choose (f32_0x (R := R))
theorem f32_0_def {R : Type} : @f32_0 R = @f32_0d R := Classical.choose_spec f32_0x
noncomputable def f32d {R : Type} (k : Nat) (a0 : List Int) (a1 : List Int) (K : Bool → Option R) : Option R := match k with
  | 0 => none
  | k + 1 => (bif ((a0.length : Int) != (a1.length : Int)) then (K false) else (f32_0 k K (K true) a0 a1 (a0.length : Int) k (0 : Int)))
theorem f32x {R : Type} : ∃ f, f = @f32d R := ⟨_, rfl⟩
noncomputable def f32 {R : Type} := Classical.choose (f32x (R := R))
theorem f32_def {R : Type} : @f32 R = @f32d R := Classical.choose_spec f32x
noncomputable def f24d {R : Type} (k : Nat) (a0 : Int) (a1 : Bool) (a2 : Int) (a3 : Int) (a4 : List Int) (a5 : Int) (a6 : Bool) (a7 : Int) (a8 : Int) (a9 : List Int) (K : Bool → Option R) : Option R := match k with
  | 0 => none
  | k + 1 => (bif ((a0 == a5) == true) then (bif ((a1 == a6) == true) then (bif ((a2 == a7) == true) then (bif ((a3 == a8) == true) then (f32 k a4 a9 (fun r4127_0 => (K r4127_0))) else (K false)) else (K false)) else (K false)) else (K false))
theorem f24x {R : Type} : ∃ f, f = @f24d R := ⟨_, rfl⟩
noncomputable def f24 {R : Type} := Classical.choose (f24x (R := R))
theorem f24_def {R : Type} : @f24 R = @f24d R := Classical.choose_spec f24x
noncomputable def f27_0b {R : Type} (k : Nat) (rec : Int → Option R) (K : Bool → Option R) (x0 : Option R) (v0_0 : List ((Int × (Bool × (Int × (Int × (List Int × Unit))))))) (v0_1 : List ((Int × (Bool × (Int × (Int × (List Int × Unit))))))) (v0_2 : Int) (v0_3 : Int) : Option R :=
  (bif decide (v0_3 < v0_2) then (bif (decide ((0 : Int) ≤ v0_3) && decide (v0_3 < (v0_0.length : Int))) then (bif (decide ((0 : Int) ≤ v0_3) && decide (v0_3 < (v0_1.length : Int))) then (f24 k ((v0_0.getD (Int.toNat v0_3) ((0 : Int), (false, ((0 : Int), ((0 : Int), (([] : List Int), ())))))).1) (((v0_0.getD (Int.toNat v0_3) ((0 : Int), (false, ((0 : Int), ((0 : Int), (([] : List Int), ())))))).2).1) ((((v0_0.getD (Int.toNat v0_3) ((0 : Int), (false, ((0 : Int), ((0 : Int), (([] : List Int), ())))))).2).2).1) (((((v0_0.getD (Int.toNat v0_3) ((0 : Int), (false, ((0 : Int), ((0 : Int), (([] : List Int), ())))))).2).2).2).1) ((((((v0_0.getD (Int.toNat v0_3) ((0 : Int), (false, ((0 : Int), ((0 : Int), (([] : List Int), ())))))).2).2).2).2).1) ((v0_1.getD (Int.toNat v0_3) ((0 : Int), (false, ((0 : Int), ((0 : Int), (([] : List Int), ())))))).1) (((v0_1.getD (Int.toNat v0_3) ((0 : Int), (false, ((0 : Int), ((0 : Int), (([] : List Int), ())))))).2).1) ((((v0_1.getD (Int.toNat v0_3) ((0 : Int), (false, ((0 : Int), ((0 : Int), (([] : List Int), ())))))).2).2).1) (((((v0_1.getD (Int.toNat v0_3) ((0 : Int), (false, ((0 : Int), ((0 : Int), (([] : List Int), ())))))).2).2).2).1) ((((((v0_1.getD (Int.toNat v0_3) ((0 : Int), (false, ((0 : Int), ((0 : Int), (([] : List Int), ())))))).2).2).2).2).1) (fun r14344_0 => (bif (!r14344_0) then (K false) else (rec (IntKind.i64.wrap (v0_3 + (1 : Int))))))) else none) else none) else x0)
noncomputable def f27_0d {R : Type} (k : Nat) (K : Bool → Option R) (x0 : Option R) (v0_0 : List ((Int × (Bool × (Int × (Int × (List Int × Unit))))))) (v0_1 : List ((Int × (Bool × (Int × (Int × (List Int × Unit))))))) (v0_2 : Int) : Nat → Int → Option R
  | 0, _ => none
  | m + 1, v0_3 => f27_0b k (f27_0d k K x0 v0_0 v0_1 v0_2 m) K x0 v0_0 v0_1 v0_2 v0_3
theorem f27_0x {R : Type} : ∃ f, f = @f27_0d R := ⟨_, rfl⟩
noncomputable def f27_0 {R : Type} := Classical.choose (f27_0x (R := R))
theorem f27_0_def {R : Type} : @f27_0 R = @f27_0d R := Classical.choose_spec f27_0x
noncomputable def f27d {R : Type} (k : Nat) (a0 : List ((Int × (Bool × (Int × (Int × (List Int × Unit))))))) (a1 : List ((Int × (Bool × (Int × (Int × (List Int × Unit))))))) (K : Bool → Option R) : Option R := match k with
  | 0 => none
  | k + 1 => (bif ((a0.length : Int) != (a1.length : Int)) then (K false) else (f27_0 k K (K true) a0 a1 (a0.length : Int) k (0 : Int)))
theorem f27x {R : Type} : ∃ f, f = @f27d R := ⟨_, rfl⟩
noncomputable def f27 {R : Type} := Classical.choose (f27x (R := R))
theorem f27_def {R : Type} : @f27 R = @f27d R := Classical.choose_spec f27x
noncomputable def f21d {R : Type} (k : Nat) (K : Bool → Option R) : Option R := match k with
  | 0 => none
  | k + 1 => (bif decide (0 < ([(49 : Int), (50 : Int), (51 : Int), (52 : Int), (53 : Int), (54 : Int), (55 : Int), (56 : Int), (57 : Int)] : List Int).length) then (f19 k ([(49 : Int), (50 : Int), (51 : Int), (52 : Int), (53 : Int), (54 : Int), (55 : Int), (56 : Int), (57 : Int)] : List Int) (fun r4098_0 => (K (r4098_0 == (10673 : Int))))) else none)
theorem f21x {R : Type} : ∃ f, f = @f21d R := ⟨_, rfl⟩
noncomputable def f21 {R : Type} := Classical.choose (f21x (R := R))
theorem f21_def {R : Type} : @f21 R = @f21d R := Classical.choose_spec f21x
noncomputable def f12d {R : Type} (k : Nat) (a0 : List ((Int × (Int × (Int × (Int × (List Int × Unit))))))) (a1 : Int) (K : Bool → Option R) : Option R := match k with
  | 0 => none
  | k + 1 => (f50 k a0 a1 (fun r4098_0 r4098_1 r4098_2 => (f51 k a0 a1 (fun r6146_0 r6146_1 r6146_2 => (bif ((r4098_1 == r6146_1) == true) then (bif ((r4098_0 == r6146_0) == true) then (f27 k r4098_2 r6146_2 (fun r8203_0 => (bif (r8203_0 == true) then (f21 k (fun r8206_0 => (K r8206_0))) else (K false)))) else (K false)) else (K false))))))
theorem f12x {R : Type} : ∃ f, f = @f12d R := ⟨_, rfl⟩
noncomputable def f12 {R : Type} := Classical.choose (f12x (R := R))
theorem f12_def {R : Type} : @f12 R = @f12d R := Classical.choose_spec f12x
noncomputable def f30d {R : Type} (k : Nat) (a0 : Int) (a1 : Bool) (a2 : Int) (a3 : Int) (a4 : List Int) (K : Int → Option R) : Option R := match k with
  | 0 => none
  | k + 1 => (f66 k a0 (0 : Int) (2047 : Int) (fun r4098_0 => (bif (!r4098_0) then (K (1 : Int)) else (f66 k a2 (0 : Int) (3 : Int) (fun r8194_0 => (bif (!r8194_0) then (K (4 : Int)) else (f66 k a3 (0 : Int) (16383 : Int) (fun r12290_0 => (bif (!r12290_0) then (K (1 : Int)) else (bif ((a4.length : Int) == (0 : Int)) then (K (9 : Int)) else (bif decide ((a4.length : Int) > (1000 : Int)) then (K (2 : Int)) else (K (0 : Int)))))))))))))
theorem f30x {R : Type} : ∃ f, f = @f30d R := ⟨_, rfl⟩
noncomputable def f30 {R : Type} := Classical.choose (f30x (R := R))
theorem f30_def {R : Type} : @f30 R = @f30d R := Classical.choose_spec f30x
noncomputable def f83_0b {R : Type} (k : Nat) (rec : Int → Option R) (K : Int → Option R) (x0 : Option R) (v0_0 : List ((Int × (Bool × (Int × (Int × (List Int × Unit))))))) (v0_1 : Int) (v0_2 : Int) : Option R :=
  (bif decide (v0_2 < v0_1) then (bif (decide ((0 : Int) ≤ v0_2) && decide (v0_2 < (v0_0.length : Int))) then (f30 k ((v0_0.getD (Int.toNat v0_2) ((0 : Int), (false, ((0 : Int), ((0 : Int), (([] : List Int), ())))))).1) (((v0_0.getD (Int.toNat v0_2) ((0 : Int), (false, ((0 : Int), ((0 : Int), (([] : List Int), ())))))).2).1) ((((v0_0.getD (Int.toNat v0_2) ((0 : Int), (false, ((0 : Int), ((0 : Int), (([] : List Int), ())))))).2).2).1) (((((v0_0.getD (Int.toNat v0_2) ((0 : Int), (false, ((0 : Int), ((0 : Int), (([] : List Int), ())))))).2).2).2).1) ((((((v0_0.getD (Int.toNat v0_2) ((0 : Int), (false, ((0 : Int), ((0 : Int), (([] : List Int), ())))))).2).2).2).2).1) (fun r14337_0 => (bif (r14337_0 != (0 : Int)) then (K r14337_0) else (rec (IntKind.i64.wrap (v0_2 + (1 : Int))))))) else none) else x0)
noncomputable def f83_0d {R : Type} (k : Nat) (K : Int → Option R) (x0 : Option R) (v0_0 : List ((Int × (Bool × (Int × (Int × (List Int × Unit))))))) (v0_1 : Int) : Nat → Int → Option R
  | 0, _ => none
  | m + 1, v0_2 => f83_0b k (f83_0d k K x0 v0_0 v0_1 m) K x0 v0_0 v0_1 v0_2
theorem f83_0x {R : Type} : ∃ f, f = @f83_0d R := ⟨_, rfl⟩
noncomputable def f83_0 {R : Type} := Classical.choose (f83_0x (R := R))
theorem f83_0_def {R : Type} : @f83_0 R = @f83_0d R := Classical.choose_spec f83_0x
noncomputable def f83d {R : Type} (k : Nat) (a0 : List ((Int × (Bool × (Int × (Int × (List Int × Unit))))))) (K : Int → Option R) : Option R := match k with
  | 0 => none
  | k + 1 => (bif decide ((a0.length : Int) > (2000 : Int)) then (K (2 : Int)) else (f83_0 k K (K (0 : Int)) a0 (a0.length : Int) k (0 : Int)))
theorem f83x {R : Type} : ∃ f, f = @f83d R := ⟨_, rfl⟩
noncomputable def f83 {R : Type} := Classical.choose (f83x (R := R))
theorem f83_def {R : Type} : @f83 R = @f83d R := Classical.choose_spec f83x
noncomputable def f72d {R : Type} (k : Nat) (a0 : Int) (K : List Int → Option R) : Option R := match k with
  | 0 => none
  | k + 1 => (K ([IntKind.u8.wrap (Int.fdiv a0 (2 ^ 8)), IntKind.u8.wrap a0] : List Int))
theorem f72x {R : Type} : ∃ f, f = @f72d R := ⟨_, rfl⟩
noncomputable def f72 {R : Type} := Classical.choose (f72x (R := R))
theorem f72_def {R : Type} : @f72 R = @f72d R := Classical.choose_spec f72x
noncomputable def f73d {R : Type} (k : Nat) (a0 : List Int) (K : List Int → Option R) : Option R := match k with
  | 0 => none
  | k + 1 => (f19 k a0 (fun r4098_0 => (f72 k r4098_0 (fun r4099_0 => (bif decide (a0.length + r4099_0.length ≤ LIM 1) then (K (a0 ++ r4099_0)) else none)))))
theorem f73x {R : Type} : ∃ f, f = @f73d R := ⟨_, rfl⟩
noncomputable def f73 {R : Type} := Classical.choose (f73x (R := R))
theorem f73_def {R : Type} : @f73 R = @f73d R := Classical.choose_spec f73x
noncomputable def f70_1000003d {R : Type} (k : Nat) (xN : Int → Option R) (v3_0 : Int) (v3_1 : Bool) (v3_2 : Int) (v3_3 : Bool) (v3_4 : Int) (v3_5 : Int) (v3_6 : List Int) : Option R :=
  (bif v3_1 then (xN (IntKind.i64.wrap (v3_0 + (4096 : Int)))) else (xN v3_0))
theorem f70_1000003x {R : Type} : ∃ f, f = @f70_1000003d R := ⟨_, rfl⟩
noncomputable def f70_1000003 {R : Type} := Classical.choose (f70_1000003x (R := R))
theorem f70_1000003_def {R : Type} : @f70_1000003 R = @f70_1000003d R := Classical.choose_spec f70_1000003x
noncomputable def f70d {R : Type} (k : Nat) (a0 : Int) (a1 : Bool) (a2 : Int) (a3 : Int) (a4 : List Int) (K : List Int → Option R) : Option R := match k with
  | 0 => none
  | k + 1 => (f70_1000003 k (fun y3_N_0 => (f72 k y3_N_0 (fun r10241_0 => (f72 k (IntKind.i64.wrap ((IntKind.i64.wrap (a2 * (16384 : Int))) + a3)) (fun r10248_0 => (bif decide (r10241_0.length + r10248_0.length ≤ LIM 1) then (f72 k (IntKind.i64.wrap ((a4.length : Int) + (1 : Int))) (fun r12293_0 => (bif decide ((r10241_0 ++ r10248_0).length + r12293_0.length ≤ LIM 1) then (bif decide (((r10241_0 ++ r10248_0) ++ r12293_0).length + a4.length ≤ LIM 1) then (f73 k (((r10241_0 ++ r10248_0) ++ r12293_0) ++ a4) (fun r14340_0 => (K r14340_0))) else none) else none))) else none)))))) a0 a1 a0 a1 a2 a3 a4)
theorem f70x {R : Type} : ∃ f, f = @f70d R := ⟨_, rfl⟩
noncomputable def f70 {R : Type} := Classical.choose (f70x (R := R))
theorem f70_def {R : Type} : @f70 R = @f70d R := Classical.choose_spec f70x
noncomputable def f48_0b {R : Type} (k : Nat) (rec : Int → List Int → List Int → Option R) (x0 : List Int → List Int → Option R) (v0_0 : Int) (v0_1 : Int) (v0_2 : Int) (v0_3 : Int) (v0_4 : List ((Int × (Bool × (Int × (Int × (List Int × Unit))))))) (v0_5 : Int) (v0_6 : Int) (v0_7 : List Int) (v0_8 : List Int) : Option R :=
  (bif decide (v0_6 < v0_5) then (bif (decide ((0 : Int) ≤ v0_6) && decide (v0_6 < (v0_4.length : Int))) then (bif decide (v0_8.length + ([(v0_7.length : Int)] : List Int).length ≤ LIM 8) then (f70 k ((v0_4.getD (Int.toNat v0_6) ((0 : Int), (false, ((0 : Int), ((0 : Int), (([] : List Int), ())))))).1) (((v0_4.getD (Int.toNat v0_6) ((0 : Int), (false, ((0 : Int), ((0 : Int), (([] : List Int), ())))))).2).1) ((((v0_4.getD (Int.toNat v0_6) ((0 : Int), (false, ((0 : Int), ((0 : Int), (([] : List Int), ())))))).2).2).1) (((((v0_4.getD (Int.toNat v0_6) ((0 : Int), (false, ((0 : Int), ((0 : Int), (([] : List Int), ())))))).2).2).2).1) ((((((v0_4.getD (Int.toNat v0_6) ((0 : Int), (false, ((0 : Int), ((0 : Int), (([] : List Int), ())))))).2).2).2).2).1) (fun r34818_0 => (bif decide (v0_7.length + r34818_0.length ≤ LIM 1) then (rec (IntKind.i64.wrap (v0_6 + (1 : Int))) (v0_7 ++ r34818_0) (v0_8 ++ ([(v0_7.length : Int)] : List Int))) else none))) else none) else none) else (x0 v0_7 v0_8))
noncomputable def f48_0d {R : Type} (k : Nat) (x0 : List Int → List Int → Option R) (v0_0 : Int) (v0_1 : Int) (v0_2 : Int) (v0_3 : Int) (v0_4 : List ((Int × (Bool × (Int × (Int × (List Int × Unit))))))) (v0_5 : Int) : Nat → Int → List Int → List Int → Option R
  | 0, _, _, _ => none
  | m + 1, v0_6, v0_7, v0_8 => f48_0b k (f48_0d k x0 v0_0 v0_1 v0_2 v0_3 v0_4 v0_5 m) x0 v0_0 v0_1 v0_2 v0_3 v0_4 v0_5 v0_6 v0_7 v0_8
theorem f48_0x {R : Type} : ∃ f, f = @f48_0d R := ⟨_, rfl⟩
noncomputable def f48_0 {R : Type} := Classical.choose (f48_0x (R := R))
theorem f48_0_def {R : Type} : @f48_0 R = @f48_0d R := Classical.choose_spec f48_0x
noncomputable def f48_1000022d {R : Type} (k : Nat) (xN : Int → Option R) (v22_0 : Int) (v22_1 : Int) (v22_2 : Int) (v22_3 : Int) (v22_4 : Int) (v22_5 : Bool) (v22_6 : List Int) (v22_7 : List Int) : Option R :=
  (bif v22_5 then (xN (IntKind.i64.wrap (v22_4 + v22_3))) else (xN v22_4))
theorem f48_1000022x {R : Type} : ∃ f, f = @f48_1000022d R := ⟨_, rfl⟩
noncomputable def f48_1000022 {R : Type} := Classical.choose (f48_1000022x (R := R))
theorem f48_1000022_def {R : Type} : @f48_1000022 R = @f48_1000022d R := Classical.choose_spec f48_1000022x
noncomputable def f48_1000021d {R : Type} (k : Nat) (xN : List Int → List Int → Option R) (v21_0 : Int) (v21_1 : Int) (v21_2 : Int) (v21_3 : Int) (v21_4 : Int) (v21_5 : Bool) (v21_6 : List Int) (v21_7 : List Int) : Option R :=
  (bif v21_5 then (f48_1000022 k (fun y22_N_4 => (bif decide (v21_7.length + ([(v21_6.length : Int)] : List Int).length ≤ LIM 8) then (bif (decide ((0 : Int) ≤ IntKind.i64.wrap ((IntKind.i64.wrap (y22_N_4 - (9 : Int))) + (1 : Int))) && (decide (IntKind.i64.wrap ((IntKind.i64.wrap (y22_N_4 - (9 : Int))) + (1 : Int)) ≤ IntKind.i64.wrap ((IntKind.i64.wrap (y22_N_4 - (9 : Int))) + (1 : Int))) && decide (IntKind.i64.wrap ((IntKind.i64.wrap (y22_N_4 - (9 : Int))) + (1 : Int)) ≤ (LIM 1 : Int)))) then (f70 k (2047 : Int) false (3 : Int) (0 : Int) (List.replicate (Int.toNat (IntKind.i64.wrap ((IntKind.i64.wrap (y22_N_4 - (9 : Int))) + (1 : Int)))) (0 : Int)) (fun r51206_0 => (bif decide (v21_6.length + r51206_0.length ≤ LIM 1) then (xN (v21_6 ++ r51206_0) (v21_7 ++ ([(v21_6.length : Int)] : List Int))) else none))) else none) else none)) v21_0 v21_1 v21_2 v21_3 v21_4 (decide (v21_4 < (9 : Int))) v21_6 v21_7) else (xN v21_6 v21_7))
theorem f48_1000021x {R : Type} : ∃ f, f = @f48_1000021d R := ⟨_, rfl⟩
noncomputable def f48_1000021 {R : Type} := Classical.choose (f48_1000021x (R := R))
theorem f48_1000021_def {R : Type} : @f48_1000021 R = @f48_1000021d R := Classical.choose_spec f48_1000021x
noncomputable def f48_1000035d {R : Type} (k : Nat) (xN : Int → Option R) (v35_0 : Int) (v35_1 : Int) (v35_2 : Int) (v35_3 : Int) (v35_4 : Int) (v35_5 : Int) (v35_6 : Int) (v35_7 : Bool) (v35_8 : List Int) (v35_9 : List Int) (v35_10 : List (Int × (Int × (Int × (Int × (List Int × Unit)))))) (v35_11 : Int) (v35_12 : Int) (v35_13 : Int) (v35_14 : Int) (v35_15 : List Int) : Option R :=
  (bif v35_7 then (bif decide ((0 : Int) < (v35_9.length : Int)) then (xN (IntKind.i64.wrap ((v35_9.getD 0 (0 : Int)) - (IntKind.i64.wrap (v35_4 * v35_3))))) else none) else (xN v35_14))
theorem f48_1000035x {R : Type} : ∃ f, f = @f48_1000035d R := ⟨_, rfl⟩
noncomputable def f48_1000035 {R : Type} := Classical.choose (f48_1000035x (R := R))
theorem f48_1000035_def {R : Type} : @f48_1000035 R = @f48_1000035d R := Classical.choose_spec f48_1000035x
noncomputable def f48_4b {R : Type} (k : Nat) (rec : List Int → Int → Option R) (x4 : List Int → Int → Option R) (v4_0 : Int) (v4_1 : Int) (v4_2 : Int) (v4_3 : Int) (v4_4 : Int) (v4_5 : Int) (v4_6 : Int) (v4_7 : List Int) (v4_9 : List (Int × (Int × (Int × (Int × (List Int × Unit)))))) (v4_10 : Int) (v4_11 : Int) (v4_12 : Int) (v4_14 : List Int) (v4_8 : List Int) (v4_13 : Int) : Option R :=
  (bif (decide ((v4_8.length : Int) > (0 : Int)) == true) then (bif decide ((0 : Int) < (v4_8.length : Int)) then (bif decide ((v4_8.getD 0 (0 : Int)) < IntKind.i64.wrap ((IntKind.i64.wrap (v4_4 + (1 : Int))) * v4_3)) then (f48_1000035 k (fun y35_N_13 => (bif decide ((1 : Int) ≤ (v4_8.length : Int)) then (rec ((v4_8.drop 1).take (v4_8.length - 1)) y35_N_13) else none)) v4_0 v4_1 v4_2 v4_3 v4_4 v4_5 v4_6 (v4_13 == (2047 : Int)) v4_7 v4_8 v4_9 v4_10 v4_11 v4_12 v4_13 v4_14) else (x4 v4_8 v4_13)) else none) else (x4 v4_8 v4_13))
noncomputable def f48_4d {R : Type} (k : Nat) (x4 : List Int → Int → Option R) (v4_0 : Int) (v4_1 : Int) (v4_2 : Int) (v4_3 : Int) (v4_4 : Int) (v4_5 : Int) (v4_6 : Int) (v4_7 : List Int) (v4_9 : List (Int × (Int × (Int × (Int × (List Int × Unit)))))) (v4_10 : Int) (v4_11 : Int) (v4_12 : Int) (v4_14 : List Int) : Nat → List Int → Int → Option R
  | 0, _, _ => none
  | m + 1, v4_8, v4_13 => f48_4b k (f48_4d k x4 v4_0 v4_1 v4_2 v4_3 v4_4 v4_5 v4_6 v4_7 v4_9 v4_10 v4_11 v4_12 v4_14 m) x4 v4_0 v4_1 v4_2 v4_3 v4_4 v4_5 v4_6 v4_7 v4_9 v4_10 v4_11 v4_12 v4_14 v4_8 v4_13
theorem f48_4x {R : Type} : ∃ f, f = @f48_4d R := ⟨_, rfl⟩
noncomputable def f48_4 {R : Type} := Classical.choose (f48_4x (R := R))
theorem f48_4_def {R : Type} : @f48_4 R = @f48_4d R := Classical.choose_spec f48_4x
noncomputable def f48_2b {R : Type} (k : Nat) (rec : Int → List Int → List (Int × (Int × (Int × (Int × (List Int × Unit))))) → Option R) (x2 : List (Int × (Int × (Int × (Int × (List Int × Unit))))) → Option R) (v2_0 : Int) (v2_1 : Int) (v2_2 : Int) (v2_3 : Int) (v2_4 : Int) (v2_6 : List Int) (v2_5 : Int) (v2_7 : List Int) (v2_8 : List (Int × (Int × (Int × (Int × (List Int × Unit)))))) : Option R :=
  (bif decide (v2_5 < v2_4) then (bif (decide ((0 : Int) ≤ IntKind.i64.wrap (v2_5 * v2_3)) && (decide (IntKind.i64.wrap (v2_5 * v2_3) ≤ IntKind.i64.wrap ((IntKind.i64.wrap (v2_5 + (1 : Int))) * v2_3)) && decide (IntKind.i64.wrap ((IntKind.i64.wrap (v2_5 + (1 : Int))) * v2_3) ≤ (v2_6.length : Int)))) then (f41 k ((v2_6.drop (Int.toNat (IntKind.i64.wrap (v2_5 * v2_3)))).take ((Int.toNat (IntKind.i64.wrap ((IntKind.i64.wrap (v2_5 + (1 : Int))) * v2_3))) - (Int.toNat (IntKind.i64.wrap (v2_5 * v2_3))))) (fun r67599_0 => (f48_4 k (fun y4_4_7 y4_4_12 => (bif decide (v2_8.length + ([(v2_0, (v2_1, (Int.tmod (IntKind.i64.wrap (v2_2 + v2_5)) (256 : Int), (y4_4_12, (r67599_0, ())))))] : List (Int × (Int × (Int × (Int × (List Int × Unit)))))).length ≤ LIM 56) then (rec (IntKind.i64.wrap (v2_5 + (1 : Int))) y4_4_7 (v2_8 ++ ([(v2_0, (v2_1, (Int.tmod (IntKind.i64.wrap (v2_2 + v2_5)) (256 : Int), (y4_4_12, (r67599_0, ())))))] : List (Int × (Int × (Int × (Int × (List Int × Unit)))))))) else none)) v2_0 v2_1 v2_2 v2_3 v2_5 v2_4 v2_5 v2_6 v2_8 v2_0 v2_1 (Int.tmod (IntKind.i64.wrap (v2_2 + v2_5)) (256 : Int)) r67599_0 k v2_7 (2047 : Int)))) else none) else (x2 v2_8))
noncomputable def f48_2d {R : Type} (k : Nat) (x2 : List (Int × (Int × (Int × (Int × (List Int × Unit))))) → Option R) (v2_0 : Int) (v2_1 : Int) (v2_2 : Int) (v2_3 : Int) (v2_4 : Int) (v2_6 : List Int) : Nat → Int → List Int → List (Int × (Int × (Int × (Int × (List Int × Unit))))) → Option R
  | 0, _, _, _ => none
  | m + 1, v2_5, v2_7, v2_8 => f48_2b k (f48_2d k x2 v2_0 v2_1 v2_2 v2_3 v2_4 v2_6 m) x2 v2_0 v2_1 v2_2 v2_3 v2_4 v2_6 v2_5 v2_7 v2_8
theorem f48_2x {R : Type} : ∃ f, f = @f48_2d R := ⟨_, rfl⟩
noncomputable def f48_2 {R : Type} := Classical.choose (f48_2x (R := R))
theorem f48_2_def {R : Type} : @f48_2 R = @f48_2d R := Classical.choose_spec f48_2x
noncomputable def f48d {R : Type} (k : Nat) (a0 : Int) (a1 : Int) (a2 : Int) (a3 : Int) (a4 : List ((Int × (Bool × (Int × (Int × (List Int × Unit))))))) (K : Int → List (Int × (Int × (Int × (Int × (List Int × Unit))))) → Option R) : Option R := match k with
  | 0 => none
  | k + 1 => (f75 k a3 (fun r4097_0 => (bif (r4097_0 != (0 : Int)) then (K r4097_0 ([] : List ((Int × (Int × (Int × (Int × (List Int × Unit)))))))) else (bif (decide ((0 : Int) ≤ IntKind.i64.wrap (a3 - (8 : Int))) && (decide (IntKind.i64.wrap (a3 - (8 : Int)) ≤ IntKind.i64.wrap (a3 - (8 : Int))) && decide (IntKind.i64.wrap (a3 - (8 : Int)) ≤ (LIM 1 : Int)))) then (f35 k a0 a1 a2 (0 : Int) (List.replicate (Int.toNat (IntKind.i64.wrap (a3 - (8 : Int)))) (0 : Int)) a3 (fun r10248_0 => (bif (r10248_0 != (0 : Int)) then (K r10248_0 ([] : List ((Int × (Int × (Int × (Int × (List Int × Unit)))))))) else (f83 k a4 (fun r16385_0 => (bif (r16385_0 != (0 : Int)) then (K r16385_0 ([] : List ((Int × (Int × (Int × (Int × (List Int × Unit)))))))) else (f48_0 k (fun y0_0_4 y0_0_5 => (bif (!(IntKind.i64.wrap (a3 - (8 : Int)) == 0)) then (bif (!(IntKind.i64.wrap (a3 - (8 : Int)) == 0)) then (f48_1000021 k (fun y21_N_4 y21_N_5 => (bif (!(IntKind.i64.wrap (a3 - (8 : Int)) == 0)) then (bif decide (IntKind.i64.wrap (Int.tdiv (y21_N_4.length : Int) (IntKind.i64.wrap (a3 - (8 : Int)))) > (1000 : Int)) then (K (2 : Int) ([] : List ((Int × (Int × (Int × (Int × (List Int × Unit)))))))) else (f48_2 k (fun y2_2_0 => (K (0 : Int) y2_2_0)) a0 a1 a2 (IntKind.i64.wrap (a3 - (8 : Int))) (IntKind.i64.wrap (Int.tdiv (y21_N_4.length : Int) (IntKind.i64.wrap (a3 - (8 : Int))))) y21_N_4 k (0 : Int) y21_N_5 ([] : List ((Int × (Int × (Int × (Int × (List Int × Unit))))))))) else none)) a0 a1 a2 (IntKind.i64.wrap (a3 - (8 : Int))) (Int.tmod (IntKind.i64.wrap ((IntKind.i64.wrap (a3 - (8 : Int))) - (Int.tmod (y0_0_4.length : Int) (IntKind.i64.wrap (a3 - (8 : Int)))))) (IntKind.i64.wrap (a3 - (8 : Int)))) (decide (Int.tmod (IntKind.i64.wrap ((IntKind.i64.wrap (a3 - (8 : Int))) - (Int.tmod (y0_0_4.length : Int) (IntKind.i64.wrap (a3 - (8 : Int)))))) (IntKind.i64.wrap (a3 - (8 : Int))) > (0 : Int))) y0_0_4 y0_0_5) else none) else none)) a0 a1 a2 a3 a4 (a4.length : Int) k (0 : Int) ([] : List Int) ([] : List Int)))))))) else none))))
theorem f48x {R : Type} : ∃ f, f = @f48d R := ⟨_, rfl⟩
noncomputable def f48 {R : Type} := Classical.choose (f48x (R := R))
theorem f48_def {R : Type} : @f48 R = @f48d R := Classical.choose_spec f48x
noncomputable def f14_1000010d {R : Type} (k : Nat) (xN : List (Int × (Bool × (Int × (Int × (List Int × Unit))))) → Option R) (v10_0 : Int) (v10_1 : Int) (v10_2 : List ((Int × (Bool × (Int × (Int × (List Int × Unit))))))) (v10_3 : Int) (v10_4 : Int) (v10_5 : Bool) (v10_6 : List (Int × (Bool × (Int × (Int × (List Int × Unit)))))) (v10_7 : List (Int × (Bool × (Int × (Int × (List Int × Unit)))))) (v10_8 : Int) (v10_9 : Bool) (v10_10 : Int) (v10_11 : Int) (v10_12 : List Int) : Option R :=
  (bif v10_5 then (bif decide (v10_7.length + ([(v10_8, (v10_9, (v10_10, (v10_11, (v10_12, ())))))] : List (Int × (Bool × (Int × (Int × (List Int × Unit)))))).length ≤ LIM 56) then (xN (v10_7 ++ ([(v10_8, (v10_9, (v10_10, (v10_11, (v10_12, ())))))] : List (Int × (Bool × (Int × (Int × (List Int × Unit)))))))) else none) else (xN v10_7))
theorem f14_1000010x {R : Type} : ∃ f, f = @f14_1000010d R := ⟨_, rfl⟩
noncomputable def f14_1000010 {R : Type} := Classical.choose (f14_1000010x (R := R))
theorem f14_1000010_def {R : Type} : @f14_1000010 R = @f14_1000010d R := Classical.choose_spec f14_1000010x
noncomputable def f14_0b {R : Type} (k : Nat) (rec : Int → List (Int × (Bool × (Int × (Int × (List Int × Unit))))) → Option R) (x0 : List (Int × (Bool × (Int × (Int × (List Int × Unit))))) → Option R) (v0_0 : Int) (v0_1 : Int) (v0_2 : List ((Int × (Bool × (Int × (Int × (List Int × Unit))))))) (v0_3 : Int) (v0_5 : List (Int × (Bool × (Int × (Int × (List Int × Unit)))))) (v0_4 : Int) (v0_6 : List (Int × (Bool × (Int × (Int × (List Int × Unit)))))) : Option R :=
  (bif decide (v0_4 < v0_3) then (bif (decide ((0 : Int) ≤ v0_4) && decide (v0_4 < (v0_2.length : Int))) then (f14_1000010 k (fun y10_N_6 => (rec (IntKind.i64.wrap (v0_4 + (1 : Int))) y10_N_6)) v0_0 v0_1 v0_2 v0_3 v0_4 ((v0_2.getD (Int.toNat v0_4) ((0 : Int), (false, ((0 : Int), ((0 : Int), (([] : List Int), ())))))).1 != (2047 : Int)) v0_5 v0_6 ((v0_2.getD (Int.toNat v0_4) ((0 : Int), (false, ((0 : Int), ((0 : Int), (([] : List Int), ())))))).1) (((v0_2.getD (Int.toNat v0_4) ((0 : Int), (false, ((0 : Int), ((0 : Int), (([] : List Int), ())))))).2).1) ((((v0_2.getD (Int.toNat v0_4) ((0 : Int), (false, ((0 : Int), ((0 : Int), (([] : List Int), ())))))).2).2).1) (((((v0_2.getD (Int.toNat v0_4) ((0 : Int), (false, ((0 : Int), ((0 : Int), (([] : List Int), ())))))).2).2).2).1) ((((((v0_2.getD (Int.toNat v0_4) ((0 : Int), (false, ((0 : Int), ((0 : Int), (([] : List Int), ())))))).2).2).2).2).1)) else none) else (x0 v0_6))
noncomputable def f14_0d {R : Type} (k : Nat) (x0 : List (Int × (Bool × (Int × (Int × (List Int × Unit))))) → Option R) (v0_0 : Int) (v0_1 : Int) (v0_2 : List ((Int × (Bool × (Int × (Int × (List Int × Unit))))))) (v0_3 : Int) (v0_5 : List (Int × (Bool × (Int × (Int × (List Int × Unit)))))) : Nat → Int → List (Int × (Bool × (Int × (Int × (List Int × Unit))))) → Option R
  | 0, _, _ => none
  | m + 1, v0_4, v0_6 => f14_0b k (f14_0d k x0 v0_0 v0_1 v0_2 v0_3 v0_5 m) x0 v0_0 v0_1 v0_2 v0_3 v0_5 v0_4 v0_6
theorem f14_0x {R : Type} : ∃ f, f = @f14_0d R := ⟨_, rfl⟩
noncomputable def f14_0 {R : Type} := Classical.choose (f14_0x (R := R))
theorem f14_0_def {R : Type} : @f14_0 R = @f14_0d R := Classical.choose_spec f14_0x
noncomputable def f14d {R : Type} (k : Nat) (a0 : Int) (a1 : Int) (a2 : Int) (a3 : Int) (a4 : List ((Int × (Bool × (Int × (Int × (List Int × Unit))))))) (K : Bool → Option R) : Option R := match k with
  | 0 => none
  | k + 1 => (f48 k a0 a1 a2 a3 a4 (fun r4101_0 r4101_1 => (bif (r4101_0 != (0 : Int)) then (bif (((r4101_1.length : Int) == (0 : Int)) == true) then (f21 k (fun r8196_0 => (K r8196_0))) else (K false)) else (f50 k r4101_1 a3 (fun r10242_0 r10242_1 r10242_2 => (f14_0 k (fun y0_0_3 => (bif ((r10242_1 == (0 : Int)) == true) then (bif ((r10242_0 == (0 : Int)) == true) then (f27 k r10242_2 y0_0_3 (fun r26633_0 => (bif (r26633_0 == true) then (f21 k (fun r26636_0 => (K r26636_0))) else (K false)))) else (K false)) else (K false))) r10242_1 r10242_0 a4 (a4.length : Int) r10242_2 k (0 : Int) ([] : List ((Int × (Bool × (Int × (Int × (List Int × Unit)))))))))))))
theorem f14x {R : Type} : ∃ f, f = @f14d R := ⟨_, rfl⟩
noncomputable def f14 {R : Type} := Classical.choose (f14x (R := R))
theorem f14_def {R : Type} : @f14 R = @f14d R := Classical.choose_spec f14x
noncomputable def f15_1000009d {R : Type} (k : Nat) (xN : List (Int × (Int × (Int × (Int × (List Int × Unit))))) → Option R) (v9_0 : Int) (v9_1 : List ((Int × (Bool × (Int × (Int × (List Int × Unit))))))) (v9_2 : List Bool) (v9_3 : Int) (v9_4 : Int) (v9_5 : Bool) (v9_6 : List (Int × (Int × (Int × (Int × (List Int × Unit)))))) (v9_7 : Int) (v9_8 : Int) (v9_9 : Int) (v9_10 : Int) (v9_11 : List Int) (v9_12 : List (Int × (Int × (Int × (Int × (List Int × Unit)))))) : Option R :=
  (bif v9_5 then (bif decide (v9_6.length + ([(v9_7, (v9_8, (v9_9, (v9_10, (v9_11, ())))))] : List (Int × (Int × (Int × (Int × (List Int × Unit)))))).length ≤ LIM 56) then (xN (v9_6 ++ ([(v9_7, (v9_8, (v9_9, (v9_10, (v9_11, ())))))] : List (Int × (Int × (Int × (Int × (List Int × Unit)))))))) else none) else (xN v9_6))
theorem f15_1000009x {R : Type} : ∃ f, f = @f15_1000009d R := ⟨_, rfl⟩
noncomputable def f15_1000009 {R : Type} := Classical.choose (f15_1000009x (R := R))
theorem f15_1000009_def {R : Type} : @f15_1000009 R = @f15_1000009d R := Classical.choose_spec f15_1000009x
noncomputable def f15_0b {R : Type} (k : Nat) (rec : Int → List (Int × (Int × (Int × (Int × (List Int × Unit))))) → Option R) (x0 : List (Int × (Int × (Int × (Int × (List Int × Unit))))) → Option R) (v0_0 : Int) (v0_1 : List ((Int × (Bool × (Int × (Int × (List Int × Unit))))))) (v0_2 : List Bool) (v0_3 : Int) (v0_6 : List (Int × (Int × (Int × (Int × (List Int × Unit)))))) (v0_4 : Int) (v0_5 : List (Int × (Int × (Int × (Int × (List Int × Unit)))))) : Option R :=
  (bif decide (v0_4 < v0_3) then (bif (decide ((0 : Int) ≤ v0_4) && decide (v0_4 < (v0_6.length : Int))) then (bif (decide (v0_4 ≥ (v0_2.length : Int)) == false) then (bif (decide ((0 : Int) ≤ v0_4) && decide (v0_4 < (v0_2.length : Int))) then (f15_1000009 k (fun y9_N_5 => (rec (IntKind.i64.wrap (v0_4 + (1 : Int))) y9_N_5)) v0_0 v0_1 v0_2 v0_3 v0_4 (!(v0_2.getD (Int.toNat v0_4) false)) v0_5 ((v0_6.getD (Int.toNat v0_4) ((0 : Int), ((0 : Int), ((0 : Int), ((0 : Int), (([] : List Int), ())))))).1) (((v0_6.getD (Int.toNat v0_4) ((0 : Int), ((0 : Int), ((0 : Int), ((0 : Int), (([] : List Int), ())))))).2).1) ((((v0_6.getD (Int.toNat v0_4) ((0 : Int), ((0 : Int), ((0 : Int), ((0 : Int), (([] : List Int), ())))))).2).2).1) (((((v0_6.getD (Int.toNat v0_4) ((0 : Int), ((0 : Int), ((0 : Int), ((0 : Int), (([] : List Int), ())))))).2).2).2).1) ((((((v0_6.getD (Int.toNat v0_4) ((0 : Int), ((0 : Int), ((0 : Int), ((0 : Int), (([] : List Int), ())))))).2).2).2).2).1) v0_6) else none) else (f15_1000009 k (fun y9_N_5 => (rec (IntKind.i64.wrap (v0_4 + (1 : Int))) y9_N_5)) v0_0 v0_1 v0_2 v0_3 v0_4 true v0_5 ((v0_6.getD (Int.toNat v0_4) ((0 : Int), ((0 : Int), ((0 : Int), ((0 : Int), (([] : List Int), ())))))).1) (((v0_6.getD (Int.toNat v0_4) ((0 : Int), ((0 : Int), ((0 : Int), ((0 : Int), (([] : List Int), ())))))).2).1) ((((v0_6.getD (Int.toNat v0_4) ((0 : Int), ((0 : Int), ((0 : Int), ((0 : Int), (([] : List Int), ())))))).2).2).1) (((((v0_6.getD (Int.toNat v0_4) ((0 : Int), ((0 : Int), ((0 : Int), ((0 : Int), (([] : List Int), ())))))).2).2).2).1) ((((((v0_6.getD (Int.toNat v0_4) ((0 : Int), ((0 : Int), ((0 : Int), ((0 : Int), (([] : List Int), ())))))).2).2).2).2).1) v0_6)) else none) else (x0 v0_5))
noncomputable def f15_0d {R : Type} (k : Nat) (x0 : List (Int × (Int × (Int × (Int × (List Int × Unit))))) → Option R) (v0_0 : Int) (v0_1 : List ((Int × (Bool × (Int × (Int × (List Int × Unit))))))) (v0_2 : List Bool) (v0_3 : Int) (v0_6 : List (Int × (Int × (Int × (Int × (List Int × Unit)))))) : Nat → Int → List (Int × (Int × (Int × (Int × (List Int × Unit))))) → Option R
  | 0, _, _ => none
  | m + 1, v0_4, v0_5 => f15_0b k (f15_0d k x0 v0_0 v0_1 v0_2 v0_3 v0_6 m) x0 v0_0 v0_1 v0_2 v0_3 v0_6 v0_4 v0_5
theorem f15_0x {R : Type} : ∃ f, f = @f15_0d R := ⟨_, rfl⟩
noncomputable def f15_0 {R : Type} := Classical.choose (f15_0x (R := R))
theorem f15_0_def {R : Type} : @f15_0 R = @f15_0d R := Classical.choose_spec f15_0x
noncomputable def f15_1000017d {R : Type} (k : Nat) (xN : Int → Option R) (v17_0 : Int) (v17_1 : Int) (v17_2 : List ((Int × (Bool × (Int × (Int × (List Int × Unit))))))) (v17_3 : Int) (v17_4 : Int) (v17_5 : Bool) (v17_6 : List (Int × (Bool × (Int × (Int × (List Int × Unit)))))) : Option R :=
  (bif v17_5 then (xN (IntKind.i64.wrap (v17_1 + (1 : Int)))) else (xN v17_1))
theorem f15_1000017x {R : Type} : ∃ f, f = @f15_1000017d R := ⟨_, rfl⟩
noncomputable def f15_1000017 {R : Type} := Classical.choose (f15_1000017x (R := R))
theorem f15_1000017_def {R : Type} : @f15_1000017 R = @f15_1000017d R := Classical.choose_spec f15_1000017x
noncomputable def f15_2b {R : Type} (k : Nat) (rec : Int → Int → Option R) (x2 : Int → Option R) (v2_0 : Int) (v2_2 : List ((Int × (Bool × (Int × (Int × (List Int × Unit))))))) (v2_3 : Int) (v2_5 : List (Int × (Bool × (Int × (Int × (List Int × Unit)))))) (v2_1 : Int) (v2_4 : Int) : Option R :=
  (bif decide (v2_4 < v2_3) then (bif (decide ((0 : Int) ≤ v2_4) && decide (v2_4 < (v2_2.length : Int))) then (bif (decide (v2_1 < (v2_5.length : Int)) == true) then (bif (decide ((0 : Int) ≤ v2_1) && decide (v2_1 < (v2_5.length : Int))) then (f24 k ((v2_2.getD (Int.toNat v2_4) ((0 : Int), (false, ((0 : Int), ((0 : Int), (([] : List Int), ())))))).1) (((v2_2.getD (Int.toNat v2_4) ((0 : Int), (false, ((0 : Int), ((0 : Int), (([] : List Int), ())))))).2).1) ((((v2_2.getD (Int.toNat v2_4) ((0 : Int), (false, ((0 : Int), ((0 : Int), (([] : List Int), ())))))).2).2).1) (((((v2_2.getD (Int.toNat v2_4) ((0 : Int), (false, ((0 : Int), ((0 : Int), (([] : List Int), ())))))).2).2).2).1) ((((((v2_2.getD (Int.toNat v2_4) ((0 : Int), (false, ((0 : Int), ((0 : Int), (([] : List Int), ())))))).2).2).2).2).1) ((v2_5.getD (Int.toNat v2_1) ((0 : Int), (false, ((0 : Int), ((0 : Int), (([] : List Int), ())))))).1) (((v2_5.getD (Int.toNat v2_1) ((0 : Int), (false, ((0 : Int), ((0 : Int), (([] : List Int), ())))))).2).1) ((((v2_5.getD (Int.toNat v2_1) ((0 : Int), (false, ((0 : Int), ((0 : Int), (([] : List Int), ())))))).2).2).1) (((((v2_5.getD (Int.toNat v2_1) ((0 : Int), (false, ((0 : Int), ((0 : Int), (([] : List Int), ())))))).2).2).2).1) ((((((v2_5.getD (Int.toNat v2_1) ((0 : Int), (false, ((0 : Int), ((0 : Int), (([] : List Int), ())))))).2).2).2).2).1) (fun r34826_0 => (f15_1000017 k (fun y17_N_1 => (rec y17_N_1 (IntKind.i64.wrap (v2_4 + (1 : Int))))) v2_0 v2_1 v2_2 v2_3 v2_4 r34826_0 v2_5))) else none) else (f15_1000017 k (fun y17_N_1 => (rec y17_N_1 (IntKind.i64.wrap (v2_4 + (1 : Int))))) v2_0 v2_1 v2_2 v2_3 v2_4 false v2_5)) else none) else (x2 v2_1))
noncomputable def f15_2d {R : Type} (k : Nat) (x2 : Int → Option R) (v2_0 : Int) (v2_2 : List ((Int × (Bool × (Int × (Int × (List Int × Unit))))))) (v2_3 : Int) (v2_5 : List (Int × (Bool × (Int × (Int × (List Int × Unit)))))) : Nat → Int → Int → Option R
  | 0, _, _ => none
  | m + 1, v2_1, v2_4 => f15_2b k (f15_2d k x2 v2_0 v2_2 v2_3 v2_5 m) x2 v2_0 v2_2 v2_3 v2_5 v2_1 v2_4
theorem f15_2x {R : Type} : ∃ f, f = @f15_2d R := ⟨_, rfl⟩
noncomputable def f15_2 {R : Type} := Classical.choose (f15_2x (R := R))
theorem f15_2_def {R : Type} : @f15_2 R = @f15_2d R := Classical.choose_spec f15_2x
noncomputable def f15d {R : Type} (k : Nat) (a0 : Int) (a1 : Int) (a2 : Int) (a3 : Int) (a4 : List ((Int × (Bool × (Int × (Int × (List Int × Unit))))))) (a5 : List Bool) (K : Bool → Option R) : Option R := match k with
  | 0 => none
  | k + 1 => (f48 k a0 a1 a2 a3 a4 (fun r4101_0 r4101_1 => (bif ((r4101_0 != (0 : Int)) == false) then (bif decide ((r4101_1.length : Int) > (200 : Int)) then (bif ((r4101_0 == (0 : Int)) == false) then (bif (((r4101_1.length : Int) == (0 : Int)) == true) then (f21 k (fun r8200_0 => (K r8200_0))) else (K false)) else (f21 k (fun r8200_0 => (K r8200_0)))) else (f15_0 k (fun y0_0_2 => (f50 k y0_0_2 a3 (fun r24578_0 r24578_1 r24578_2 => (f15_2 k (fun y2_2_1 => (bif ((r24578_1 == (0 : Int)) == true) then (bif ((y2_2_1 == (r24578_2.length : Int)) == true) then (f21 k (fun r40969_0 => (K r40969_0))) else (K false)) else (K false))) r24578_1 a4 (a4.length : Int) r24578_2 k (0 : Int) (0 : Int))))) a3 a4 a5 (r4101_1.length : Int) r4101_1 k (0 : Int) ([] : List ((Int × (Int × (Int × (Int × (List Int × Unit))))))))) else (bif ((r4101_0 == (0 : Int)) == false) then (bif (((r4101_1.length : Int) == (0 : Int)) == true) then (f21 k (fun r8200_0 => (K r8200_0))) else (K false)) else (f21 k (fun r8200_0 => (K r8200_0)))))))
theorem f15x {R : Type} : ∃ f, f = @f15d R := ⟨_, rfl⟩
noncomputable def f15 {R : Type} := Classical.choose (f15x (R := R))
theorem f15_def {R : Type} : @f15 R = @f15d R := Classical.choose_spec f15x
end Go.Proofs.Ytahdmfboidjkoaa.PM
