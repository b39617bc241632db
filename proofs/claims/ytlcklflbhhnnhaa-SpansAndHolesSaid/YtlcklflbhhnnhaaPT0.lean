/- Functions of the program in typed form (printed by a program of this work). -/
import Derived.Test.YtlcklflbhhnnhaaPmE
import Derived.Test.YtlcklflbhhnnhaaSrtD
set_option linter.unusedVariables false
set_option linter.unusedSimpArgs false
set_option maxRecDepth 100000
namespace Go.Proofs.Ytlcklflbhhnnhaa.PM
open Go
noncomputable def f66d {R : Type} (k : Nat) (a0 : Int) (a1 : Int) (a2 : Int) (K : Bool → Option R) : Option R := match k with
  | 0 => none
  | k + 1 => (bif (decide (a1 ≤ a0) == true) then (K (decide (a0 ≤ a2))) else (K false))
theorem f66x {R : Type} : ∃ f, f = @f66d R := ⟨_, rfl⟩
noncomputable def f66 {R : Type} := Classical.choose (f66x (R := R))
theorem f66_def {R : Type} : @f66 R = @f66d R := Classical.choose_spec f66x
noncomputable def f45_0b {R : Type} (k : Nat) (rec : Int → Option R) (K : Int → Option R) (x0 : Option R) (v0_0 : List ((Int × (Int × Unit)))) (v0_1 : Int) (v0_2 : List ((Int × (Int × Unit)))) (v0_3 : Int) (v0_4 : Int) : Option R :=
  (bif decide (v0_4 < v0_3) then (bif (decide ((0 : Int) ≤ v0_4) && decide (v0_4 < (v0_2.length : Int))) then (bif (decide ((v0_2.getD (Int.toNat v0_4) ((0 : Int), ((0 : Int), ()))).1 < (0 : Int)) == false) then (bif decide (((v0_2.getD (Int.toNat v0_4) ((0 : Int), ((0 : Int), ()))).2).1 > v0_1) then (K (1 : Int)) else (bif decide (((v0_2.getD (Int.toNat v0_4) ((0 : Int), ((0 : Int), ()))).2).1 ≤ (v0_2.getD (Int.toNat v0_4) ((0 : Int), ((0 : Int), ()))).1) then (K (13 : Int)) else (bif (decide (v0_4 > (0 : Int)) == true) then (bif (decide ((0 : Int) ≤ IntKind.i64.wrap (v0_4 - (1 : Int))) && decide (IntKind.i64.wrap (v0_4 - (1 : Int)) < (v0_0.length : Int))) then (bif decide ((v0_2.getD (Int.toNat v0_4) ((0 : Int), ((0 : Int), ()))).1 ≤ ((v0_0.getD (Int.toNat (IntKind.i64.wrap (v0_4 - (1 : Int)))) ((0 : Int), ((0 : Int), ()))).2).1) then (K (8 : Int)) else (rec (IntKind.i64.wrap (v0_4 + (1 : Int))))) else none) else (rec (IntKind.i64.wrap (v0_4 + (1 : Int))))))) else (K (1 : Int))) else none) else x0)
noncomputable def f45_0d {R : Type} (k : Nat) (K : Int → Option R) (x0 : Option R) (v0_0 : List ((Int × (Int × Unit)))) (v0_1 : Int) (v0_2 : List ((Int × (Int × Unit)))) (v0_3 : Int) : Nat → Int → Option R
  | 0, _ => none
  | m + 1, v0_4 => f45_0b k (f45_0d k K x0 v0_0 v0_1 v0_2 v0_3 m) K x0 v0_0 v0_1 v0_2 v0_3 v0_4
theorem f45_0x {R : Type} : ∃ f, f = @f45_0d R := ⟨_, rfl⟩
noncomputable def f45_0 {R : Type} := Classical.choose (f45_0x (R := R))
theorem f45_0_def {R : Type} : @f45_0 R = @f45_0d R := Classical.choose_spec f45_0x
noncomputable def f45d {R : Type} (k : Nat) (a0 : List ((Int × (Int × Unit)))) (a1 : Int) (K : Int → Option R) : Option R := match k with
  | 0 => none
  | k + 1 => (f66 k a1 (0 : Int) (100000 : Int) (fun r4097_0 => (bif (!r4097_0) then (K (1 : Int)) else (bif decide ((a0.length : Int) > (2000 : Int)) then (K (2 : Int)) else (f45_0 k K (K (0 : Int)) a0 a1 a0 (a0.length : Int) k (0 : Int))))))
theorem f45x {R : Type} : ∃ f, f = @f45d R := ⟨_, rfl⟩
noncomputable def f45 {R : Type} := Classical.choose (f45x (R := R))
theorem f45_def {R : Type} : @f45 R = @f45d R := Classical.choose_spec f45x
noncomputable def f132_1000002d {R : Type} (k : Nat) (xN : Option R) (v2_0 : Int) (v2_1 : Bool) : Option R :=
  (bif v2_1 then none else xN)
theorem f132_1000002x {R : Type} : ∃ f, f = @f132_1000002d R := ⟨_, rfl⟩
noncomputable def f132_1000002 {R : Type} := Classical.choose (f132_1000002x (R := R))
theorem f132_1000002_def {R : Type} : @f132_1000002 R = @f132_1000002d R := Classical.choose_spec f132_1000002x
noncomputable def f132_1000005d {R : Type} (k : Nat) (xN : List (Int × (Int × Unit)) → Option R) (v5_0 : Int) (v5_1 : Bool) : Option R :=
  (bif v5_1 then (bif (decide ((0 : Int) ≤ v5_0) && decide ((List.replicate (Int.toNat v5_0) ((0 : Int), ((0 : Int), ()))).length ≤ LIM 16)) then (bif decide ((0 : Int) ≤ ((List.replicate (Int.toNat v5_0) ((0 : Int), ((0 : Int), ()))).length : Int)) then (xN (((List.replicate (Int.toNat v5_0) ((0 : Int), ((0 : Int), ()))).drop 0).take 0)) else none) else none) else (xN ([] : List ((Int × (Int × Unit))))))
theorem f132_1000005x {R : Type} : ∃ f, f = @f132_1000005d R := ⟨_, rfl⟩
noncomputable def f132_1000005 {R : Type} := Classical.choose (f132_1000005x (R := R))
theorem f132_1000005_def {R : Type} : @f132_1000005 R = @f132_1000005d R := Classical.choose_spec f132_1000005x
noncomputable def f132d {R : Type} (k : Nat) (a0 : Int) (K : List (Int × (Int × Unit)) → Option R) : Option R := match k with
  | 0 => none
  | k + 1 => (f132_1000002 k (f132_1000005 k (fun y5_N_0 => (K y5_N_0)) (IntKind.i64.wrap (a0 - (0 : Int))) (decide (IntKind.i64.wrap (a0 - (0 : Int)) > (0 : Int)))) a0 (decide (a0 < (0 : Int))))
theorem f132x {R : Type} : ∃ f, f = @f132d R := ⟨_, rfl⟩
noncomputable def f132 {R : Type} := Classical.choose (f132x (R := R))
theorem f132_def {R : Type} : @f132 R = @f132d R := Classical.choose_spec f132x
noncomputable def f114_1000007d {R : Type} (k : Nat) (xN : Option R) (v7_0 : List (List ((Int × (Int × Unit))))) (v7_1 : Int) (v7_2 : List (List ((Int × (Int × Unit))))) (v7_3 : Int) (v7_4 : Int) (v7_5 : Bool) : Option R :=
  (bif v7_5 then none else xN)
theorem f114_1000007x {R : Type} : ∃ f, f = @f114_1000007d R := ⟨_, rfl⟩
noncomputable def f114_1000007 {R : Type} := Classical.choose (f114_1000007x (R := R))
theorem f114_1000007_def {R : Type} : @f114_1000007 R = @f114_1000007d R := Classical.choose_spec f114_1000007x
noncomputable def f114_0b {R : Type} (k : Nat) (rec : Int → Int → Option R) (x0 : Int → Option R) (v0_0 : List (List ((Int × (Int × Unit))))) (v0_2 : List (List ((Int × (Int × Unit))))) (v0_3 : Int) (v0_1 : Int) (v0_4 : Int) : Option R :=
  (bif decide (v0_4 < v0_3) then (bif (decide ((0 : Int) ≤ v0_4) && decide (v0_4 < (v0_2.length : Int))) then (f114_1000007 k (rec (IntKind.i64.wrap (v0_1 + ((v0_2.getD (Int.toNat v0_4) ([] : List ((Int × (Int × Unit))))).length : Int))) (IntKind.i64.wrap (v0_4 + (1 : Int)))) v0_0 (IntKind.i64.wrap (v0_1 + ((v0_2.getD (Int.toNat v0_4) ([] : List ((Int × (Int × Unit))))).length : Int))) v0_2 v0_3 v0_4 (decide (IntKind.i64.wrap (v0_1 + ((v0_2.getD (Int.toNat v0_4) ([] : List ((Int × (Int × Unit))))).length : Int)) < (0 : Int)))) else none) else (x0 v0_1))
noncomputable def f114_0d {R : Type} (k : Nat) (x0 : Int → Option R) (v0_0 : List (List ((Int × (Int × Unit))))) (v0_2 : List (List ((Int × (Int × Unit))))) (v0_3 : Int) : Nat → Int → Int → Option R
  | 0, _, _ => none
  | m + 1, v0_1, v0_4 => f114_0b k (f114_0d k x0 v0_0 v0_2 v0_3 m) x0 v0_0 v0_2 v0_3 v0_1 v0_4
theorem f114_0x {R : Type} : ∃ f, f = @f114_0d R := ⟨_, rfl⟩
noncomputable def f114_0 {R : Type} := Classical.choose (f114_0x (R := R))
theorem f114_0_def {R : Type} : @f114_0 R = @f114_0d R := Classical.choose_spec f114_0x
noncomputable def f114_2b {R : Type} (k : Nat) (rec : Int → List (Int × (Int × Unit)) → Option R) (x2 : List (Int × (Int × Unit)) → Option R) (v2_0 : List (List ((Int × (Int × Unit))))) (v2_1 : Int) (v2_2 : Int) (v2_3 : List (Int × (Int × Unit))) : Option R :=
  (bif decide (v2_2 < v2_1) then (bif (decide ((0 : Int) ≤ v2_2) && decide (v2_2 < (v2_0.length : Int))) then (bif decide (v2_3.length + (v2_0.getD (Int.toNat v2_2) ([] : List ((Int × (Int × Unit))))).length ≤ LIM 16) then (rec (IntKind.i64.wrap (v2_2 + (1 : Int))) (v2_3 ++ (v2_0.getD (Int.toNat v2_2) ([] : List ((Int × (Int × Unit))))))) else none) else none) else (x2 v2_3))
noncomputable def f114_2d {R : Type} (k : Nat) (x2 : List (Int × (Int × Unit)) → Option R) (v2_0 : List (List ((Int × (Int × Unit))))) (v2_1 : Int) : Nat → Int → List (Int × (Int × Unit)) → Option R
  | 0, _, _ => none
  | m + 1, v2_2, v2_3 => f114_2b k (f114_2d k x2 v2_0 v2_1 m) x2 v2_0 v2_1 v2_2 v2_3
theorem f114_2x {R : Type} : ∃ f, f = @f114_2d R := ⟨_, rfl⟩
noncomputable def f114_2 {R : Type} := Classical.choose (f114_2x (R := R))
theorem f114_2_def {R : Type} : @f114_2 R = @f114_2d R := Classical.choose_spec f114_2x
noncomputable def f114d {R : Type} (k : Nat) (a0 : List (List ((Int × (Int × Unit))))) (K : List (Int × (Int × Unit)) → Option R) : Option R := match k with
  | 0 => none
  | k + 1 => (f114_0 k (fun y0_0_1 => (f132 k y0_0_1 (fun r20481_0 => (f114_2 k (fun y2_2_0 => (K y2_2_0)) a0 (a0.length : Int) k (0 : Int) r20481_0)))) a0 a0 (a0.length : Int) k (0 : Int) (0 : Int))
theorem f114x {R : Type} : ∃ f, f = @f114d R := ⟨_, rfl⟩
noncomputable def f114 {R : Type} := Classical.choose (f114x (R := R))
theorem f114_def {R : Type} : @f114 R = @f114d R := Classical.choose_spec f114x
noncomputable def f115d {R : Type} (k : Nat) (a0 : List (Int × (Int × Unit))) (K : List (Int × (Int × Unit)) → Option R) : Option R := match k with
  | 0 => none
  | _ + 1 => bif sortOk a0 then K (srtL a0) else none
theorem f115x {R : Type} : ∃ f, f = @f115d R := ⟨_, rfl⟩
noncomputable def f115 {R : Type} := Classical.choose (f115x (R := R))
theorem f115_def {R : Type} : @f115 R = @f115d R := Classical.choose_spec f115x
noncomputable def f86_1000009d {R : Type} (k : Nat) (xN : List (Int × (Int × Unit)) → Option R) (v9_0 : Int) (v9_1 : Int) (v9_2 : Int) (v9_3 : Bool) (v9_4 : List (Int × (Int × Unit))) (v9_5 : Int) (v9_6 : Int) (v9_7 : List (Int × (Int × Unit))) : Option R :=
  (bif v9_3 then (bif (decide ((0 : Int) ≤ IntKind.i64.wrap (v9_0 - (1 : Int))) && decide (IntKind.i64.wrap (v9_0 - (1 : Int)) < (v9_4.length : Int))) then (bif (decide ((0 : Int) ≤ IntKind.i64.wrap (v9_0 - (1 : Int))) && decide (IntKind.i64.wrap (v9_0 - (1 : Int)) < (v9_4.length : Int))) then (xN (v9_4.set (Int.toNat (IntKind.i64.wrap (v9_0 - (1 : Int)))) ((v9_4.getD (Int.toNat (IntKind.i64.wrap (v9_0 - (1 : Int)))) ((0 : Int), ((0 : Int), ()))).1, ((if ((v9_4.getD (Int.toNat (IntKind.i64.wrap (v9_0 - (1 : Int)))) ((0 : Int), ((0 : Int), ()))).2).1 < v9_6 then v9_6 else ((v9_4.getD (Int.toNat (IntKind.i64.wrap (v9_0 - (1 : Int)))) ((0 : Int), ((0 : Int), ()))).2).1), ())))) else none) else none) else (bif decide (v9_4.length + ([(v9_5, (v9_6, ()))] : List (Int × (Int × Unit))).length ≤ LIM 16) then (xN (v9_4 ++ ([(v9_5, (v9_6, ()))] : List (Int × (Int × Unit))))) else none))
theorem f86_1000009x {R : Type} : ∃ f, f = @f86_1000009d R := ⟨_, rfl⟩
noncomputable def f86_1000009 {R : Type} := Classical.choose (f86_1000009x (R := R))
theorem f86_1000009_def {R : Type} : @f86_1000009 R = @f86_1000009d R := Classical.choose_spec f86_1000009x
noncomputable def f86_0b {R : Type} (k : Nat) (rec : Int → List (Int × (Int × Unit)) → Option R) (x0 : List (Int × (Int × Unit)) → Option R) (v0_0 : Int) (v0_3 : List (Int × (Int × Unit))) (v0_1 : Int) (v0_2 : List (Int × (Int × Unit))) : Option R :=
  (bif decide (v0_1 < v0_0) then (bif (decide ((0 : Int) ≤ v0_1) && decide (v0_1 < (v0_3.length : Int))) then (bif (decide ((v0_2.length : Int) > (0 : Int)) == true) then (bif (decide ((0 : Int) ≤ IntKind.i64.wrap ((v0_2.length : Int) - (1 : Int))) && decide (IntKind.i64.wrap ((v0_2.length : Int) - (1 : Int)) < (v0_2.length : Int))) then (f86_1000009 k (fun y9_N_2 => (rec (IntKind.i64.wrap (v0_1 + (1 : Int))) y9_N_2)) (v0_2.length : Int) v0_0 v0_1 (decide ((v0_3.getD (Int.toNat v0_1) ((0 : Int), ((0 : Int), ()))).1 ≤ ((v0_2.getD (Int.toNat (IntKind.i64.wrap ((v0_2.length : Int) - (1 : Int)))) ((0 : Int), ((0 : Int), ()))).2).1)) v0_2 ((v0_3.getD (Int.toNat v0_1) ((0 : Int), ((0 : Int), ()))).1) (((v0_3.getD (Int.toNat v0_1) ((0 : Int), ((0 : Int), ()))).2).1) v0_3) else none) else (f86_1000009 k (fun y9_N_2 => (rec (IntKind.i64.wrap (v0_1 + (1 : Int))) y9_N_2)) (v0_2.length : Int) v0_0 v0_1 false v0_2 ((v0_3.getD (Int.toNat v0_1) ((0 : Int), ((0 : Int), ()))).1) (((v0_3.getD (Int.toNat v0_1) ((0 : Int), ((0 : Int), ()))).2).1) v0_3)) else none) else (x0 v0_2))
noncomputable def f86_0d {R : Type} (k : Nat) (x0 : List (Int × (Int × Unit)) → Option R) (v0_0 : Int) (v0_3 : List (Int × (Int × Unit))) : Nat → Int → List (Int × (Int × Unit)) → Option R
  | 0, _, _ => none
  | m + 1, v0_1, v0_2 => f86_0b k (f86_0d k x0 v0_0 v0_3 m) x0 v0_0 v0_3 v0_1 v0_2
theorem f86_0x {R : Type} : ∃ f, f = @f86_0d R := ⟨_, rfl⟩
noncomputable def f86_0 {R : Type} := Classical.choose (f86_0x (R := R))
theorem f86_0_def {R : Type} : @f86_0 R = @f86_0d R := Classical.choose_spec f86_0x
noncomputable def f86d {R : Type} (k : Nat) (a0 : List ((Int × (Int × Unit)))) (a1 : List ((Int × (Int × Unit)))) (K : List (Int × (Int × Unit)) → Option R) : Option R := match k with
  | 0 => none
  | k + 1 => (f114 k ([a0, a1] : List (List ((Int × (Int × Unit))))) (fun r4099_0 => (f115 k r4099_0 (fun r6145_0 => (bif (decide (r6145_0.length = r4099_0.length) && true) then (f86_0 k (fun y0_0_0 => (K y0_0_0)) (r6145_0.length : Int) r6145_0 k (0 : Int) ([] : List ((Int × (Int × Unit))))) else none)))))
theorem f86x {R : Type} : ∃ f, f = @f86d R := ⟨_, rfl⟩
noncomputable def f86 {R : Type} := Classical.choose (f86x (R := R))
theorem f86_def {R : Type} : @f86 R = @f86d R := Classical.choose_spec f86x
noncomputable def f39d {R : Type} (k : Nat) (a0 : List ((Int × (Int × Unit)))) (a1 : List ((Int × (Int × Unit)))) (a2 : Int) (K : Int → List (Int × (Int × Unit)) → Option R) : Option R := match k with
  | 0 => none
  | k + 1 => (f45 k a0 a2 (fun r4098_0 => (bif (r4098_0 != (0 : Int)) then (K r4098_0 ([] : List ((Int × (Int × Unit))))) else (f45 k a1 a2 (fun r10242_0 => (bif (r10242_0 != (0 : Int)) then (K r10242_0 ([] : List ((Int × (Int × Unit))))) else (f86 k a0 a1 (fun r16386_0 => (bif decide ((r16386_0.length : Int) > (2000 : Int)) then (K (2 : Int) ([] : List ((Int × (Int × Unit))))) else (K (0 : Int) r16386_0))))))))))
theorem f39x {R : Type} : ∃ f, f = @f39d R := ⟨_, rfl⟩
noncomputable def f39 {R : Type} := Classical.choose (f39x (R := R))
theorem f39_def {R : Type} : @f39 R = @f39d R := Classical.choose_spec f39x
noncomputable def f64_0b {R : Type} (k : Nat) (rec : Int → Int → Option R) (x0 : Int → Option R) (v0_1 : List Int) (v0_2 : Int) (v0_0 : Int) (v0_3 : Int) : Option R :=
  (bif decide (v0_3 < v0_2) then (bif (decide ((0 : Int) ≤ v0_3) && decide (v0_3 < (v0_1.length : Int))) then (bif decide ((0 : Int) ≤ IntKind.i64.wrap ((24 : Int) - (IntKind.i64.wrap ((8 : Int) * (Int.tmod v0_3 (4 : Int)))))) then (rec (IntKind.i64.wrap (v0_0 + (IntKind.i64.wrap ((IntKind.i64.wrap (v0_1.getD (Int.toNat v0_3) (0 : Int))) * 2 ^ min (Int.toNat (IntKind.i64.wrap ((24 : Int) - (IntKind.i64.wrap ((8 : Int) * (Int.tmod v0_3 (4 : Int))))))) 64)))) (IntKind.i64.wrap (v0_3 + (1 : Int)))) else none) else none) else (x0 v0_0))
noncomputable def f64_0d {R : Type} (k : Nat) (x0 : Int → Option R) (v0_1 : List Int) (v0_2 : Int) : Nat → Int → Int → Option R
  | 0, _, _ => none
  | m + 1, v0_0, v0_3 => f64_0b k (f64_0d k x0 v0_1 v0_2 m) x0 v0_1 v0_2 v0_0 v0_3
theorem f64_0x {R : Type} : ∃ f, f = @f64_0d R := ⟨_, rfl⟩
noncomputable def f64_0 {R : Type} := Classical.choose (f64_0x (R := R))
theorem f64_0_def {R : Type} : @f64_0 R = @f64_0d R := Classical.choose_spec f64_0x
noncomputable def f64d {R : Type} (k : Nat) (a0 : List Int) (K : Int → Option R) : Option R := match k with
  | 0 => none
  | k + 1 => (f64_0 k (fun y0_0_0 => (K (bits .and .i64 y0_0_0 (4294967295 : Int)))) a0 (a0.length : Int) k (0 : Int) (0 : Int))
theorem f64x {R : Type} : ∃ f, f = @f64d R := ⟨_, rfl⟩
noncomputable def f64 {R : Type} := Classical.choose (f64x (R := R))
theorem f64_def {R : Type} : @f64 R = @f64d R := Classical.choose_spec f64x
noncomputable def f18d {R : Type} (k : Nat) (a0 : List Int) (K : Int → Int → Option R) : Option R := match k with
  | 0 => none
  | k + 1 => (bif decide ((a0.length : Int) > (100000 : Int)) then (K (0 : Int) (2 : Int)) else (f64 k a0 (fun r8193_0 => (K r8193_0 (0 : Int)))))
theorem f18x {R : Type} : ∃ f, f = @f18d R := ⟨_, rfl⟩
noncomputable def f18 {R : Type} := Classical.choose (f18x (R := R))
theorem f18_def {R : Type} : @f18 R = @f18d R := Classical.choose_spec f18x
noncomputable def f24d {R : Type} (k : Nat) (K : Bool → Option R) : Option R := match k with
  | 0 => none
  | k + 1 => (f18 k ([(1 : Int), (2 : Int), (3 : Int), (4 : Int)] : List Int) (fun r4097_0 r4097_1 => (bif ((r4097_1 == (0 : Int)) == true) then (K (r4097_0 == (16909060 : Int))) else (K false))))
theorem f24x {R : Type} : ∃ f, f = @f24d R := ⟨_, rfl⟩
noncomputable def f24 {R : Type} := Classical.choose (f24x (R := R))
theorem f24_def {R : Type} : @f24 R = @f24d R := Classical.choose_spec f24x
noncomputable def f40_0b {R : Type} (k : Nat) (rec : Int → Option R) (K : Bool → Option R) (x0 : Option R) (v0_0 : List ((Int × (Int × Unit)))) (v0_1 : List ((Int × (Int × Unit)))) (v0_2 : Int) (v0_3 : Int) : Option R :=
  (bif decide (v0_3 < v0_2) then (bif (decide ((0 : Int) ≤ v0_3) && decide (v0_3 < (v0_0.length : Int))) then (bif (decide ((0 : Int) ≤ v0_3) && decide (v0_3 < (v0_1.length : Int))) then (bif (!((((v0_0.getD (Int.toNat v0_3) ((0 : Int), ((0 : Int), ()))).1, (((v0_0.getD (Int.toNat v0_3) ((0 : Int), ((0 : Int), ()))).2).1, ())).1 == ((v0_1.getD (Int.toNat v0_3) ((0 : Int), ((0 : Int), ()))).1, (((v0_1.getD (Int.toNat v0_3) ((0 : Int), ((0 : Int), ()))).2).1, ())).1) && (((((v0_0.getD (Int.toNat v0_3) ((0 : Int), ((0 : Int), ()))).1, (((v0_0.getD (Int.toNat v0_3) ((0 : Int), ((0 : Int), ()))).2).1, ())).2).1 == (((v0_1.getD (Int.toNat v0_3) ((0 : Int), ((0 : Int), ()))).1, (((v0_1.getD (Int.toNat v0_3) ((0 : Int), ((0 : Int), ()))).2).1, ())).2).1) && true))) then (K false) else (rec (IntKind.i64.wrap (v0_3 + (1 : Int))))) else none) else none) else x0)
noncomputable def f40_0d {R : Type} (k : Nat) (K : Bool → Option R) (x0 : Option R) (v0_0 : List ((Int × (Int × Unit)))) (v0_1 : List ((Int × (Int × Unit)))) (v0_2 : Int) : Nat → Int → Option R
  | 0, _ => none
  | m + 1, v0_3 => f40_0b k (f40_0d k K x0 v0_0 v0_1 v0_2 m) K x0 v0_0 v0_1 v0_2 v0_3
theorem f40_0x {R : Type} : ∃ f, f = @f40_0d R := ⟨_, rfl⟩
noncomputable def f40_0 {R : Type} := Classical.choose (f40_0x (R := R))
theorem f40_0_def {R : Type} : @f40_0 R = @f40_0d R := Classical.choose_spec f40_0x
noncomputable def f40d {R : Type} (k : Nat) (a0 : List ((Int × (Int × Unit)))) (a1 : List ((Int × (Int × Unit)))) (K : Bool → Option R) : Option R := match k with
  | 0 => none
  | k + 1 => (bif ((a0.length : Int) != (a1.length : Int)) then (K false) else (f40_0 k K (K true) a0 a1 (a0.length : Int) k (0 : Int)))
theorem f40x {R : Type} : ∃ f, f = @f40d R := ⟨_, rfl⟩
noncomputable def f40 {R : Type} := Classical.choose (f40x (R := R))
theorem f40_def {R : Type} : @f40 R = @f40d R := Classical.choose_spec f40x
noncomputable def f41_0b {R : Type} (k : Nat) (rec : Int → Int → Option R) (x0 : Int → Option R) (v0_0 : List ((Int × (Int × Unit)))) (v0_1 : Int) (v0_2 : Int) : Option R :=
  (bif decide (v0_2 < (v0_0.length : Int)) then (bif (decide ((0 : Int) ≤ v0_2) && decide (v0_2 < (v0_0.length : Int))) then (bif (decide ((0 : Int) ≤ v0_2) && decide (v0_2 < (v0_0.length : Int))) then (rec (IntKind.i64.wrap (v0_1 + (IntKind.i64.wrap ((((v0_0.getD (Int.toNat v0_2) ((0 : Int), ((0 : Int), ()))).2).1) - ((v0_0.getD (Int.toNat v0_2) ((0 : Int), ((0 : Int), ()))).1))))) (IntKind.i64.wrap (v0_2 + (1 : Int)))) else none) else none) else (x0 v0_1))
noncomputable def f41_0d {R : Type} (k : Nat) (x0 : Int → Option R) (v0_0 : List ((Int × (Int × Unit)))) : Nat → Int → Int → Option R
  | 0, _, _ => none
  | m + 1, v0_1, v0_2 => f41_0b k (f41_0d k x0 v0_0 m) x0 v0_0 v0_1 v0_2
theorem f41_0x {R : Type} : ∃ f, f = @f41_0d R := ⟨_, rfl⟩
noncomputable def f41_0 {R : Type} := Classical.choose (f41_0x (R := R))
theorem f41_0_def {R : Type} : @f41_0 R = @f41_0d R := Classical.choose_spec f41_0x
noncomputable def f41d {R : Type} (k : Nat) (a0 : List ((Int × (Int × Unit)))) (K : Int → Option R) : Option R := match k with
  | 0 => none
  | k + 1 => (f41_0 k (fun y0_0_0 => (K y0_0_0)) a0 k (0 : Int) (0 : Int))
theorem f41x {R : Type} : ∃ f, f = @f41d R := ⟨_, rfl⟩
noncomputable def f41 {R : Type} := Classical.choose (f41x (R := R))
theorem f41_def {R : Type} : @f41 R = @f41d R := Classical.choose_spec f41x
noncomputable def f6d {R : Type} (k : Nat) (a0 : List ((Int × (Int × Unit)))) (a1 : List ((Int × (Int × Unit)))) (a2 : Int) (K : Bool → Option R) : Option R := match k with
  | 0 => none
  | k + 1 => (f39 k a0 a1 a2 (fun r4099_0 r4099_1 => (bif (r4099_0 != (0 : Int)) then (bif (((r4099_1.length : Int) == (0 : Int)) == true) then (f24 k (fun r8196_0 => (K r8196_0))) else (K false)) else (f39 k a1 a0 a2 (fun r10243_0 r10243_1 => (f39 k r4099_1 a0 a2 (fun r12291_0 r12291_1 => (f39 k a0 a0 a2 (fun r14339_0 r14339_1 => (bif ((r10243_0 == (0 : Int)) == true) then (f40 k r4099_1 r10243_1 (fun r16389_0 => (bif (r16389_0 == true) then (bif ((r12291_0 == (0 : Int)) == true) then (f40 k r12291_1 r4099_1 (fun r16398_0 => (bif (r16398_0 == true) then (bif ((r14339_0 == (0 : Int)) == true) then (f40 k r14339_1 a0 (fun r16407_0 => (bif (r16407_0 == true) then (f41 k r4099_1 (fun r16411_0 => (f41 k a0 (fun r16413_0 => (f41 k a1 (fun r16415_0 => (bif (decide (r16411_0 ≤ IntKind.i64.wrap (r16413_0 + r16415_0)) == true) then (f24 k (fun r16420_0 => (K r16420_0))) else (K false)))))))) else (K false)))) else (K false)) else (K false)))) else (K false)) else (K false)))) else (K false)))))))))))
theorem f6x {R : Type} : ∃ f, f = @f6d R := ⟨_, rfl⟩
noncomputable def f6 {R : Type} := Classical.choose (f6x (R := R))
theorem f6_def {R : Type} : @f6 R = @f6d R := Classical.choose_spec f6x
noncomputable def f87_1000007d {R : Type} (k : Nat) (xN : List (Int × (Int × Unit)) → Option R) (v7_0 : Int) (v7_1 : Int) (v7_2 : List ((Int × (Int × Unit)))) (v7_3 : Int) (v7_4 : Int) (v7_5 : Bool) (v7_6 : List (Int × (Int × Unit))) (v7_7 : Int) (v7_8 : Int) : Option R :=
  (bif v7_5 then (bif decide (v7_6.length + ([(v7_1, (v7_7, ()))] : List (Int × (Int × Unit))).length ≤ LIM 16) then (xN (v7_6 ++ ([(v7_1, (v7_7, ()))] : List (Int × (Int × Unit))))) else none) else (xN v7_6))
theorem f87_1000007x {R : Type} : ∃ f, f = @f87_1000007d R := ⟨_, rfl⟩
noncomputable def f87_1000007 {R : Type} := Classical.choose (f87_1000007x (R := R))
theorem f87_1000007_def {R : Type} : @f87_1000007 R = @f87_1000007d R := Classical.choose_spec f87_1000007x
noncomputable def f87_0b {R : Type} (k : Nat) (rec : Int → Int → List (Int × (Int × Unit)) → Option R) (x0 : Int → List (Int × (Int × Unit)) → Option R) (v0_0 : Int) (v0_2 : List ((Int × (Int × Unit)))) (v0_3 : Int) (v0_1 : Int) (v0_4 : Int) (v0_5 : List (Int × (Int × Unit))) : Option R :=
  (bif decide (v0_4 < v0_3) then (bif (decide ((0 : Int) ≤ v0_4) && decide (v0_4 < (v0_2.length : Int))) then (f87_1000007 k (fun y7_N_4 => (rec (((v0_2.getD (Int.toNat v0_4) ((0 : Int), ((0 : Int), ()))).2).1) (IntKind.i64.wrap (v0_4 + (1 : Int))) y7_N_4)) v0_0 v0_1 v0_2 v0_3 v0_4 (decide ((v0_2.getD (Int.toNat v0_4) ((0 : Int), ((0 : Int), ()))).1 > v0_1)) v0_5 ((v0_2.getD (Int.toNat v0_4) ((0 : Int), ((0 : Int), ()))).1) (((v0_2.getD (Int.toNat v0_4) ((0 : Int), ((0 : Int), ()))).2).1)) else none) else (x0 v0_1 v0_5))
noncomputable def f87_0d {R : Type} (k : Nat) (x0 : Int → List (Int × (Int × Unit)) → Option R) (v0_0 : Int) (v0_2 : List ((Int × (Int × Unit)))) (v0_3 : Int) : Nat → Int → Int → List (Int × (Int × Unit)) → Option R
  | 0, _, _, _ => none
  | m + 1, v0_1, v0_4, v0_5 => f87_0b k (f87_0d k x0 v0_0 v0_2 v0_3 m) x0 v0_0 v0_2 v0_3 v0_1 v0_4 v0_5
theorem f87_0x {R : Type} : ∃ f, f = @f87_0d R := ⟨_, rfl⟩
noncomputable def f87_0 {R : Type} := Classical.choose (f87_0x (R := R))
theorem f87_0_def {R : Type} : @f87_0 R = @f87_0d R := Classical.choose_spec f87_0x
noncomputable def f87_1000011d {R : Type} (k : Nat) (xN : List (Int × (Int × Unit)) → Option R) (v11_0 : Int) (v11_1 : Int) (v11_2 : Bool) (v11_3 : List (Int × (Int × Unit))) : Option R :=
  (bif v11_2 then (bif decide (v11_3.length + ([(v11_1, (v11_0, ()))] : List (Int × (Int × Unit))).length ≤ LIM 16) then (xN (v11_3 ++ ([(v11_1, (v11_0, ()))] : List (Int × (Int × Unit))))) else none) else (xN v11_3))
theorem f87_1000011x {R : Type} : ∃ f, f = @f87_1000011d R := ⟨_, rfl⟩
noncomputable def f87_1000011 {R : Type} := Classical.choose (f87_1000011x (R := R))
theorem f87_1000011_def {R : Type} : @f87_1000011 R = @f87_1000011d R := Classical.choose_spec f87_1000011x
noncomputable def f87d {R : Type} (k : Nat) (a0 : List ((Int × (Int × Unit)))) (a1 : Int) (K : List (Int × (Int × Unit)) → Option R) : Option R := match k with
  | 0 => none
  | k + 1 => (f87_0 k (fun y0_0_1 y0_0_2 => (f87_1000011 k (fun y11_N_0 => (K y11_N_0)) a1 y0_0_1 (decide (y0_0_1 < a1)) y0_0_2)) a1 a0 (a0.length : Int) k (0 : Int) (0 : Int) ([] : List ((Int × (Int × Unit)))))
theorem f87x {R : Type} : ∃ f, f = @f87d R := ⟨_, rfl⟩
noncomputable def f87 {R : Type} := Classical.choose (f87x (R := R))
theorem f87_def {R : Type} : @f87 R = @f87d R := Classical.choose_spec f87x
noncomputable def f42d {R : Type} (k : Nat) (a0 : List ((Int × (Int × Unit)))) (a1 : Int) (K : Int → List (Int × (Int × Unit)) → Option R) : Option R := match k with
  | 0 => none
  | k + 1 => (f45 k a0 a1 (fun r4098_0 => (bif (r4098_0 != (0 : Int)) then (K r4098_0 ([] : List ((Int × (Int × Unit))))) else (f87 k a0 a1 (fun r10242_0 => (bif decide ((r10242_0.length : Int) > (2000 : Int)) then (K (2 : Int) ([] : List ((Int × (Int × Unit))))) else (K (0 : Int) r10242_0)))))))
theorem f42x {R : Type} : ∃ f, f = @f42d R := ⟨_, rfl⟩
noncomputable def f42 {R : Type} := Classical.choose (f42x (R := R))
theorem f42_def {R : Type} : @f42 R = @f42d R := Classical.choose_spec f42x
noncomputable def f72d {R : Type} (k : Nat) (a0 : Int) (a1 : Int) (a2 : Int) (K : Bool → Option R) : Option R := match k with
  | 0 => none
  | k + 1 => (bif (decide (a0 ≥ a1) == true) then (K (decide (a0 ≤ a2))) else (K false))
theorem f72x {R : Type} : ∃ f, f = @f72d R := ⟨_, rfl⟩
noncomputable def f72 {R : Type} := Classical.choose (f72x (R := R))
theorem f72_def {R : Type} : @f72 R = @f72d R := Classical.choose_spec f72x
noncomputable def f46_0b {R : Type} (k : Nat) (rec : Int → Option R) (K : Int → Option R) (x0 : Option R) (v0_0 : List ((Int × (Int × Unit)))) (v0_1 : Int) (v0_2 : Int) : Option R :=
  (bif decide (v0_2 < (v0_0.length : Int)) then (bif (decide ((0 : Int) ≤ v0_2) && decide (v0_2 < (v0_0.length : Int))) then (bif (decide ((v0_0.getD (Int.toNat v0_2) ((0 : Int), ((0 : Int), ()))).1 < (0 : Int)) == false) then (bif (decide ((0 : Int) ≤ v0_2) && decide (v0_2 < (v0_0.length : Int))) then (bif decide (((v0_0.getD (Int.toNat v0_2) ((0 : Int), ((0 : Int), ()))).2).1 > v0_1) then (K (1 : Int)) else (bif (decide ((0 : Int) ≤ v0_2) && decide (v0_2 < (v0_0.length : Int))) then (bif (decide ((0 : Int) ≤ v0_2) && decide (v0_2 < (v0_0.length : Int))) then (bif decide (((v0_0.getD (Int.toNat v0_2) ((0 : Int), ((0 : Int), ()))).2).1 ≤ (v0_0.getD (Int.toNat v0_2) ((0 : Int), ((0 : Int), ()))).1) then (K (13 : Int)) else (bif (decide (v0_2 > (0 : Int)) == true) then (bif (decide ((0 : Int) ≤ v0_2) && decide (v0_2 < (v0_0.length : Int))) then (bif (decide ((0 : Int) ≤ IntKind.i64.wrap (v0_2 - (1 : Int))) && decide (IntKind.i64.wrap (v0_2 - (1 : Int)) < (v0_0.length : Int))) then (bif decide ((v0_0.getD (Int.toNat v0_2) ((0 : Int), ((0 : Int), ()))).1 ≤ ((v0_0.getD (Int.toNat (IntKind.i64.wrap (v0_2 - (1 : Int)))) ((0 : Int), ((0 : Int), ()))).2).1) then (K (8 : Int)) else (rec (IntKind.i64.wrap (v0_2 + (1 : Int))))) else none) else none) else (rec (IntKind.i64.wrap (v0_2 + (1 : Int)))))) else none) else none)) else none) else (K (1 : Int))) else none) else x0)
noncomputable def f46_0d {R : Type} (k : Nat) (K : Int → Option R) (x0 : Option R) (v0_0 : List ((Int × (Int × Unit)))) (v0_1 : Int) : Nat → Int → Option R
  | 0, _ => none
  | m + 1, v0_2 => f46_0b k (f46_0d k K x0 v0_0 v0_1 m) K x0 v0_0 v0_1 v0_2
theorem f46_0x {R : Type} : ∃ f, f = @f46_0d R := ⟨_, rfl⟩
noncomputable def f46_0 {R : Type} := Classical.choose (f46_0x (R := R))
theorem f46_0_def {R : Type} : @f46_0 R = @f46_0d R := Classical.choose_spec f46_0x
noncomputable def f46d {R : Type} (k : Nat) (a0 : List ((Int × (Int × Unit)))) (a1 : Int) (K : Int → Option R) : Option R := match k with
  | 0 => none
  | k + 1 => (f72 k a1 (0 : Int) (100000 : Int) (fun r4097_0 => (bif (!r4097_0) then (K (1 : Int)) else (bif decide ((a0.length : Int) > (2000 : Int)) then (K (2 : Int)) else (f46_0 k K (K (0 : Int)) a0 a1 k (0 : Int))))))
theorem f46x {R : Type} : ∃ f, f = @f46d R := ⟨_, rfl⟩
noncomputable def f46 {R : Type} := Classical.choose (f46x (R := R))
theorem f46_def {R : Type} : @f46 R = @f46d R := Classical.choose_spec f46x
noncomputable def f88_1000007d {R : Type} (k : Nat) (xN : List (Int × (Int × Unit)) → Option R) (v7_0 : List ((Int × (Int × Unit)))) (v7_1 : Int) (v7_2 : Int) (v7_3 : Int) (v7_4 : Bool) (v7_5 : List (Int × (Int × Unit))) : Option R :=
  (bif v7_4 then (bif (decide ((0 : Int) ≤ v7_3) && decide (v7_3 < (v7_0.length : Int))) then (bif decide (v7_5.length + ([(v7_2, ((v7_0.getD (Int.toNat v7_3) ((0 : Int), ((0 : Int), ()))).1, ()))] : List (Int × (Int × Unit))).length ≤ LIM 16) then (xN (v7_5 ++ ([(v7_2, ((v7_0.getD (Int.toNat v7_3) ((0 : Int), ((0 : Int), ()))).1, ()))] : List (Int × (Int × Unit))))) else none) else none) else (xN v7_5))
theorem f88_1000007x {R : Type} : ∃ f, f = @f88_1000007d R := ⟨_, rfl⟩
noncomputable def f88_1000007 {R : Type} := Classical.choose (f88_1000007x (R := R))
theorem f88_1000007_def {R : Type} : @f88_1000007 R = @f88_1000007d R := Classical.choose_spec f88_1000007x
noncomputable def f88_0b {R : Type} (k : Nat) (rec : Int → Int → List (Int × (Int × Unit)) → Option R) (x0 : Int → List (Int × (Int × Unit)) → Option R) (v0_0 : List ((Int × (Int × Unit)))) (v0_1 : Int) (v0_2 : Int) (v0_3 : Int) (v0_4 : List (Int × (Int × Unit))) : Option R :=
  (bif decide (v0_3 < (v0_0.length : Int)) then (bif (decide ((0 : Int) ≤ v0_3) && decide (v0_3 < (v0_0.length : Int))) then (f88_1000007 k (fun y7_N_3 => (bif (decide ((0 : Int) ≤ v0_3) && decide (v0_3 < (v0_0.length : Int))) then (rec (((v0_0.getD (Int.toNat v0_3) ((0 : Int), ((0 : Int), ()))).2).1) (IntKind.i64.wrap (v0_3 + (1 : Int))) y7_N_3) else none)) v0_0 v0_1 v0_2 v0_3 (decide ((v0_0.getD (Int.toNat v0_3) ((0 : Int), ((0 : Int), ()))).1 > v0_2)) v0_4) else none) else (x0 v0_2 v0_4))
noncomputable def f88_0d {R : Type} (k : Nat) (x0 : Int → List (Int × (Int × Unit)) → Option R) (v0_0 : List ((Int × (Int × Unit)))) (v0_1 : Int) : Nat → Int → Int → List (Int × (Int × Unit)) → Option R
  | 0, _, _, _ => none
  | m + 1, v0_2, v0_3, v0_4 => f88_0b k (f88_0d k x0 v0_0 v0_1 m) x0 v0_0 v0_1 v0_2 v0_3 v0_4
theorem f88_0x {R : Type} : ∃ f, f = @f88_0d R := ⟨_, rfl⟩
noncomputable def f88_0 {R : Type} := Classical.choose (f88_0x (R := R))
theorem f88_0_def {R : Type} : @f88_0 R = @f88_0d R := Classical.choose_spec f88_0x
noncomputable def f88_1000010d {R : Type} (k : Nat) (xN : List (Int × (Int × Unit)) → Option R) (v10_0 : Int) (v10_1 : Int) (v10_2 : Bool) (v10_3 : List (Int × (Int × Unit))) : Option R :=
  (bif v10_2 then (bif decide (v10_3.length + ([(v10_1, (v10_0, ()))] : List (Int × (Int × Unit))).length ≤ LIM 16) then (xN (v10_3 ++ ([(v10_1, (v10_0, ()))] : List (Int × (Int × Unit))))) else none) else (xN v10_3))
theorem f88_1000010x {R : Type} : ∃ f, f = @f88_1000010d R := ⟨_, rfl⟩
noncomputable def f88_1000010 {R : Type} := Classical.choose (f88_1000010x (R := R))
theorem f88_1000010_def {R : Type} : @f88_1000010 R = @f88_1000010d R := Classical.choose_spec f88_1000010x
noncomputable def f88d {R : Type} (k : Nat) (a0 : List ((Int × (Int × Unit)))) (a1 : Int) (K : List (Int × (Int × Unit)) → Option R) : Option R := match k with
  | 0 => none
  | k + 1 => (f88_0 k (fun y0_0_1 y0_0_2 => (f88_1000010 k (fun y10_N_0 => (K y10_N_0)) a1 y0_0_1 (decide (y0_0_1 < a1)) y0_0_2)) a0 a1 k (0 : Int) (0 : Int) ([] : List ((Int × (Int × Unit)))))
theorem f88x {R : Type} : ∃ f, f = @f88d R := ⟨_, rfl⟩
noncomputable def f88 {R : Type} := Classical.choose (f88x (R := R))
theorem f88_def {R : Type} : @f88 R = @f88d R := Classical.choose_spec f88x
noncomputable def f43d {R : Type} (k : Nat) (a0 : List ((Int × (Int × Unit)))) (a1 : Int) (K : Int → List (Int × (Int × Unit)) → Option R) : Option R := match k with
  | 0 => none
  | k + 1 => (f46 k a0 a1 (fun r4098_0 => (bif (r4098_0 != (0 : Int)) then (K r4098_0 ([] : List ((Int × (Int × Unit))))) else (f88 k a0 a1 (fun r10242_0 => (bif decide ((r10242_0.length : Int) > (2000 : Int)) then (K (2 : Int) ([] : List ((Int × (Int × Unit))))) else (K (0 : Int) r10242_0)))))))
theorem f43x {R : Type} : ∃ f, f = @f43d R := ⟨_, rfl⟩
noncomputable def f43 {R : Type} := Classical.choose (f43x (R := R))
theorem f43_def {R : Type} : @f43 R = @f43d R := Classical.choose_spec f43x
noncomputable def f89_1000006d {R : Type} (k : Nat) (xN : Int → Int → Int → Int → Option R) (v6_0 : List ((Int × (Int × Unit)))) (v6_1 : List ((Int × (Int × Unit)))) (v6_2 : Int) (v6_3 : Int) (v6_4 : Bool) (v6_5 : List (Int × (Int × Unit))) (v6_6 : Int) (v6_7 : Int) : Option R :=
  (bif v6_4 then (bif (decide ((0 : Int) ≤ v6_2) && decide (v6_2 < (v6_0.length : Int))) then (xN (IntKind.i64.wrap (v6_2 + (1 : Int))) v6_3 ((v6_0.getD (Int.toNat v6_2) ((0 : Int), ((0 : Int), ()))).1) (((v6_0.getD (Int.toNat v6_2) ((0 : Int), ((0 : Int), ()))).2).1)) else none) else (bif (decide ((0 : Int) ≤ v6_3) && decide (v6_3 < (v6_1.length : Int))) then (xN v6_2 (IntKind.i64.wrap (v6_3 + (1 : Int))) ((v6_1.getD (Int.toNat v6_3) ((0 : Int), ((0 : Int), ()))).1) (((v6_1.getD (Int.toNat v6_3) ((0 : Int), ((0 : Int), ()))).2).1)) else none))
theorem f89_1000006x {R : Type} : ∃ f, f = @f89_1000006d R := ⟨_, rfl⟩
noncomputable def f89_1000006 {R : Type} := Classical.choose (f89_1000006x (R := R))
theorem f89_1000006_def {R : Type} : @f89_1000006 R = @f89_1000006d R := Classical.choose_spec f89_1000006x
noncomputable def f89_1000012d {R : Type} (k : Nat) (xN : List (Int × (Int × Unit)) → Option R) (v12_0 : List ((Int × (Int × Unit)))) (v12_1 : List ((Int × (Int × Unit)))) (v12_2 : Int) (v12_3 : Int) (v12_4 : Int) (v12_5 : Bool) (v12_6 : List (Int × (Int × Unit))) (v12_7 : Int) (v12_8 : Int) : Option R :=
  (bif v12_5 then (bif (decide ((0 : Int) ≤ IntKind.i64.wrap (v12_4 - (1 : Int))) && decide (IntKind.i64.wrap (v12_4 - (1 : Int)) < (v12_6.length : Int))) then (bif (decide ((0 : Int) ≤ IntKind.i64.wrap (v12_4 - (1 : Int))) && decide (IntKind.i64.wrap (v12_4 - (1 : Int)) < (v12_6.length : Int))) then (xN (v12_6.set (Int.toNat (IntKind.i64.wrap (v12_4 - (1 : Int)))) ((v12_6.getD (Int.toNat (IntKind.i64.wrap (v12_4 - (1 : Int)))) ((0 : Int), ((0 : Int), ()))).1, ((if ((v12_6.getD (Int.toNat (IntKind.i64.wrap (v12_4 - (1 : Int)))) ((0 : Int), ((0 : Int), ()))).2).1 < v12_8 then v12_8 else ((v12_6.getD (Int.toNat (IntKind.i64.wrap (v12_4 - (1 : Int)))) ((0 : Int), ((0 : Int), ()))).2).1), ())))) else none) else none) else (bif decide (v12_6.length + ([(v12_7, (v12_8, ()))] : List (Int × (Int × Unit))).length ≤ LIM 16) then (xN (v12_6 ++ ([(v12_7, (v12_8, ()))] : List (Int × (Int × Unit))))) else none))
theorem f89_1000012x {R : Type} : ∃ f, f = @f89_1000012d R := ⟨_, rfl⟩
noncomputable def f89_1000012 {R : Type} := Classical.choose (f89_1000012x (R := R))
theorem f89_1000012_def {R : Type} : @f89_1000012 R = @f89_1000012d R := Classical.choose_spec f89_1000012x
noncomputable def f89_0b {R : Type} (k : Nat) (rec : Int → Int → List (Int × (Int × Unit)) → Option R) (x0 : List (Int × (Int × Unit)) → Option R) (v0_0 : List ((Int × (Int × Unit)))) (v0_1 : List ((Int × (Int × Unit)))) (v0_2 : Int) (v0_3 : Int) (v0_4 : List (Int × (Int × Unit))) : Option R :=
  (bif (decide (v0_2 < (v0_0.length : Int)) == false) then (bif decide (v0_3 < (v0_1.length : Int)) then (bif ((v0_3 == (v0_1.length : Int)) == false) then (bif (decide (v0_2 < (v0_0.length : Int)) == true) then (bif (decide ((0 : Int) ≤ v0_2) && decide (v0_2 < (v0_0.length : Int))) then (bif (decide ((0 : Int) ≤ v0_3) && decide (v0_3 < (v0_1.length : Int))) then (f89_1000006 k (fun y6_N_2 y6_N_3 y6_N_5 y6_N_6 => (bif (decide ((v0_4.length : Int) > (0 : Int)) == true) then (bif (decide ((0 : Int) ≤ IntKind.i64.wrap ((v0_4.length : Int) - (1 : Int))) && decide (IntKind.i64.wrap ((v0_4.length : Int) - (1 : Int)) < (v0_4.length : Int))) then (f89_1000012 k (fun y12_N_4 => (rec y6_N_2 y6_N_3 y12_N_4)) v0_0 v0_1 y6_N_2 y6_N_3 (v0_4.length : Int) (decide (y6_N_5 ≤ ((v0_4.getD (Int.toNat (IntKind.i64.wrap ((v0_4.length : Int) - (1 : Int)))) ((0 : Int), ((0 : Int), ()))).2).1)) v0_4 y6_N_5 y6_N_6) else none) else (f89_1000012 k (fun y12_N_4 => (rec y6_N_2 y6_N_3 y12_N_4)) v0_0 v0_1 y6_N_2 y6_N_3 (v0_4.length : Int) false v0_4 y6_N_5 y6_N_6))) v0_0 v0_1 v0_2 v0_3 (decide ((v0_0.getD (Int.toNat v0_2) ((0 : Int), ((0 : Int), ()))).1 ≤ (v0_1.getD (Int.toNat v0_3) ((0 : Int), ((0 : Int), ()))).1)) v0_4 (0 : Int) (0 : Int)) else none) else none) else (f89_1000006 k (fun y6_N_2 y6_N_3 y6_N_5 y6_N_6 => (bif (decide ((v0_4.length : Int) > (0 : Int)) == true) then (bif (decide ((0 : Int) ≤ IntKind.i64.wrap ((v0_4.length : Int) - (1 : Int))) && decide (IntKind.i64.wrap ((v0_4.length : Int) - (1 : Int)) < (v0_4.length : Int))) then (f89_1000012 k (fun y12_N_4 => (rec y6_N_2 y6_N_3 y12_N_4)) v0_0 v0_1 y6_N_2 y6_N_3 (v0_4.length : Int) (decide (y6_N_5 ≤ ((v0_4.getD (Int.toNat (IntKind.i64.wrap ((v0_4.length : Int) - (1 : Int)))) ((0 : Int), ((0 : Int), ()))).2).1)) v0_4 y6_N_5 y6_N_6) else none) else (f89_1000012 k (fun y12_N_4 => (rec y6_N_2 y6_N_3 y12_N_4)) v0_0 v0_1 y6_N_2 y6_N_3 (v0_4.length : Int) false v0_4 y6_N_5 y6_N_6))) v0_0 v0_1 v0_2 v0_3 false v0_4 (0 : Int) (0 : Int))) else (f89_1000006 k (fun y6_N_2 y6_N_3 y6_N_5 y6_N_6 => (bif (decide ((v0_4.length : Int) > (0 : Int)) == true) then (bif (decide ((0 : Int) ≤ IntKind.i64.wrap ((v0_4.length : Int) - (1 : Int))) && decide (IntKind.i64.wrap ((v0_4.length : Int) - (1 : Int)) < (v0_4.length : Int))) then (f89_1000012 k (fun y12_N_4 => (rec y6_N_2 y6_N_3 y12_N_4)) v0_0 v0_1 y6_N_2 y6_N_3 (v0_4.length : Int) (decide (y6_N_5 ≤ ((v0_4.getD (Int.toNat (IntKind.i64.wrap ((v0_4.length : Int) - (1 : Int)))) ((0 : Int), ((0 : Int), ()))).2).1)) v0_4 y6_N_5 y6_N_6) else none) else (f89_1000012 k (fun y12_N_4 => (rec y6_N_2 y6_N_3 y12_N_4)) v0_0 v0_1 y6_N_2 y6_N_3 (v0_4.length : Int) false v0_4 y6_N_5 y6_N_6))) v0_0 v0_1 v0_2 v0_3 true v0_4 (0 : Int) (0 : Int))) else (x0 v0_4)) else (bif ((v0_3 == (v0_1.length : Int)) == false) then (bif (decide (v0_2 < (v0_0.length : Int)) == true) then (bif (decide ((0 : Int) ≤ v0_2) && decide (v0_2 < (v0_0.length : Int))) then (bif (decide ((0 : Int) ≤ v0_3) && decide (v0_3 < (v0_1.length : Int))) then (f89_1000006 k (fun y6_N_2 y6_N_3 y6_N_5 y6_N_6 => (bif (decide ((v0_4.length : Int) > (0 : Int)) == true) then (bif (decide ((0 : Int) ≤ IntKind.i64.wrap ((v0_4.length : Int) - (1 : Int))) && decide (IntKind.i64.wrap ((v0_4.length : Int) - (1 : Int)) < (v0_4.length : Int))) then (f89_1000012 k (fun y12_N_4 => (rec y6_N_2 y6_N_3 y12_N_4)) v0_0 v0_1 y6_N_2 y6_N_3 (v0_4.length : Int) (decide (y6_N_5 ≤ ((v0_4.getD (Int.toNat (IntKind.i64.wrap ((v0_4.length : Int) - (1 : Int)))) ((0 : Int), ((0 : Int), ()))).2).1)) v0_4 y6_N_5 y6_N_6) else none) else (f89_1000012 k (fun y12_N_4 => (rec y6_N_2 y6_N_3 y12_N_4)) v0_0 v0_1 y6_N_2 y6_N_3 (v0_4.length : Int) false v0_4 y6_N_5 y6_N_6))) v0_0 v0_1 v0_2 v0_3 (decide ((v0_0.getD (Int.toNat v0_2) ((0 : Int), ((0 : Int), ()))).1 ≤ (v0_1.getD (Int.toNat v0_3) ((0 : Int), ((0 : Int), ()))).1)) v0_4 (0 : Int) (0 : Int)) else none) else none) else (f89_1000006 k (fun y6_N_2 y6_N_3 y6_N_5 y6_N_6 => (bif (decide ((v0_4.length : Int) > (0 : Int)) == true) then (bif (decide ((0 : Int) ≤ IntKind.i64.wrap ((v0_4.length : Int) - (1 : Int))) && decide (IntKind.i64.wrap ((v0_4.length : Int) - (1 : Int)) < (v0_4.length : Int))) then (f89_1000012 k (fun y12_N_4 => (rec y6_N_2 y6_N_3 y12_N_4)) v0_0 v0_1 y6_N_2 y6_N_3 (v0_4.length : Int) (decide (y6_N_5 ≤ ((v0_4.getD (Int.toNat (IntKind.i64.wrap ((v0_4.length : Int) - (1 : Int)))) ((0 : Int), ((0 : Int), ()))).2).1)) v0_4 y6_N_5 y6_N_6) else none) else (f89_1000012 k (fun y12_N_4 => (rec y6_N_2 y6_N_3 y12_N_4)) v0_0 v0_1 y6_N_2 y6_N_3 (v0_4.length : Int) false v0_4 y6_N_5 y6_N_6))) v0_0 v0_1 v0_2 v0_3 false v0_4 (0 : Int) (0 : Int))) else (f89_1000006 k (fun y6_N_2 y6_N_3 y6_N_5 y6_N_6 => (bif (decide ((v0_4.length : Int) > (0 : Int)) == true) then (bif (decide ((0 : Int) ≤ IntKind.i64.wrap ((v0_4.length : Int) - (1 : Int))) && decide (IntKind.i64.wrap ((v0_4.length : Int) - (1 : Int)) < (v0_4.length : Int))) then (f89_1000012 k (fun y12_N_4 => (rec y6_N_2 y6_N_3 y12_N_4)) v0_0 v0_1 y6_N_2 y6_N_3 (v0_4.length : Int) (decide (y6_N_5 ≤ ((v0_4.getD (Int.toNat (IntKind.i64.wrap ((v0_4.length : Int) - (1 : Int)))) ((0 : Int), ((0 : Int), ()))).2).1)) v0_4 y6_N_5 y6_N_6) else none) else (f89_1000012 k (fun y12_N_4 => (rec y6_N_2 y6_N_3 y12_N_4)) v0_0 v0_1 y6_N_2 y6_N_3 (v0_4.length : Int) false v0_4 y6_N_5 y6_N_6))) v0_0 v0_1 v0_2 v0_3 true v0_4 (0 : Int) (0 : Int))))
noncomputable def f89_0d {R : Type} (k : Nat) (x0 : List (Int × (Int × Unit)) → Option R) (v0_0 : List ((Int × (Int × Unit)))) (v0_1 : List ((Int × (Int × Unit)))) : Nat → Int → Int → List (Int × (Int × Unit)) → Option R
  | 0, _, _, _ => none
  | m + 1, v0_2, v0_3, v0_4 => f89_0b k (f89_0d k x0 v0_0 v0_1 m) x0 v0_0 v0_1 v0_2 v0_3 v0_4
theorem f89_0x {R : Type} : ∃ f, f = @f89_0d R := ⟨_, rfl⟩
noncomputable def f89_0 {R : Type} := Classical.choose (f89_0x (R := R))
theorem f89_0_def {R : Type} : @f89_0 R = @f89_0d R := Classical.choose_spec f89_0x
noncomputable def f89d {R : Type} (k : Nat) (a0 : List ((Int × (Int × Unit)))) (a1 : List ((Int × (Int × Unit)))) (K : List (Int × (Int × Unit)) → Option R) : Option R := match k with
  | 0 => none
  | k + 1 => (f89_0 k (fun y0_0_0 => (K y0_0_0)) a0 a1 k (0 : Int) (0 : Int) ([] : List ((Int × (Int × Unit)))))
theorem f89x {R : Type} : ∃ f, f = @f89d R := ⟨_, rfl⟩
noncomputable def f89 {R : Type} := Classical.choose (f89x (R := R))
theorem f89_def {R : Type} : @f89 R = @f89d R := Classical.choose_spec f89x
noncomputable def f44d {R : Type} (k : Nat) (a0 : List ((Int × (Int × Unit)))) (a1 : List ((Int × (Int × Unit)))) (a2 : Int) (K : Int → List (Int × (Int × Unit)) → Option R) : Option R := match k with
  | 0 => none
  | k + 1 => (f46 k a0 a2 (fun r4098_0 => (bif (r4098_0 != (0 : Int)) then (K r4098_0 ([] : List ((Int × (Int × Unit))))) else (f46 k a1 a2 (fun r10242_0 => (bif (r10242_0 != (0 : Int)) then (K r10242_0 ([] : List ((Int × (Int × Unit))))) else (f89 k a0 a1 (fun r16386_0 => (bif decide ((r16386_0.length : Int) > (2000 : Int)) then (K (2 : Int) ([] : List ((Int × (Int × Unit))))) else (K (0 : Int) r16386_0))))))))))
theorem f44x {R : Type} : ∃ f, f = @f44d R := ⟨_, rfl⟩
noncomputable def f44 {R : Type} := Classical.choose (f44x (R := R))
theorem f44_def {R : Type} : @f44 R = @f44d R := Classical.choose_spec f44x
noncomputable def f7d {R : Type} (k : Nat) (a0 : List ((Int × (Int × Unit)))) (a1 : List ((Int × (Int × Unit)))) (a2 : Int) (K : Bool → Option R) : Option R := match k with
  | 0 => none
  | k + 1 => (f42 k a0 a2 (fun r4098_0 r4098_1 => (f43 k a0 a2 (fun r6146_0 r6146_1 => (f39 k a0 a1 a2 (fun r8195_0 r8195_1 => (f44 k a0 a1 a2 (fun r10243_0 r10243_1 => (f45 k a0 a2 (fun r12290_0 => (f46 k a0 a2 (fun r12293_0 => (bif ((r12290_0 == r12293_0) == true) then (f40 k r4098_1 r6146_1 (fun r12298_0 => (bif (r12298_0 == true) then (bif ((r4098_0 == r6146_0) == true) then (f40 k r8195_1 r10243_1 (fun r12308_0 => (bif (r12308_0 == true) then (bif ((r8195_0 == r10243_0) == true) then (f24 k (fun r12316_0 => (K r12316_0))) else (K false)) else (K false)))) else (K false)) else (K false)))) else (K false))))))))))))))
theorem f7x {R : Type} : ∃ f, f = @f7d R := ⟨_, rfl⟩
noncomputable def f7 {R : Type} := Classical.choose (f7x (R := R))
theorem f7_def {R : Type} : @f7 R = @f7d R := Classical.choose_spec f7x
noncomputable def f8d {R : Type} (k : Nat) (a0 : List ((Int × (Int × Unit)))) (a1 : Int) (K : Bool → Option R) : Option R := match k with
  | 0 => none
  | k + 1 => (f42 k a0 a1 (fun r4098_0 r4098_1 => (bif (r4098_0 != (0 : Int)) then (bif (((r4098_1.length : Int) == (0 : Int)) == true) then (f24 k (fun r8196_0 => (K r8196_0))) else (K false)) else (f39 k a0 r4098_1 a1 (fun r10243_0 r10243_1 => (f42 k r4098_1 a1 (fun r12290_0 r12290_1 => (bif ((r10243_0 != (0 : Int)) == false) then (bif (r12290_0 != (0 : Int)) then (bif ((r10243_0 == (0 : Int)) == true) then (bif ((r12290_0 == (2 : Int)) == true) then (f24 k (fun r16391_0 => (K r16391_0))) else (K false)) else (K false)) else (f41 k a0 (fun r18433_0 => (f41 k r4098_1 (fun r18435_0 => (bif ((IntKind.i64.wrap (r18433_0 + r18435_0) == a1) == true) then (f40 k r12290_1 a0 (fun r18442_0 => (bif (r18442_0 == true) then (f41 k r10243_1 (fun r18446_0 => (bif ((r18446_0 == a1) == true) then (bif (decide ((r10243_1.length : Int) ≤ (1 : Int)) == true) then (f24 k (fun r18456_0 => (K r18456_0))) else (K false)) else (K false)))) else (K false)))) else (K false))))))) else (bif ((r10243_0 == (0 : Int)) == true) then (bif ((r12290_0 == (2 : Int)) == true) then (f24 k (fun r16391_0 => (K r16391_0))) else (K false)) else (K false))))))))))
theorem f8x {R : Type} : ∃ f, f = @f8d R := ⟨_, rfl⟩
noncomputable def f8 {R : Type} := Classical.choose (f8x (R := R))
theorem f8_def {R : Type} : @f8 R = @f8d R := Classical.choose_spec f8x
end Go.Proofs.Ytlcklflbhhnnhaa.PM
