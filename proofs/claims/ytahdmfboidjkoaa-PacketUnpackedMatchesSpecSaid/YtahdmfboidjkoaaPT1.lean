/- Functions of the program in typed form (printed by a program of this work). -/
import Derived.Test.YtahdmfboidjkoaaPT0
set_option linter.unusedVariables false
set_option linter.unusedSimpArgs false
set_option maxRecDepth 100000
namespace Go.Proofs.Ytahdmfboidjkoaa.PM
open Go
noncomputable def f55_0b {R : Type} (k : Nat) (rec : Int → Option R) (K : Bool → Option R) (x0 : Option R) (v0_0 : List Int) (v0_1 : List Int) (v0_2 : Int) (v0_3 : Int) : Option R :=
  (bif decide (v0_3 < v0_2) then (bif (decide ((0 : Int) ≤ v0_3) && decide (v0_3 < (v0_0.length : Int))) then (bif (decide ((0 : Int) ≤ v0_3) && decide (v0_3 < (v0_1.length : Int))) then (bif ((v0_0.getD (Int.toNat v0_3) (0 : Int)) != (v0_1.getD (Int.toNat v0_3) (0 : Int))) then (K false) else (rec (IntKind.i64.wrap (v0_3 + (1 : Int))))) else none) else none) else x0)
noncomputable def f55_0d {R : Type} (k : Nat) (K : Bool → Option R) (x0 : Option R) (v0_0 : List Int) (v0_1 : List Int) (v0_2 : Int) : Nat → Int → Option R
  | 0, _ => none
  | m + 1, v0_3 => f55_0b k (f55_0d k K x0 v0_0 v0_1 v0_2 m) K x0 v0_0 v0_1 v0_2 v0_3
theorem f55_0x {R : Type} : ∃ f, f = @f55_0d R := ⟨_, rfl⟩
noncomputable def f55_0 {R : Type} := Classical.choose (f55_0x (R := R))
theorem f55_0_def {R : Type} : @f55_0 R = @f55_0d R := Classical.choose_spec f55_0x
noncomputable def f55d {R : Type} (k : Nat) (a0 : List Int) (a1 : List Int) (K : Bool → Option R) : Option R := match k with
  | 0 => none
  | k + 1 => (bif ((a0.length : Int) != (a1.length : Int)) then (K false) else (f55_0 k K (K true) a0 a1 (a0.length : Int) k (0 : Int)))
theorem f55x {R : Type} : ∃ f, f = @f55d R := ⟨_, rfl⟩
noncomputable def f55 {R : Type} := Classical.choose (f55x (R := R))
theorem f55_def {R : Type} : @f55 R = @f55d R := Classical.choose_spec f55x
noncomputable def f13d {R : Type} (k : Nat) (a0 : List ((Int × (Int × (Int × (Int × (List Int × Unit))))))) (a1 : Int) (a2 : List Int) (K : Bool → Option R) : Option R := match k with
  | 0 => none
  | k + 1 => (f52 k a0 a1 (fun r4098_0 r4098_1 => (f53 k a0 a1 (fun r6146_0 r6146_1 => (bif ((r4098_0 != r6146_0) == false) then (f32 k r4098_1 r6146_1 (fun r8198_0 => (bif (!r8198_0) then (K false) else (f46 k a2 a1 (fun r12290_0 r12290_1 r12290_2 => (f54 k a2 a1 (fun r14338_0 r14338_1 r14338_2 => (bif ((r12290_0 == r14338_0) == true) then (f55 k r12290_2 r14338_2 (fun r16390_0 => (bif (r16390_0 == true) then (f45 k r12290_1 r14338_1 (fun r16395_0 => (bif (r16395_0 == true) then (f21 k (fun r16398_0 => (K r16398_0))) else (K false)))) else (K false)))) else (K false))))))))) else (K false))))))
theorem f13x {R : Type} : ∃ f, f = @f13d R := ⟨_, rfl⟩
noncomputable def f13 {R : Type} := Classical.choose (f13x (R := R))
theorem f13_def {R : Type} : @f13 R = @f13d R := Classical.choose_spec f13x
noncomputable def f14_1000010d {R : Type} (k : Nat) (xN : List (Int × (Bool × (Int × (Int × (List Int × Unit))))) → Option R) (v10_0 : Int) (v10_1 : Int) (v10_2 : List ((Int × (Bool × (Int × (Int × (List Int × Unit))))))) (v10_3 : Int) (v10_4 : Int) (v10_5 : Bool) (v10_6 : List (Int × (Bool × (Int × (Int × (List Int × Unit)))))) (v10_7 : List (Int × (Bool × (Int × (Int × (List Int × Unit)))))) (v10_8 : Int) (v10_9 : Bool) (v10_10 : Int) (v10_11 : Int) (v10_12 : List Int) : Option R :=
  (bif v10_5 then (bif decide (v10_7.length + ([(v10_8, (v10_9, (v10_10, (v10_11, (v10_12, ())))))] : List (Int × (Bool × (Int × (Int × (List Int × Unit)))))).length ≤ LIM 56) then (xN (v10_7 ++ ([(v10_8, (v10_9, (v10_10, (v10_11, (v10_12, ())))))] : List (Int × (Bool × (Int × (Int × (List Int × Unit)))))))) else none) else (xN v10_7))
theorem f14_1000010x {R : Type} : ∃ f, f = @f14_1000010d R := ⟨_, rfl⟩
noncomputable def f14_1000010 {R : Type} := Classical.choose (f14_1000010x (R := R))
theorem f14_1000010_def {R : Type} : @f14_1000010 R = @f14_1000010d R := Classical.choose_spec f14_1000010x
noncomputable def f14_0b {R : Type} (k : Nat) (rec : Int → List (Int × (Bool × (Int × (Int × (List Int × Unit))))) → Option R) (x0 : List (Int × (Bool × (Int × (Int × (List Int × Unit))))) → Option R) (v0_0 : Int) (v0_1 : Int) (v0_2 : List ((Int × (Bool × (Int × (Int × (List Int × Unit))))))) (v0_3 : Int) (v0_5 : List (Int × (Bool × (Int × (Int × (List Int × Unit)))))) (v0_4 : Int) (v0_6 : List (Int × (Bool × (Int × (Int × (List Int × Unit)))))) : Option R :=
  (bif decide (v0_4 < v0_3) then (bif (decide ((0 : Int) ≤ v0_4) && decide (v0_4 < (v0_2.length : Int))) then (f14_1000010 k (fun y10_N_6 => (rec (IntKind.i64.wrap (v0_4 + (1 : Int))) y10_N_6)) v0_0 v0_1 v0_2 v0_3 v0_4 ((v0_2.getD (Int.toNat v0_4) ((0 : Int), (false, ((0 : Int), ((0 : Int), (([] : List Int), ())))))).1 != (2047 : Int)) v0_5 v0_6 ((v0_2.getD (Int.toNat v0_4) ((0 : Int), (false, ((0 : Int), ((0 : Int), (([] : List Int), ())))))).1) (((v0_2.getD (Int.toNat v0_4) ((0 : Int), (false, ((0 : Int), ((0 : Int), (([] : List Int), ())))))).2).1) ((((v0_2.getD (Int.toNat v0_4) ((0 : Int), (false, ((0 : Int), ((0 : Int), (([] : List Int), ())))))).2).2).1) (((((v0_2.getD (Int.toNat v0_4) ((0 : Int), (false, ((0 : Int), ((0 : Int), (([] : List Int), ())))))).2).2).2).1) ((((((v0_2.getD (Int.toNat v0_4) ((0 : Int), (false, ((0 : Int), ((0 : Int), (([] : List Int), ())))))).2).2).2).2).1)) else none) else (x0 v0_6))
noncomputable def f14_0d {R : Type} (k : Nat) (x0 : List (Int × (Bool × (Int × (Int × (List Int × Unit))))) → Option R) (v0_0 : Int) (v0_1 : Int) (v0_2 : List ((Int × (Bool × (Int × (Int × (List Int × Unit))))))) (v0_3 : Int) (v0_5 : List (Int × (Bool × (Int × (Int × (List Int × Unit)))))) : Nat → Int → List (Int × (Bool × (Int × (Int × (List Int × Unit))))) → Option R
  | 0, _, _ => none
  | m + 1, v0_4, v0_6 => f14_0b k (f14_0d k x0 v0_0 v0_1 v0_2 v0_3 v0_5 m) x0 v0_0 v0_1 v0_2 v0_3 v0_5 v0_4 v0_6
theorem f14_0x {R : Type} : ∃ f, f = @f14_0d R := ⟨_, rfl⟩
noncomputable def f14_0 {R : Type} := Classical.choose (f14_0x (R := R))
theorem f14_0_def {R : Type} : @f14_0 R = @f14_0d R := Classical.choose_spec f14_0x
noncomputable def f14d {R : Type} (k : Nat) (a0 : Int) (a1 : Int) (a2 : Int) (a3 : Int) (a4 : List ((Int × (Bool × (Int × (Int × (List Int × Unit))))))) (K : Bool → Option R) : Option R := match k with
  | 0 => none
  | k + 1 => (f48 k a0 a1 a2 a3 a4 (fun r4101_0 r4101_1 => (bif (r4101_0 != (0 : Int)) then (bif (((r4101_1.length : Int) == (0 : Int)) == true) then (f21 k (fun r8196_0 => (K r8196_0))) else (K false)) else (f50 k r4101_1 a3 (fun r10242_0 r10242_1 r10242_2 => (f14_0 k (fun y0_0_3 => (bif ((r10242_1 == (0 : Int)) == true) then (bif ((r10242_0 == (0 : Int)) == true) then (f27 k r10242_2 y0_0_3 (fun r26633_0 => (bif (r26633_0 == true) then (f21 k (fun r26636_0 => (K r26636_0))) else (K false)))) else (K false)) else (K false))) r10242_1 r10242_0 a4 (a4.length : Int) r10242_2 k (0 : Int) ([] : List ((Int × (Bool × (Int × (Int × (List Int × Unit)))))))))))))
theorem f14x {R : Type} : ∃ f, f = @f14d R := ⟨_, rfl⟩
noncomputable def f14 {R : Type} := Classical.choose (f14x (R := R))
theorem f14_def {R : Type} : @f14 R = @f14d R := Classical.choose_spec f14x
noncomputable def f15_1000009d {R : Type} (k : Nat) (xN : List (Int × (Int × (Int × (Int × (List Int × Unit))))) → Option R) (v9_0 : Int) (v9_1 : List ((Int × (Bool × (Int × (Int × (List Int × Unit))))))) (v9_2 : List Bool) (v9_3 : Int) (v9_4 : Int) (v9_5 : Bool) (v9_6 : List (Int × (Int × (Int × (Int × (List Int × Unit)))))) (v9_7 : Int) (v9_8 : Int) (v9_9 : Int) (v9_10 : Int) (v9_11 : List Int) (v9_12 : List (Int × (Int × (Int × (Int × (List Int × Unit)))))) : Option R :=
  (bif v9_5 then (bif decide (v9_6.length + ([(v9_7, (v9_8, (v9_9, (v9_10, (v9_11, ())))))] : List (Int × (Int × (Int × (Int × (List Int × Unit)))))).length ≤ LIM 56) then (xN (v9_6 ++ ([(v9_7, (v9_8, (v9_9, (v9_10, (v9_11, ())))))] : List (Int × (Int × (Int × (Int × (List Int × Unit)))))))) else none) else (xN v9_6))
theorem f15_1000009x {R : Type} : ∃ f, f = @f15_1000009d R := ⟨_, rfl⟩
noncomputable def f15_1000009 {R : Type} := Classical.choose (f15_1000009x (R := R))
theorem f15_1000009_def {R : Type} : @f15_1000009 R = @f15_1000009d R := Classical.choose_spec f15_1000009x
noncomputable def f15_0b {R : Type} (k : Nat) (rec : Int → List (Int × (Int × (Int × (Int × (List Int × Unit))))) → Option R) (x0 : List (Int × (Int × (Int × (Int × (List Int × Unit))))) → Option R) (v0_0 : Int) (v0_1 : List ((Int × (Bool × (Int × (Int × (List Int × Unit))))))) (v0_2 : List Bool) (v0_3 : Int) (v0_6 : List (Int × (Int × (Int × (Int × (List Int × Unit)))))) (v0_4 : Int) (v0_5 : List (Int × (Int × (Int × (Int × (List Int × Unit)))))) : Option R :=
  (bif decide (v0_4 < v0_3) then (bif (decide ((0 : Int) ≤ v0_4) && decide (v0_4 < (v0_6.length : Int))) then (bif (decide (v0_4 ≥ (v0_2.length : Int)) == false) then (bif (decide ((0 : Int) ≤ v0_4) && decide (v0_4 < (v0_2.length : Int))) then (f15_1000009 k (fun y9_N_5 => (rec (IntKind.i64.wrap (v0_4 + (1 : Int))) y9_N_5)) v0_0 v0_1 v0_2 v0_3 v0_4 (!(v0_2.getD (Int.toNat v0_4) false)) v0_5 ((v0_6.getD (Int.toNat v0_4) ((0 : Int), ((0 : Int), ((0 : Int), ((0 : Int), (([] : List Int), ())))))).1) (((v0_6.getD (Int.toNat v0_4) ((0 : Int), ((0 : Int), ((0 : Int), ((0 : Int), (([] : List Int), ())))))).2).1) ((((v0_6.getD (Int.toNat v0_4) ((0 : Int), ((0 : Int), ((0 : Int), ((0 : Int), (([] : List Int), ())))))).2).2).1) (((((v0_6.getD (Int.toNat v0_4) ((0 : Int), ((0 : Int), ((0 : Int), ((0 : Int), (([] : List Int), ())))))).2).2).2).1) ((((((v0_6.getD (Int.toNat v0_4) ((0 : Int), ((0 : Int), ((0 : Int), ((0 : Int), (([] : List Int), ())))))).2).2).2).2).1) v0_6) else none) else (f15_1000009 k (fun y9_N_5 => (rec (IntKind.i64.wrap (v0_4 + (1 : Int))) y9_N_5)) v0_0 v0_1 v0_2 v0_3 v0_4 true v0_5 ((v0_6.getD (Int.toNat v0_4) ((0 : Int), ((0 : Int), ((0 : Int), ((0 : Int), (([] : List Int), ())))))).1) (((v0_6.getD (Int.toNat v0_4) ((0 : Int), ((0 : Int), ((0 : Int), ((0 : Int), (([] : List Int), ())))))).2).1) ((((v0_6.getD (Int.toNat v0_4) ((0 : Int), ((0 : Int), ((0 : Int), ((0 : Int), (([] : List Int), ())))))).2).2).1) (((((v0_6.getD (Int.toNat v0_4) ((0 : Int), ((0 : Int), ((0 : Int), ((0 : Int), (([] : List Int), ())))))).2).2).2).1) ((((((v0_6.getD (Int.toNat v0_4) ((0 : Int), ((0 : Int), ((0 : Int), ((0 : Int), (([] : List Int), ())))))).2).2).2).2).1) v0_6)) else none) else (x0 v0_5))
noncomputable def f15_0d {R : Type} (k : Nat) (x0 : List (Int × (Int × (Int × (Int × (List Int × Unit))))) → Option R) (v0_0 : Int) (v0_1 : List ((Int × (Bool × (Int × (Int × (List Int × Unit))))))) (v0_2 : List Bool) (v0_3 : Int) (v0_6 : List (Int × (Int × (Int × (Int × (List Int × Unit)))))) : Nat → Int → List (Int × (Int × (Int × (Int × (List Int × Unit))))) → Option R
  | 0, _, _ => none
  | m + 1, v0_4, v0_5 => f15_0b k (f15_0d k x0 v0_0 v0_1 v0_2 v0_3 v0_6 m) x0 v0_0 v0_1 v0_2 v0_3 v0_6 v0_4 v0_5
theorem f15_0x {R : Type} : ∃ f, f = @f15_0d R := ⟨_, rfl⟩
noncomputable def f15_0 {R : Type} := Classical.choose (f15_0x (R := R))
theorem f15_0_def {R : Type} : @f15_0 R = @f15_0d R := Classical.choose_spec f15_0x
noncomputable def f15_1000017d {R : Type} (k : Nat) (xN : Int → Option R) (v17_0 : Int) (v17_1 : Int) (v17_2 : List ((Int × (Bool × (Int × (Int × (List Int × Unit))))))) (v17_3 : Int) (v17_4 : Int) (v17_5 : Bool) (v17_6 : List (Int × (Bool × (Int × (Int × (List Int × Unit)))))) : Option R :=
  (bif v17_5 then (xN (IntKind.i64.wrap (v17_1 + (1 : Int)))) else (xN v17_1))
theorem f15_1000017x {R : Type} : ∃ f, f = @f15_1000017d R := ⟨_, rfl⟩
noncomputable def f15_1000017 {R : Type} := Classical.choose (f15_1000017x (R := R))
theorem f15_1000017_def {R : Type} : @f15_1000017 R = @f15_1000017d R := Classical.choose_spec f15_1000017x
noncomputable def f15_2b {R : Type} (k : Nat) (rec : Int → Int → Option R) (x2 : Int → Option R) (v2_0 : Int) (v2_2 : List ((Int × (Bool × (Int × (Int × (List Int × Unit))))))) (v2_3 : Int) (v2_5 : List (Int × (Bool × (Int × (Int × (List Int × Unit)))))) (v2_1 : Int) (v2_4 : Int) : Option R :=
  (bif decide (v2_4 < v2_3) then (bif (decide ((0 : Int) ≤ v2_4) && decide (v2_4 < (v2_2.length : Int))) then (bif (decide (v2_1 < (v2_5.length : Int)) == true) then (bif (decide ((0 : Int) ≤ v2_1) && decide (v2_1 < (v2_5.length : Int))) then (f24 k ((v2_2.getD (Int.toNat v2_4) ((0 : Int), (false, ((0 : Int), ((0 : Int), (([] : List Int), ())))))).1) (((v2_2.getD (Int.toNat v2_4) ((0 : Int), (false, ((0 : Int), ((0 : Int), (([] : List Int), ())))))).2).1) ((((v2_2.getD (Int.toNat v2_4) ((0 : Int), (false, ((0 : Int), ((0 : Int), (([] : List Int), ())))))).2).2).1) (((((v2_2.getD (Int.toNat v2_4) ((0 : Int), (false, ((0 : Int), ((0 : Int), (([] : List Int), ())))))).2).2).2).1) ((((((v2_2.getD (Int.toNat v2_4) ((0 : Int), (false, ((0 : Int), ((0 : Int), (([] : List Int), ())))))).2).2).2).2).1) ((v2_5.getD (Int.toNat v2_1) ((0 : Int), (false, ((0 : Int), ((0 : Int), (([] : List Int), ())))))).1) (((v2_5.getD (Int.toNat v2_1) ((0 : Int), (false, ((0 : Int), ((0 : Int), (([] : List Int), ())))))).2).1) ((((v2_5.getD (Int.toNat v2_1) ((0 : Int), (false, ((0 : Int), ((0 : Int), (([] : List Int), ())))))).2).2).1) (((((v2_5.getD (Int.toNat v2_1) ((0 : Int), (false, ((0 : Int), ((0 : Int), (([] : List Int), ())))))).2).2).2).1) ((((((v2_5.getD (Int.toNat v2_1) ((0 : Int), (false, ((0 : Int), ((0 : Int), (([] : List Int), ())))))).2).2).2).2).1) (fun r34826_0 => (f15_1000017 k (fun y17_N_1 => (rec y17_N_1 (IntKind.i64.wrap (v2_4 + (1 : Int))))) v2_0 v2_1 v2_2 v2_3 v2_4 r34826_0 v2_5))) else none) else (f15_1000017 k (fun y17_N_1 => (rec y17_N_1 (IntKind.i64.wrap (v2_4 + (1 : Int))))) v2_0 v2_1 v2_2 v2_3 v2_4 false v2_5)) else none) else (x2 v2_1))
noncomputable def f15_2d {R : Type} (k : Nat) (x2 : Int → Option R) (v2_0 : Int) (v2_2 : List ((Int × (Bool × (Int × (Int × (List Int × Unit))))))) (v2_3 : Int) (v2_5 : List (Int × (Bool × (Int × (Int × (List Int × Unit)))))) : Nat → Int → Int → Option R
  | 0, _, _ => none
  | m + 1, v2_1, v2_4 => f15_2b k (f15_2d k x2 v2_0 v2_2 v2_3 v2_5 m) x2 v2_0 v2_2 v2_3 v2_5 v2_1 v2_4
theorem f15_2x {R : Type} : ∃ f, f = @f15_2d R := ⟨_, rfl⟩
noncomputable def f15_2 {R : Type} := Classical.choose (f15_2x (R := R))
theorem f15_2_def {R : Type} : @f15_2 R = @f15_2d R := Classical.choose_spec f15_2x
noncomputable def f15d {R : Type} (k : Nat) (a0 : Int) (a1 : Int) (a2 : Int) (a3 : Int) (a4 : List ((Int × (Bool × (Int × (Int × (List Int × Unit))))))) (a5 : List Bool) (K : Bool → Option R) : Option R := match k with
  | 0 => none
  | k + 1 => (f48 k a0 a1 a2 a3 a4 (fun r4101_0 r4101_1 => (bif ((r4101_0 != (0 : Int)) == false) then (bif decide ((r4101_1.length : Int) > (200 : Int)) then (bif ((r4101_0 == (0 : Int)) == false) then (bif (((r4101_1.length : Int) == (0 : Int)) == true) then (f21 k (fun r8200_0 => (K r8200_0))) else (K false)) else (f21 k (fun r8200_0 => (K r8200_0)))) else (f15_0 k (fun y0_0_2 => (f50 k y0_0_2 a3 (fun r24578_0 r24578_1 r24578_2 => (f15_2 k (fun y2_2_1 => (bif ((r24578_1 == (0 : Int)) == true) then (bif ((y2_2_1 == (r24578_2.length : Int)) == true) then (f21 k (fun r40969_0 => (K r40969_0))) else (K false)) else (K false))) r24578_1 a4 (a4.length : Int) r24578_2 k (0 : Int) (0 : Int))))) a3 a4 a5 (r4101_1.length : Int) r4101_1 k (0 : Int) ([] : List ((Int × (Int × (Int × (Int × (List Int × Unit))))))))) else (bif ((r4101_0 == (0 : Int)) == false) then (bif (((r4101_1.length : Int) == (0 : Int)) == true) then (f21 k (fun r8200_0 => (K r8200_0))) else (K false)) else (f21 k (fun r8200_0 => (K r8200_0)))))))
theorem f15x {R : Type} : ∃ f, f = @f15d R := ⟨_, rfl⟩
noncomputable def f15 {R : Type} := Classical.choose (f15x (R := R))
theorem f15_def {R : Type} : @f15 R = @f15d R := Classical.choose_spec f15x
end Go.Proofs.Ytahdmfboidjkoaa.PM
