/- Functions of the program in typed form (printed by a program of this work). -/
import Derived.Test.YtahdmfboidjkoaaPT1
set_option maxRecDepth 100000
namespace Go.Proofs.Ytahdmfboidjkoaa.PM
open Go
noncomputable def f54_1d {R : Type} (k : Nat) (x1 : Int → List (Int × (Int × (Int × (Int × (List Int × Unit))))) → List Int → Option R) (v1_0 : List Int) (v1_1 : Int) (v1_2 : Int) (v1_3 : List (Int × (Int × (Int × (Int × (List Int × Unit)))))) (v1_4 : List Int) : Option R :=
  (f82 k v1_0 v1_2 v1_1 (fun r22531_0 r22531_1 r22531_2 r22531_3 r22531_4 r22531_5 => (bif (!r22531_4) then (x1 (IntKind.i64.wrap (v1_2 + (1 : Int))) v1_3 v1_4) else (bif decide (v1_3.length + ([(r22531_0, (r22531_1, (r22531_2, (r22531_3, (r22531_5, ())))))] : List (Int × (Int × (Int × (Int × (List Int × Unit)))))).length ≤ LIM 56) then (bif decide (v1_4.length + ([v1_2] : List Int).length ≤ LIM 8) then (x1 (IntKind.i64.wrap (v1_2 + (IntKind.i64.wrap (v1_1 + (4 : Int))))) (v1_3 ++ ([(r22531_0, (r22531_1, (r22531_2, (r22531_3, (r22531_5, ())))))] : List (Int × (Int × (Int × (Int × (List Int × Unit))))))) (v1_4 ++ ([v1_2] : List Int))) else none) else none))))
theorem f54_1x {R : Type} : ∃ f, f = @f54_1d R := ⟨_, rfl⟩
noncomputable def f54_1 {R : Type} := Classical.choose (f54_1x (R := R))
theorem f54_1_def {R : Type} : @f54_1 R = @f54_1d R := Classical.choose_spec f54_1x
noncomputable def f54_0b {R : Type} (k : Nat) (rec : Int → List (Int × (Int × (Int × (Int × (List Int × Unit))))) → List Int → Option R) (x0 : List (Int × (Int × (Int × (Int × (List Int × Unit))))) → List Int → Option R) (v0_0 : List Int) (v0_1 : Int) (v0_2 : Int) (v0_3 : List (Int × (Int × (Int × (Int × (List Int × Unit)))))) (v0_4 : List Int) : Option R :=
  (bif decide (v0_2 < (v0_0.length : Int)) then (f54_1 k (fun y1_1_2 y1_1_3 y1_1_4 => (rec y1_1_2 y1_1_3 y1_1_4)) v0_0 v0_1 v0_2 v0_3 v0_4) else (x0 v0_3 v0_4))
noncomputable def f54_0d {R : Type} (k : Nat) (x0 : List (Int × (Int × (Int × (Int × (List Int × Unit))))) → List Int → Option R) (v0_0 : List Int) (v0_1 : Int) : Nat → Int → List (Int × (Int × (Int × (Int × (List Int × Unit))))) → List Int → Option R
  | 0, _, _, _ => none
  | m + 1, v0_2, v0_3, v0_4 => f54_0b k (f54_0d k x0 v0_0 v0_1 m) x0 v0_0 v0_1 v0_2 v0_3 v0_4
theorem f54_0x {R : Type} : ∃ f, f = @f54_0d R := ⟨_, rfl⟩
noncomputable def f54_0 {R : Type} := Classical.choose (f54_0x (R := R))
theorem f54_0_def {R : Type} : @f54_0 R = @f54_0d R := Classical.choose_spec f54_0x
noncomputable def f54d {R : Type} (k : Nat) (a0 : List Int) (a1 : Int) (K : Int → List (Int × (Int × (Int × (Int × (List Int × Unit))))) → List Int → Option R) : Option R := match k with
  | 0 => none
  | k + 1 => (f76 k a1 (fun r4097_0 => (bif (r4097_0 != (0 : Int)) then (K r4097_0 ([] : List ((Int × (Int × (Int × (Int × (List Int × Unit))))))) ([] : List Int)) else (bif decide ((a0.length : Int) > (200000 : Int)) then (K (2 : Int) ([] : List ((Int × (Int × (Int × (Int × (List Int × Unit))))))) ([] : List Int)) else (f54_0 k (fun y0_0_0 y0_0_1 => (K (0 : Int) y0_0_0 y0_0_1)) a0 a1 k (0 : Int) ([] : List ((Int × (Int × (Int × (Int × (List Int × Unit))))))) ([] : List Int))))))
theorem f54x {R : Type} : ∃ f, f = @f54d R := ⟨_, rfl⟩
noncomputable def f54 {R : Type} := Classical.choose (f54x (R := R))
theorem f54_def {R : Type} : @f54 R = @f54d R := Classical.choose_spec f54x
noncomputable def f55_0b {R : Type} (k : Nat) (rec : Int → Option R) (K : Bool → Option R) (x0 : Option R) (v0_0 : List Int) (v0_1 : List Int) (v0_2 : Int) (v0_3 : Int) : Option R :=
  (bif decide (v0_3 < v0_2) then (bif (decide ((0 : Int) ≤ v0_3) && decide (v0_3 < (v0_0.length : Int))) then (bif (decide ((0 : Int) ≤ v0_3) && decide (v0_3 < (v0_1.length : Int))) then (bif ((v0_0.getD (Int.toNat v0_3) (0 : Int)) != (v0_1.getD (Int.toNat v0_3) (0 : Int))) then (K false) else (rec (IntKind.i64.wrap (v0_3 + (1 : Int))))) else none) else none) else x0)
noncomputable def f55_0d {R : Type} (k : Nat) (K : Bool → Option R) (x0 : Option R) (v0_0 : List Int) (v0_1 : List Int) (v0_2 : Int) : Nat → Int → Option R
  | 0, _ => none
  | m + 1, v0_3 => f55_0b k (f55_0d k K x0 v0_0 v0_1 v0_2 m) K x0 v0_0 v0_1 v0_2 v0_3
theorem f55_0x {R : Type} : ∃ f, f = @f55_0d R := ⟨_, rfl⟩
noncomputable def f55_0 {R : Type} := Classical.choose (f55_0x (R := R))
theorem f55_0_def {R : Type} : @f55_0 R = @f55_0d R := Classical.choose_spec f55_0x
noncomputable def f55d {R : Type} (k : Nat) (a0 : List Int) (a1 : List Int) (K : Bool → Option R) : Option R := match k with
  | 0 => none
  | k + 1 => (bif ((a0.length : Int) != (a1.length : Int)) then (K false) else (f55_0 k K (K true) a0 a1 (a0.length : Int) k (0 : Int)))
theorem f55x {R : Type} : ∃ f, f = @f55d R := ⟨_, rfl⟩
noncomputable def f55 {R : Type} := Classical.choose (f55x (R := R))
theorem f55_def {R : Type} : @f55 R = @f55d R := Classical.choose_spec f55x
noncomputable def f13d {R : Type} (k : Nat) (a0 : List ((Int × (Int × (Int × (Int × (List Int × Unit))))))) (a1 : Int) (a2 : List Int) (K : Bool → Option R) : Option R := match k with
  | 0 => none
  | k + 1 => (f52 k a0 a1 (fun r4098_0 r4098_1 => (f53 k a0 a1 (fun r6146_0 r6146_1 => (bif ((r4098_0 != r6146_0) == false) then (f32 k r4098_1 r6146_1 (fun r8198_0 => (bif (!r8198_0) then (K false) else (f46 k a2 a1 (fun r12290_0 r12290_1 r12290_2 => (f54 k a2 a1 (fun r14338_0 r14338_1 r14338_2 => (bif ((r12290_0 == r14338_0) == true) then (f55 k r12290_2 r14338_2 (fun r16390_0 => (bif (r16390_0 == true) then (f45 k r12290_1 r14338_1 (fun r16395_0 => (bif (r16395_0 == true) then (f21 k (fun r16398_0 => (K r16398_0))) else (K false)))) else (K false)))) else (K false))))))))) else (K false))))))
theorem f13x {R : Type} : ∃ f, f = @f13d R := ⟨_, rfl⟩
noncomputable def f13 {R : Type} := Classical.choose (f13x (R := R))
theorem f13_def {R : Type} : @f13 R = @f13d R := Classical.choose_spec f13x
end Go.Proofs.Ytahdmfboidjkoaa.PM
