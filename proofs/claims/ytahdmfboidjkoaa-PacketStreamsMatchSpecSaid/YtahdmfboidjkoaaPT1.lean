/- Functions of the program in typed form (printed by a program of this work). -/
import Derived.Test.YtahdmfboidjkoaaPT0
set_option maxRecDepth 100000
namespace Go.Proofs.Ytahdmfboidjkoaa.PM
open Go
noncomputable def f8d {R : Type} (k : Nat) (a0 : Int) (a1 : Bool) (a2 : Int) (a3 : Int) (a4 : List Int) (a5 : List Int) (a6 : Int) (K : Bool → Option R) : Option R := match k with
  | 0 => none
  | k + 1 => (f28 k a0 a1 a2 a3 a4 (fun r4097_0 r4097_1 => (bif (r4097_0 != (0 : Int)) then (bif (((r4097_1.length : Int) == (0 : Int)) == true) then (f21 k (fun r8196_0 => (K r8196_0))) else (K false)) else (f40 k ([r4097_1, a5] : List (List Int)) (fun r10243_0 => (f22 k r10243_0 (fun r10244_0 r10244_1 r10244_2 r10244_3 r10244_4 r10244_5 r10244_6 => (bif ((r10244_5 != (0 : Int)) == false) then (bif ((r10244_4 != (r4097_1.length : Int)) == false) then (f24 k a0 a1 a2 a3 a4 r10244_0 r10244_1 r10244_2 r10244_3 r10244_6 (fun r12299_0 => (bif (!r12299_0) then (K false) else (f41 k r4097_1 (fun r16385_0 => (f42 k a6 (IntKind.i64.wrap ((8 : Int) * (IntKind.i64.wrap ((r4097_1.length : Int) - (6 : Int))))) (fun r18437_0 => (bif (decide ((0 : Int) ≤ IntKind.i64.wrap ((6 : Int) + (IntKind.i64.wrap (Int.tdiv r18437_0 (8 : Int))))) && decide (IntKind.i64.wrap ((6 : Int) + (IntKind.i64.wrap (Int.tdiv r18437_0 (8 : Int)))) < (r16385_0.length : Int))) then (bif decide ((0 : Int) ≤ Int.tmod r18437_0 (8 : Int)) then (bif (decide ((0 : Int) ≤ IntKind.i64.wrap ((6 : Int) + (IntKind.i64.wrap (Int.tdiv r18437_0 (8 : Int))))) && decide (IntKind.i64.wrap ((6 : Int) + (IntKind.i64.wrap (Int.tdiv r18437_0 (8 : Int)))) < (r16385_0.length : Int))) then (f22 k (r16385_0.set (Int.toNat (IntKind.i64.wrap ((6 : Int) + (IntKind.i64.wrap (Int.tdiv r18437_0 (8 : Int)))))) (bits .xor .u8 (r16385_0.getD (Int.toNat (IntKind.i64.wrap ((6 : Int) + (IntKind.i64.wrap (Int.tdiv r18437_0 (8 : Int)))))) (0 : Int)) (Int.fdiv (128 : Int) (2 ^ min (Int.toNat (Int.tmod r18437_0 (8 : Int))) 8)))) (fun r22529_0 r22529_1 r22529_2 r22529_3 r22529_4 r22529_5 r22529_6 => (bif ((r22529_5 == (15 : Int)) == true) then (f21 k (fun r24579_0 => (K r24579_0))) else (K false)))) else none) else none) else none)))))))) else (K false)) else (K false)))))))))
theorem f8x {R : Type} : ∃ f, f = @f8d R := ⟨_, rfl⟩
noncomputable def f8 {R : Type} := Classical.choose (f8x (R := R))
theorem f8_def {R : Type} : @f8 R = @f8d R := Classical.choose_spec f8x
noncomputable def f79d {R : Type} (k : Nat) (K : List Int → Option R) : Option R := match k with
  | 0 => none
  | k + 1 => (K ([(26 : Int), (207 : Int), (252 : Int), (29 : Int)] : List Int))
theorem f79x {R : Type} : ∃ f, f = @f79d R := ⟨_, rfl⟩
noncomputable def f79 {R : Type} := Classical.choose (f79x (R := R))
theorem f79_def {R : Type} : @f79 R = @f79d R := Classical.choose_spec f79x
noncomputable def f97d {R : Type} (k : Nat) (a0 : List Int) (K : Bool → Option R) : Option R := match k with
  | 0 => none
  | k + 1 => (f79 k (fun r4096_0 => (bif (decide ((0 : Int) ≤ (if (r4096_0.length : Int) < (a0.length : Int) then (r4096_0.length : Int) else (a0.length : Int))) && decide ((if (r4096_0.length : Int) < (a0.length : Int) then (r4096_0.length : Int) else (a0.length : Int)) ≤ (a0.length : Int))) then (bif (decide ((0 : Int) ≤ (if (r4096_0.length : Int) < (a0.length : Int) then (r4096_0.length : Int) else (a0.length : Int))) && decide ((if (r4096_0.length : Int) < (a0.length : Int) then (r4096_0.length : Int) else (a0.length : Int)) ≤ (r4096_0.length : Int))) then (f32 k (a0.take (Int.toNat (if (r4096_0.length : Int) < (a0.length : Int) then (r4096_0.length : Int) else (a0.length : Int)))) ((r4096_0.drop 0).take (Int.toNat (if (r4096_0.length : Int) < (a0.length : Int) then (r4096_0.length : Int) else (a0.length : Int)))) (fun r8198_0 => (K r8198_0))) else none) else none)))
theorem f97x {R : Type} : ∃ f, f = @f97d R := ⟨_, rfl⟩
noncomputable def f97 {R : Type} := Classical.choose (f97x (R := R))
theorem f97_def {R : Type} : @f97 R = @f97d R := Classical.choose_spec f97x
noncomputable def f80_1000011d {R : Type} (k : Nat) (x1 : Int → List (Int × (Int × (Int × (Int × (List Int × Unit))))) → List Int → Option R) (xN : Option R) (v11_0 : List Int) (v11_1 : Int) (v11_2 : Int) (v11_3 : Int) (v11_4 : List Int) (v11_5 : Bool) (v11_6 : List (Int × (Int × (Int × (Int × (List Int × Unit)))))) (v11_7 : List Int) : Option R :=
  (bif v11_5 then (f79 k (fun r24577_0 => (bif (decide ((0 : Int) ≤ (r24577_0.length : Int)) && (decide ((r24577_0.length : Int) ≤ v11_2) && decide (v11_2 ≤ (v11_4.length : Int)))) then (f37 k ((v11_4.take (Int.toNat v11_2)).drop (Int.toNat (r24577_0.length : Int))) v11_1 (fun r24582_0 r24582_1 r24582_2 r24582_3 r24582_4 r24582_5 => (bif (r24582_4 == (0 : Int)) then (bif decide (v11_6.length + ([(r24582_0, (r24582_1, (r24582_2, (r24582_3, (r24582_5, ())))))] : List (Int × (Int × (Int × (Int × (List Int × Unit)))))).length ≤ LIM 56) then (bif decide (v11_7.length + ([v11_3] : List Int).length ≤ LIM 8) then (x1 (IntKind.i64.wrap (v11_3 + v11_2)) (v11_6 ++ ([(r24582_0, (r24582_1, (r24582_2, (r24582_3, (r24582_5, ())))))] : List (Int × (Int × (Int × (Int × (List Int × Unit))))))) (v11_7 ++ ([v11_3] : List Int))) else none) else none) else xN))) else none))) else xN)
theorem f80_1000011x {R : Type} : ∃ f, f = @f80_1000011d R := ⟨_, rfl⟩
noncomputable def f80_1000011 {R : Type} := Classical.choose (f80_1000011x (R := R))
theorem f80_1000011_def {R : Type} : @f80_1000011 R = @f80_1000011d R := Classical.choose_spec f80_1000011x
noncomputable def f80_1d {R : Type} (k : Nat) (x0 : Option R) (x1 : Int → List (Int × (Int × (Int × (Int × (List Int × Unit))))) → List Int → Option R) (v1_0 : List Int) (v1_1 : Int) (v1_2 : Int) (v1_3 : Int) (v1_4 : List (Int × (Int × (Int × (Int × (List Int × Unit)))))) (v1_5 : List Int) : Option R :=
  (bif (decide ((0 : Int) ≤ v1_3) && decide (v1_3 ≤ (v1_0.length : Int))) then (bif decide (((v1_0.drop (Int.toNat v1_3)).length : Int) < v1_2) then (f97 k (v1_0.drop (Int.toNat v1_3)) (fun r18433_0 => (bif r18433_0 then x0 else (x1 (IntKind.i64.wrap (v1_3 + (1 : Int))) v1_4 v1_5)))) else (f97 k (v1_0.drop (Int.toNat v1_3)) (fun r22529_0 => (f80_1000011 k (fun y11_1_3 y11_1_4 y11_1_5 => (x1 y11_1_3 y11_1_4 y11_1_5)) (x1 (IntKind.i64.wrap (v1_3 + (1 : Int))) v1_4 v1_5) v1_0 v1_1 v1_2 v1_3 (v1_0.drop (Int.toNat v1_3)) r22529_0 v1_4 v1_5)))) else none)
theorem f80_1x {R : Type} : ∃ f, f = @f80_1d R := ⟨_, rfl⟩
noncomputable def f80_1 {R : Type} := Classical.choose (f80_1x (R := R))
theorem f80_1_def {R : Type} : @f80_1 R = @f80_1d R := Classical.choose_spec f80_1x
noncomputable def f80_0b {R : Type} (k : Nat) (rec : Int → List (Int × (Int × (Int × (Int × (List Int × Unit))))) → List Int → Option R) (x0 : Int → List (Int × (Int × (Int × (Int × (List Int × Unit))))) → List Int → Option R) (v0_0 : List Int) (v0_1 : Int) (v0_2 : Int) (v0_3 : Int) (v0_4 : List (Int × (Int × (Int × (Int × (List Int × Unit)))))) (v0_5 : List Int) : Option R :=
  (bif decide (v0_3 < (v0_0.length : Int)) then (f80_1 k (x0 v0_3 v0_4 v0_5) (fun y1_1_3 y1_1_4 y1_1_5 => (rec y1_1_3 y1_1_4 y1_1_5)) v0_0 v0_1 v0_2 v0_3 v0_4 v0_5) else (x0 v0_3 v0_4 v0_5))
noncomputable def f80_0d {R : Type} (k : Nat) (x0 : Int → List (Int × (Int × (Int × (Int × (List Int × Unit))))) → List Int → Option R) (v0_0 : List Int) (v0_1 : Int) (v0_2 : Int) : Nat → Int → List (Int × (Int × (Int × (Int × (List Int × Unit))))) → List Int → Option R
  | 0, _, _, _ => none
  | m + 1, v0_3, v0_4, v0_5 => f80_0b k (f80_0d k x0 v0_0 v0_1 v0_2 m) x0 v0_0 v0_1 v0_2 v0_3 v0_4 v0_5
theorem f80_0x {R : Type} : ∃ f, f = @f80_0d R := ⟨_, rfl⟩
noncomputable def f80_0 {R : Type} := Classical.choose (f80_0x (R := R))
theorem f80_0_def {R : Type} : @f80_0 R = @f80_0d R := Classical.choose_spec f80_0x
noncomputable def f80d {R : Type} (k : Nat) (a0 : List Int) (a1 : Int) (K : Int → List (Int × (Int × (Int × (Int × (List Int × Unit))))) → List Int → Option R) : Option R := match k with
  | 0 => none
  | k + 1 => (f79 k (fun r8193_0 => (f80_0 k (fun y0_0_0 y0_0_1 y0_0_2 => (K y0_0_0 y0_0_1 y0_0_2)) a0 a1 (IntKind.i64.wrap (a1 + (r8193_0.length : Int))) k (0 : Int) ([] : List ((Int × (Int × (Int × (Int × (List Int × Unit))))))) ([] : List Int))))
theorem f80x {R : Type} : ∃ f, f = @f80d R := ⟨_, rfl⟩
noncomputable def f80 {R : Type} := Classical.choose (f80x (R := R))
theorem f80_def {R : Type} : @f80 R = @f80d R := Classical.choose_spec f80x
noncomputable def f43d {R : Type} (k : Nat) (a0 : List Int) (a1 : List Int) (a2 : Int) (K : Int → List (Int × (Int × (Int × (Int × (List Int × Unit))))) → List Int → Option R) : Option R := match k with
  | 0 => none
  | k + 1 => (f75 k a2 (fun r4097_0 => (bif (r4097_0 != (0 : Int)) then (K (1 : Int) ([] : List ((Int × (Int × (Int × (Int × (List Int × Unit))))))) ([] : List Int)) else (bif decide (IntKind.i64.wrap ((a0.length : Int) + (a1.length : Int)) > (200000 : Int)) then (K (2 : Int) ([] : List ((Int × (Int × (Int × (Int × (List Int × Unit))))))) ([] : List Int)) else (f79 k (fun r12291_0 => (bif decide ((a0.length : Int) ≥ IntKind.i64.wrap (a2 + (r12291_0.length : Int))) then (K (3 : Int) ([] : List ((Int × (Int × (Int × (Int × (List Int × Unit))))))) ([] : List Int)) else (f40 k ([a0, a1] : List (List Int)) (fun r16387_0 => (f80 k r16387_0 a2 (fun r18434_0 r18434_1 r18434_2 => (bif (decide ((0 : Int) ≤ r18434_0) && decide (r18434_0 ≤ (r16387_0.length : Int))) then (f41 k ((r16387_0.drop (Int.toNat r18434_0)).take (r16387_0.length - (Int.toNat r18434_0))) (fun r20484_0 => (K (0 : Int) r18434_1 r20484_0))) else none))))))))))))
theorem f43x {R : Type} : ∃ f, f = @f43d R := ⟨_, rfl⟩
noncomputable def f43 {R : Type} := Classical.choose (f43x (R := R))
theorem f43_def {R : Type} : @f43 R = @f43d R := Classical.choose_spec f43x
noncomputable def f105d {R : Type} (k : Nat) (a0 : List Int) (a1 : List Int) (K : Bool → Option R) : Option R := match k with
  | 0 => none
  | k + 1 => (K ((strOf a0).toList == (strOf a1).toList))
theorem f105x {R : Type} : ∃ f, f = @f105d R := ⟨_, rfl⟩
noncomputable def f105 {R : Type} := Classical.choose (f105x (R := R))
theorem f105_def {R : Type} : @f105 R = @f105d R := Classical.choose_spec f105x
noncomputable def f98d {R : Type} (k : Nat) (a0 : List Int) (a1 : List Int) (K : Bool → Option R) : Option R := match k with
  | 0 => none
  | k + 1 => (bif (decide ((a0.length : Int) ≥ (a1.length : Int)) == true) then (bif (decide ((0 : Int) ≤ (a1.length : Int)) && decide ((a1.length : Int) ≤ (a0.length : Int))) then (f105 k (a0.take (Int.toNat (a1.length : Int))) a1 (fun r4107_0 => (K r4107_0))) else none) else (K false))
theorem f98x {R : Type} : ∃ f, f = @f98d R := ⟨_, rfl⟩
noncomputable def f98 {R : Type} := Classical.choose (f98x (R := R))
theorem f98_def {R : Type} : @f98 R = @f98d R := Classical.choose_spec f98x
noncomputable def f81d {R : Type} (k : Nat) (a0 : List Int) (a1 : Int) (K : Bool → Option R) : Option R := match k with
  | 0 => none
  | k + 1 => (bif (decide ((a0.length : Int) < IntKind.i64.wrap (a1 + (4 : Int))) == true) then (bif decide (0 < ([(26 : Int), (207 : Int), (252 : Int), (29 : Int)] : List Int).length) then (f98 k a0 ([(26 : Int), (207 : Int), (252 : Int), (29 : Int)] : List Int) (fun r4105_0 => (bif (r4105_0 == false) then (bif decide (0 < ([(26 : Int), (207 : Int), (252 : Int), (29 : Int)] : List Int).length) then (f98 k ([(26 : Int), (207 : Int), (252 : Int), (29 : Int)] : List Int) a0 (fun r4110_0 => (K r4110_0))) else none) else (K true)))) else none) else (K false))
theorem f81x {R : Type} : ∃ f, f = @f81d R := ⟨_, rfl⟩
noncomputable def f81 {R : Type} := Classical.choose (f81x (R := R))
theorem f81_def {R : Type} : @f81 R = @f81d R := Classical.choose_spec f81x
noncomputable def f82d {R : Type} (k : Nat) (a0 : List Int) (a1 : Int) (a2 : Int) (K : Int → Int → Int → Int → Bool → List Int → Option R) : Option R := match k with
  | 0 => none
  | k + 1 => (bif (decide (IntKind.i64.wrap ((a0.length : Int) - a1) < IntKind.i64.wrap (a2 + (4 : Int))) == false) then (bif (decide ((0 : Int) ≤ a1) && (decide (a1 ≤ IntKind.i64.wrap (a1 + (4 : Int))) && decide (IntKind.i64.wrap (a1 + (4 : Int)) ≤ (a0.length : Int)))) then (bif (!((strOf ((a0.take (Int.toNat (IntKind.i64.wrap (a1 + (4 : Int))))).drop (Int.toNat a1))).toList == (⟨#[26, 207, 252, 29]⟩ : ByteArray).toList)) then (K (0 : Int) (0 : Int) (0 : Int) (0 : Int) false ([] : List Int)) else (bif (decide ((0 : Int) ≤ IntKind.i64.wrap (a1 + (4 : Int))) && (decide (IntKind.i64.wrap (a1 + (4 : Int)) ≤ IntKind.i64.wrap ((IntKind.i64.wrap (a1 + (4 : Int))) + a2)) && decide (IntKind.i64.wrap ((IntKind.i64.wrap (a1 + (4 : Int))) + a2) ≤ (a0.length : Int)))) then (f38 k ((a0.take (Int.toNat (IntKind.i64.wrap ((IntKind.i64.wrap (a1 + (4 : Int))) + a2)))).drop (Int.toNat (IntKind.i64.wrap (a1 + (4 : Int))))) a2 (fun r8201_0 r8201_1 r8201_2 r8201_3 r8201_4 r8201_5 => (K r8201_0 r8201_1 r8201_2 r8201_3 (r8201_4 == (0 : Int)) r8201_5))) else none)) else none) else (K (0 : Int) (0 : Int) (0 : Int) (0 : Int) false ([] : List Int)))
theorem f82x {R : Type} : ∃ f, f = @f82d R := ⟨_, rfl⟩
noncomputable def f82 {R : Type} := Classical.choose (f82x (R := R))
theorem f82_def {R : Type} : @f82 R = @f82d R := Classical.choose_spec f82x
noncomputable def f44_1d {R : Type} (k : Nat) (x1 : Int → List (Int × (Int × (Int × (Int × (List Int × Unit))))) → Option R) (v1_0 : Int) (v1_1 : Int) (v1_2 : List Int) (v1_3 : List (Int × (Int × (Int × (Int × (List Int × Unit)))))) : Option R :=
  (f82 k v1_2 v1_1 v1_0 (fun r26627_0 r26627_1 r26627_2 r26627_3 r26627_4 r26627_5 => (bif (!r26627_4) then (x1 (IntKind.i64.wrap (v1_1 + (1 : Int))) v1_3) else (bif decide (v1_3.length + ([(r26627_0, (r26627_1, (r26627_2, (r26627_3, (r26627_5, ())))))] : List (Int × (Int × (Int × (Int × (List Int × Unit)))))).length ≤ LIM 56) then (x1 (IntKind.i64.wrap ((IntKind.i64.wrap (v1_1 + v1_0)) + (4 : Int))) (v1_3 ++ ([(r26627_0, (r26627_1, (r26627_2, (r26627_3, (r26627_5, ())))))] : List (Int × (Int × (Int × (Int × (List Int × Unit)))))))) else none))))
theorem f44_1x {R : Type} : ∃ f, f = @f44_1d R := ⟨_, rfl⟩
noncomputable def f44_1 {R : Type} := Classical.choose (f44_1x (R := R))
theorem f44_1_def {R : Type} : @f44_1 R = @f44_1d R := Classical.choose_spec f44_1x
noncomputable def f44_0b {R : Type} (k : Nat) (rec : Int → List (Int × (Int × (Int × (Int × (List Int × Unit))))) → Option R) (x0 : Int → List (Int × (Int × (Int × (Int × (List Int × Unit))))) → Option R) (v0_0 : Int) (v0_2 : List Int) (v0_1 : Int) (v0_3 : List (Int × (Int × (Int × (Int × (List Int × Unit)))))) : Option R :=
  (bif (decide (v0_1 < (v0_2.length : Int)) == true) then (bif (decide ((0 : Int) ≤ v0_1) && decide (v0_1 ≤ (v0_2.length : Int))) then (f81 k ((v0_2.drop (Int.toNat v0_1)).take (v0_2.length - (Int.toNat v0_1))) v0_0 (fun r24585_0 => (bif (!r24585_0) then (f44_1 k (fun y1_1_1 y1_1_3 => (rec y1_1_1 y1_1_3)) v0_0 v0_1 v0_2 v0_3) else (x0 v0_1 v0_3)))) else none) else (x0 v0_1 v0_3))
noncomputable def f44_0d {R : Type} (k : Nat) (x0 : Int → List (Int × (Int × (Int × (Int × (List Int × Unit))))) → Option R) (v0_0 : Int) (v0_2 : List Int) : Nat → Int → List (Int × (Int × (Int × (Int × (List Int × Unit))))) → Option R
  | 0, _, _ => none
  | m + 1, v0_1, v0_3 => f44_0b k (f44_0d k x0 v0_0 v0_2 m) x0 v0_0 v0_2 v0_1 v0_3
theorem f44_0x {R : Type} : ∃ f, f = @f44_0d R := ⟨_, rfl⟩
noncomputable def f44_0 {R : Type} := Classical.choose (f44_0x (R := R))
theorem f44_0_def {R : Type} : @f44_0 R = @f44_0d R := Classical.choose_spec f44_0x
noncomputable def f44d {R : Type} (k : Nat) (a0 : List Int) (a1 : List Int) (a2 : Int) (K : Int → List (Int × (Int × (Int × (Int × (List Int × Unit))))) → List Int → Option R) : Option R := match k with
  | 0 => none
  | k + 1 => (f76 k a2 (fun r4097_0 => (bif (r4097_0 != (0 : Int)) then (K r4097_0 ([] : List ((Int × (Int × (Int × (Int × (List Int × Unit))))))) ([] : List Int)) else (bif decide (IntKind.i64.wrap ((a0.length : Int) + (a1.length : Int)) > (200000 : Int)) then (K (2 : Int) ([] : List ((Int × (Int × (Int × (Int × (List Int × Unit))))))) ([] : List Int)) else (bif decide ((a0.length : Int) ≥ IntKind.i64.wrap (a2 + (4 : Int))) then (K (3 : Int) ([] : List ((Int × (Int × (Int × (Int × (List Int × Unit))))))) ([] : List Int)) else (f40 k ([a0, a1] : List (List Int)) (fun r18435_0 => (f44_0 k (fun y0_0_0 y0_0_2 => (bif (decide ((0 : Int) ≤ y0_0_0) && decide (y0_0_0 ≤ (r18435_0.length : Int))) then (f41 k ((r18435_0.drop (Int.toNat y0_0_0)).take (r18435_0.length - (Int.toNat y0_0_0))) (fun r34820_0 => (K (0 : Int) y0_0_2 r34820_0))) else none)) a2 r18435_0 k (0 : Int) ([] : List ((Int × (Int × (Int × (Int × (List Int × Unit)))))))))))))))
theorem f44x {R : Type} : ∃ f, f = @f44d R := ⟨_, rfl⟩
noncomputable def f44 {R : Type} := Classical.choose (f44x (R := R))
theorem f44_def {R : Type} : @f44 R = @f44d R := Classical.choose_spec f44x
noncomputable def f45_0b {R : Type} (k : Nat) (rec : Int → Option R) (K : Bool → Option R) (x0 : Option R) (v0_0 : List ((Int × (Int × (Int × (Int × (List Int × Unit))))))) (v0_1 : List ((Int × (Int × (Int × (Int × (List Int × Unit))))))) (v0_2 : Int) (v0_3 : Int) : Option R :=
  (bif decide (v0_3 < v0_2) then (bif (decide ((0 : Int) ≤ v0_3) && decide (v0_3 < (v0_0.length : Int))) then (bif (decide ((0 : Int) ≤ v0_3) && decide (v0_3 < (v0_1.length : Int))) then (f39 k ((v0_0.getD (Int.toNat v0_3) ((0 : Int), ((0 : Int), ((0 : Int), ((0 : Int), (([] : List Int), ())))))).1) (((v0_0.getD (Int.toNat v0_3) ((0 : Int), ((0 : Int), ((0 : Int), ((0 : Int), (([] : List Int), ())))))).2).1) ((((v0_0.getD (Int.toNat v0_3) ((0 : Int), ((0 : Int), ((0 : Int), ((0 : Int), (([] : List Int), ())))))).2).2).1) (((((v0_0.getD (Int.toNat v0_3) ((0 : Int), ((0 : Int), ((0 : Int), ((0 : Int), (([] : List Int), ())))))).2).2).2).1) ((((((v0_0.getD (Int.toNat v0_3) ((0 : Int), ((0 : Int), ((0 : Int), ((0 : Int), (([] : List Int), ())))))).2).2).2).2).1) ((v0_1.getD (Int.toNat v0_3) ((0 : Int), ((0 : Int), ((0 : Int), ((0 : Int), (([] : List Int), ())))))).1) (((v0_1.getD (Int.toNat v0_3) ((0 : Int), ((0 : Int), ((0 : Int), ((0 : Int), (([] : List Int), ())))))).2).1) ((((v0_1.getD (Int.toNat v0_3) ((0 : Int), ((0 : Int), ((0 : Int), ((0 : Int), (([] : List Int), ())))))).2).2).1) (((((v0_1.getD (Int.toNat v0_3) ((0 : Int), ((0 : Int), ((0 : Int), ((0 : Int), (([] : List Int), ())))))).2).2).2).1) ((((((v0_1.getD (Int.toNat v0_3) ((0 : Int), ((0 : Int), ((0 : Int), ((0 : Int), (([] : List Int), ())))))).2).2).2).2).1) (fun r14344_0 => (bif (!r14344_0) then (K false) else (rec (IntKind.i64.wrap (v0_3 + (1 : Int))))))) else none) else none) else x0)
noncomputable def f45_0d {R : Type} (k : Nat) (K : Bool → Option R) (x0 : Option R) (v0_0 : List ((Int × (Int × (Int × (Int × (List Int × Unit))))))) (v0_1 : List ((Int × (Int × (Int × (Int × (List Int × Unit))))))) (v0_2 : Int) : Nat → Int → Option R
  | 0, _ => none
  | m + 1, v0_3 => f45_0b k (f45_0d k K x0 v0_0 v0_1 v0_2 m) K x0 v0_0 v0_1 v0_2 v0_3
theorem f45_0x {R : Type} : ∃ f, f = @f45_0d R := ⟨_, rfl⟩
noncomputable def f45_0 {R : Type} := Classical.choose (f45_0x (R := R))
theorem f45_0_def {R : Type} : @f45_0 R = @f45_0d R := Classical.choose_spec f45_0x
noncomputable def f45d {R : Type} (k : Nat) (a0 : List ((Int × (Int × (Int × (Int × (List Int × Unit))))))) (a1 : List ((Int × (Int × (Int × (Int × (List Int × Unit))))))) (K : Bool → Option R) : Option R := match k with
  | 0 => none
  | k + 1 => (bif ((a0.length : Int) != (a1.length : Int)) then (K false) else (f45_0 k K (K true) a0 a1 (a0.length : Int) k (0 : Int)))
theorem f45x {R : Type} : ∃ f, f = @f45d R := ⟨_, rfl⟩
noncomputable def f45 {R : Type} := Classical.choose (f45x (R := R))
theorem f45_def {R : Type} : @f45 R = @f45d R := Classical.choose_spec f45x
noncomputable def f9d {R : Type} (k : Nat) (a0 : List Int) (a1 : List Int) (a2 : Int) (K : Bool → Option R) : Option R := match k with
  | 0 => none
  | k + 1 => (f43 k a0 a1 a2 (fun r4099_0 r4099_1 r4099_2 => (f44 k a0 a1 a2 (fun r6147_0 r6147_1 r6147_2 => (bif ((r4099_0 == r6147_0) == true) then (f32 k r4099_2 r6147_2 (fun r8198_0 => (bif (r8198_0 == true) then (f45 k r4099_1 r6147_1 (fun r8203_0 => (bif (r8203_0 == true) then (f21 k (fun r8206_0 => (K r8206_0))) else (K false)))) else (K false)))) else (K false))))))
theorem f9x {R : Type} : ∃ f, f = @f9d R := ⟨_, rfl⟩
noncomputable def f9 {R : Type} := Classical.choose (f9x (R := R))
theorem f9_def {R : Type} : @f9 R = @f9d R := Classical.choose_spec f9x
noncomputable def f46d {R : Type} (k : Nat) (a0 : List Int) (a1 : Int) (K : Int → List (Int × (Int × (Int × (Int × (List Int × Unit))))) → List Int → Option R) : Option R := match k with
  | 0 => none
  | k + 1 => (f75 k a1 (fun r4097_0 => (bif (r4097_0 != (0 : Int)) then (K (1 : Int) ([] : List ((Int × (Int × (Int × (Int × (List Int × Unit))))))) ([] : List Int)) else (bif decide ((a0.length : Int) > (200000 : Int)) then (K (2 : Int) ([] : List ((Int × (Int × (Int × (Int × (List Int × Unit))))))) ([] : List Int)) else (f80 k a0 a1 (fun r12290_0 r12290_1 r12290_2 => (K (0 : Int) r12290_1 r12290_2)))))))
theorem f46x {R : Type} : ∃ f, f = @f46d R := ⟨_, rfl⟩
noncomputable def f46 {R : Type} := Classical.choose (f46x (R := R))
theorem f46_def {R : Type} : @f46 R = @f46d R := Classical.choose_spec f46x
noncomputable def f47d {R : Type} (k : Nat) (a0 : List Int) (K : List Int → Option R) : Option R := match k with
  | 0 => none
  | _ + 1 => bif decide (a0.length ≤ LIM 8) then K a0 else none
theorem f47x {R : Type} : ∃ f, f = @f47d R := ⟨_, rfl⟩
noncomputable def f47 {R : Type} := Classical.choose (f47x (R := R))
theorem f47_def {R : Type} : @f47 R = @f47d R := Classical.choose_spec f47x
noncomputable def f10_1000012d {R : Type} (k : Nat) (xN : Int → Option R) (v12_0 : List Int) (v12_1 : Int) (v12_2 : Int) (v12_3 : Int) (v12_4 : Int) (v12_5 : Int) (v12_6 : Int) (v12_7 : Bool) (v12_8 : List (Int × (Int × (Int × (Int × (List Int × Unit)))))) (v12_9 : List (Int × (Int × (Int × (Int × (List Int × Unit)))))) (v12_10 : List Int) (v12_11 : List Int) : Option R :=
  (bif v12_7 then (f42 k v12_3 (IntKind.i64.wrap ((IntKind.i64.wrap ((v12_0.length : Int) - v12_2)) + (1 : Int))) (fun r26631_0 => (xN (IntKind.i64.wrap (v12_2 + r26631_0))))) else (xN v12_4))
theorem f10_1000012x {R : Type} : ∃ f, f = @f10_1000012d R := ⟨_, rfl⟩
noncomputable def f10_1000012 {R : Type} := Classical.choose (f10_1000012x (R := R))
theorem f10_1000012_def {R : Type} : @f10_1000012 R = @f10_1000012d R := Classical.choose_spec f10_1000012x
noncomputable def f10_0b {R : Type} (k : Nat) (rec : Int → Int → List (Int × (Int × (Int × (Int × (List Int × Unit))))) → List Int → Option R) (K : Bool → Option R) (x0 : List (Int × (Int × (Int × (Int × (List Int × Unit))))) → Option R) (v0_0 : List Int) (v0_1 : Int) (v0_3 : Int) (v0_5 : List (Int × (Int × (Int × (Int × (List Int × Unit)))))) (v0_8 : List Int) (v0_2 : Int) (v0_4 : Int) (v0_6 : List (Int × (Int × (Int × (Int × (List Int × Unit)))))) (v0_7 : List Int) : Option R :=
  (bif decide (v0_4 < v0_3) then (bif (decide ((0 : Int) ≤ v0_4) && decide (v0_4 < (v0_8.length : Int))) then (f10_1000012 k (fun y12_N_3 => (bif (decide ((0 : Int) ≤ v0_2) && (decide (v0_2 ≤ y12_N_3) && decide (y12_N_3 ≤ (v0_0.length : Int)))) then (f43 k v0_7 ((v0_0.take (Int.toNat y12_N_3)).drop (Int.toNat v0_2)) v0_1 (fun r28678_0 r28678_1 r28678_2 => (bif ((r28678_0 != (0 : Int)) == false) then (bif decide ((r28678_2.length : Int) ≥ IntKind.i64.wrap (v0_1 + (4 : Int))) then (K false) else (bif decide (v0_6.length + r28678_1.length ≤ LIM 56) then (rec y12_N_3 (IntKind.i64.wrap (v0_4 + (1 : Int))) (v0_6 ++ r28678_1) r28678_2) else none)) else (K false)))) else none)) v0_0 v0_1 v0_2 (v0_8.getD (Int.toNat v0_4) (0 : Int)) (v0_0.length : Int) v0_3 v0_4 ((v0_8.getD (Int.toNat v0_4) (0 : Int)) != (v0_0.length : Int)) v0_5 v0_6 v0_7 v0_8) else none) else (x0 v0_6))
noncomputable def f10_0d {R : Type} (k : Nat) (K : Bool → Option R) (x0 : List (Int × (Int × (Int × (Int × (List Int × Unit))))) → Option R) (v0_0 : List Int) (v0_1 : Int) (v0_3 : Int) (v0_5 : List (Int × (Int × (Int × (Int × (List Int × Unit)))))) (v0_8 : List Int) : Nat → Int → Int → List (Int × (Int × (Int × (Int × (List Int × Unit))))) → List Int → Option R
  | 0, _, _, _, _ => none
  | m + 1, v0_2, v0_4, v0_6, v0_7 => f10_0b k (f10_0d k K x0 v0_0 v0_1 v0_3 v0_5 v0_8 m) K x0 v0_0 v0_1 v0_3 v0_5 v0_8 v0_2 v0_4 v0_6 v0_7
theorem f10_0x {R : Type} : ∃ f, f = @f10_0d R := ⟨_, rfl⟩
noncomputable def f10_0 {R : Type} := Classical.choose (f10_0x (R := R))
theorem f10_0_def {R : Type} : @f10_0 R = @f10_0d R := Classical.choose_spec f10_0x
noncomputable def f10d {R : Type} (k : Nat) (a0 : List Int) (a1 : Int) (a2 : List Int) (K : Bool → Option R) : Option R := match k with
  | 0 => none
  | k + 1 => (f46 k a0 a1 (fun r4098_0 r4098_1 r4098_2 => (bif (r4098_0 != (0 : Int)) then (bif (((r4098_1.length : Int) == (0 : Int)) == true) then (f21 k (fun r8196_0 => (K r8196_0))) else (K false)) else (f47 k a2 (fun r16385_0 => (bif decide (r16385_0.length + ([(a0.length : Int)] : List Int).length ≤ LIM 8) then (f10_0 k K (fun y0_0_1 => (f45 k y0_0_1 r4098_1 (fun r38914_0 => (bif (r38914_0 == true) then (f21 k (fun r38916_0 => (K r38916_0))) else (K false))))) a0 a1 ((r16385_0 ++ ([(a0.length : Int)] : List Int)).length : Int) r4098_1 (r16385_0 ++ ([(a0.length : Int)] : List Int)) k (0 : Int) (0 : Int) ([] : List ((Int × (Int × (Int × (Int × (List Int × Unit))))))) ([] : List Int)) else none))))))
theorem f10x {R : Type} : ∃ f, f = @f10d R := ⟨_, rfl⟩
noncomputable def f10 {R : Type} := Classical.choose (f10x (R := R))
theorem f10_def {R : Type} : @f10 R = @f10d R := Classical.choose_spec f10x
noncomputable def f83_0b {R : Type} (k : Nat) (rec : Int → Option R) (K : Int → Option R) (x0 : Option R) (v0_0 : List ((Int × (Bool × (Int × (Int × (List Int × Unit))))))) (v0_1 : Int) (v0_2 : Int) : Option R :=
  (bif decide (v0_2 < v0_1) then (bif (decide ((0 : Int) ≤ v0_2) && decide (v0_2 < (v0_0.length : Int))) then (f30 k ((v0_0.getD (Int.toNat v0_2) ((0 : Int), (false, ((0 : Int), ((0 : Int), (([] : List Int), ())))))).1) (((v0_0.getD (Int.toNat v0_2) ((0 : Int), (false, ((0 : Int), ((0 : Int), (([] : List Int), ())))))).2).1) ((((v0_0.getD (Int.toNat v0_2) ((0 : Int), (false, ((0 : Int), ((0 : Int), (([] : List Int), ())))))).2).2).1) (((((v0_0.getD (Int.toNat v0_2) ((0 : Int), (false, ((0 : Int), ((0 : Int), (([] : List Int), ())))))).2).2).2).1) ((((((v0_0.getD (Int.toNat v0_2) ((0 : Int), (false, ((0 : Int), ((0 : Int), (([] : List Int), ())))))).2).2).2).2).1) (fun r14337_0 => (bif (r14337_0 != (0 : Int)) then (K r14337_0) else (rec (IntKind.i64.wrap (v0_2 + (1 : Int))))))) else none) else x0)
noncomputable def f83_0d {R : Type} (k : Nat) (K : Int → Option R) (x0 : Option R) (v0_0 : List ((Int × (Bool × (Int × (Int × (List Int × Unit))))))) (v0_1 : Int) : Nat → Int → Option R
  | 0, _ => none
  | m + 1, v0_2 => f83_0b k (f83_0d k K x0 v0_0 v0_1 m) K x0 v0_0 v0_1 v0_2
theorem f83_0x {R : Type} : ∃ f, f = @f83_0d R := ⟨_, rfl⟩
noncomputable def f83_0 {R : Type} := Classical.choose (f83_0x (R := R))
theorem f83_0_def {R : Type} : @f83_0 R = @f83_0d R := Classical.choose_spec f83_0x
noncomputable def f83d {R : Type} (k : Nat) (a0 : List ((Int × (Bool × (Int × (Int × (List Int × Unit))))))) (K : Int → Option R) : Option R := match k with
  | 0 => none
  | k + 1 => (bif decide ((a0.length : Int) > (2000 : Int)) then (K (2 : Int)) else (f83_0 k K (K (0 : Int)) a0 (a0.length : Int) k (0 : Int)))
theorem f83x {R : Type} : ∃ f, f = @f83d R := ⟨_, rfl⟩
noncomputable def f83 {R : Type} := Classical.choose (f83x (R := R))
theorem f83_def {R : Type} : @f83 R = @f83d R := Classical.choose_spec f83x
noncomputable def f48_0b {R : Type} (k : Nat) (rec : Int → List Int → List Int → Option R) (x0 : List Int → List Int → Option R) (v0_0 : Int) (v0_1 : Int) (v0_2 : Int) (v0_3 : Int) (v0_4 : List ((Int × (Bool × (Int × (Int × (List Int × Unit))))))) (v0_5 : Int) (v0_6 : Int) (v0_7 : List Int) (v0_8 : List Int) : Option R :=
  (bif decide (v0_6 < v0_5) then (bif (decide ((0 : Int) ≤ v0_6) && decide (v0_6 < (v0_4.length : Int))) then (bif decide (v0_8.length + ([(v0_7.length : Int)] : List Int).length ≤ LIM 8) then (f70 k ((v0_4.getD (Int.toNat v0_6) ((0 : Int), (false, ((0 : Int), ((0 : Int), (([] : List Int), ())))))).1) (((v0_4.getD (Int.toNat v0_6) ((0 : Int), (false, ((0 : Int), ((0 : Int), (([] : List Int), ())))))).2).1) ((((v0_4.getD (Int.toNat v0_6) ((0 : Int), (false, ((0 : Int), ((0 : Int), (([] : List Int), ())))))).2).2).1) (((((v0_4.getD (Int.toNat v0_6) ((0 : Int), (false, ((0 : Int), ((0 : Int), (([] : List Int), ())))))).2).2).2).1) ((((((v0_4.getD (Int.toNat v0_6) ((0 : Int), (false, ((0 : Int), ((0 : Int), (([] : List Int), ())))))).2).2).2).2).1) (fun r34818_0 => (bif decide (v0_7.length + r34818_0.length ≤ LIM 1) then (rec (IntKind.i64.wrap (v0_6 + (1 : Int))) (v0_7 ++ r34818_0) (v0_8 ++ ([(v0_7.length : Int)] : List Int))) else none))) else none) else none) else (x0 v0_7 v0_8))
noncomputable def f48_0d {R : Type} (k : Nat) (x0 : List Int → List Int → Option R) (v0_0 : Int) (v0_1 : Int) (v0_2 : Int) (v0_3 : Int) (v0_4 : List ((Int × (Bool × (Int × (Int × (List Int × Unit))))))) (v0_5 : Int) : Nat → Int → List Int → List Int → Option R
  | 0, _, _, _ => none
  | m + 1, v0_6, v0_7, v0_8 => f48_0b k (f48_0d k x0 v0_0 v0_1 v0_2 v0_3 v0_4 v0_5 m) x0 v0_0 v0_1 v0_2 v0_3 v0_4 v0_5 v0_6 v0_7 v0_8
theorem f48_0x {R : Type} : ∃ f, f = @f48_0d R := ⟨_, rfl⟩
noncomputable def f48_0 {R : Type} := Classical.choose (f48_0x (R := R))
theorem f48_0_def {R : Type} : @f48_0 R = @f48_0d R := Classical.choose_spec f48_0x
noncomputable def f48_1000022d {R : Type} (k : Nat) (xN : Int → Option R) (v22_0 : Int) (v22_1 : Int) (v22_2 : Int) (v22_3 : Int) (v22_4 : Int) (v22_5 : Bool) (v22_6 : List Int) (v22_7 : List Int) : Option R :=
  (bif v22_5 then (xN (IntKind.i64.wrap (v22_4 + v22_3))) else (xN v22_4))
theorem f48_1000022x {R : Type} : ∃ f, f = @f48_1000022d R := ⟨_, rfl⟩
noncomputable def f48_1000022 {R : Type} := Classical.choose (f48_1000022x (R := R))
theorem f48_1000022_def {R : Type} : @f48_1000022 R = @f48_1000022d R := Classical.choose_spec f48_1000022x
noncomputable def f48_1000021d {R : Type} (k : Nat) (xN : List Int → List Int → Option R) (v21_0 : Int) (v21_1 : Int) (v21_2 : Int) (v21_3 : Int) (v21_4 : Int) (v21_5 : Bool) (v21_6 : List Int) (v21_7 : List Int) : Option R :=
  (bif v21_5 then (f48_1000022 k (fun y22_N_4 => (bif decide (v21_7.length + ([(v21_6.length : Int)] : List Int).length ≤ LIM 8) then (bif (decide ((0 : Int) ≤ IntKind.i64.wrap ((IntKind.i64.wrap (y22_N_4 - (9 : Int))) + (1 : Int))) && (decide (IntKind.i64.wrap ((IntKind.i64.wrap (y22_N_4 - (9 : Int))) + (1 : Int)) ≤ IntKind.i64.wrap ((IntKind.i64.wrap (y22_N_4 - (9 : Int))) + (1 : Int))) && decide (IntKind.i64.wrap ((IntKind.i64.wrap (y22_N_4 - (9 : Int))) + (1 : Int)) ≤ (LIM 1 : Int)))) then (f70 k (2047 : Int) false (3 : Int) (0 : Int) (List.replicate (Int.toNat (IntKind.i64.wrap ((IntKind.i64.wrap (y22_N_4 - (9 : Int))) + (1 : Int)))) (0 : Int)) (fun r51206_0 => (bif decide (v21_6.length + r51206_0.length ≤ LIM 1) then (xN (v21_6 ++ r51206_0) (v21_7 ++ ([(v21_6.length : Int)] : List Int))) else none))) else none) else none)) v21_0 v21_1 v21_2 v21_3 v21_4 (decide (v21_4 < (9 : Int))) v21_6 v21_7) else (xN v21_6 v21_7))
theorem f48_1000021x {R : Type} : ∃ f, f = @f48_1000021d R := ⟨_, rfl⟩
noncomputable def f48_1000021 {R : Type} := Classical.choose (f48_1000021x (R := R))
theorem f48_1000021_def {R : Type} : @f48_1000021 R = @f48_1000021d R := Classical.choose_spec f48_1000021x
noncomputable def f48_1000035d {R : Type} (k : Nat) (xN : Int → Option R) (v35_0 : Int) (v35_1 : Int) (v35_2 : Int) (v35_3 : Int) (v35_4 : Int) (v35_5 : Int) (v35_6 : Int) (v35_7 : Bool) (v35_8 : List Int) (v35_9 : List Int) (v35_10 : List (Int × (Int × (Int × (Int × (List Int × Unit)))))) (v35_11 : Int) (v35_12 : Int) (v35_13 : Int) (v35_14 : Int) (v35_15 : List Int) : Option R :=
  (bif v35_7 then (bif decide ((0 : Int) < (v35_9.length : Int)) then (xN (IntKind.i64.wrap ((v35_9.getD 0 (0 : Int)) - (IntKind.i64.wrap (v35_4 * v35_3))))) else none) else (xN v35_14))
theorem f48_1000035x {R : Type} : ∃ f, f = @f48_1000035d R := ⟨_, rfl⟩
noncomputable def f48_1000035 {R : Type} := Classical.choose (f48_1000035x (R := R))
theorem f48_1000035_def {R : Type} : @f48_1000035 R = @f48_1000035d R := Classical.choose_spec f48_1000035x
noncomputable def f48_4b {R : Type} (k : Nat) (rec : List Int → Int → Option R) (x4 : List Int → Int → Option R) (v4_0 : Int) (v4_1 : Int) (v4_2 : Int) (v4_3 : Int) (v4_4 : Int) (v4_5 : Int) (v4_6 : Int) (v4_7 : List Int) (v4_9 : List (Int × (Int × (Int × (Int × (List Int × Unit)))))) (v4_10 : Int) (v4_11 : Int) (v4_12 : Int) (v4_14 : List Int) (v4_8 : List Int) (v4_13 : Int) : Option R :=
  (bif (decide ((v4_8.length : Int) > (0 : Int)) == true) then (bif decide ((0 : Int) < (v4_8.length : Int)) then (bif decide ((v4_8.getD 0 (0 : Int)) < IntKind.i64.wrap ((IntKind.i64.wrap (v4_4 + (1 : Int))) * v4_3)) then (f48_1000035 k (fun y35_N_13 => (bif decide ((1 : Int) ≤ (v4_8.length : Int)) then (rec ((v4_8.drop 1).take (v4_8.length - 1)) y35_N_13) else none)) v4_0 v4_1 v4_2 v4_3 v4_4 v4_5 v4_6 (v4_13 == (2047 : Int)) v4_7 v4_8 v4_9 v4_10 v4_11 v4_12 v4_13 v4_14) else (x4 v4_8 v4_13)) else none) else (x4 v4_8 v4_13))
noncomputable def f48_4d {R : Type} (k : Nat) (x4 : List Int → Int → Option R) (v4_0 : Int) (v4_1 : Int) (v4_2 : Int) (v4_3 : Int) (v4_4 : Int) (v4_5 : Int) (v4_6 : Int) (v4_7 : List Int) (v4_9 : List (Int × (Int × (Int × (Int × (List Int × Unit)))))) (v4_10 : Int) (v4_11 : Int) (v4_12 : Int) (v4_14 : List Int) : Nat → List Int → Int → Option R
  | 0, _, _ => none
  | m + 1, v4_8, v4_13 => f48_4b k (f48_4d k x4 v4_0 v4_1 v4_2 v4_3 v4_4 v4_5 v4_6 v4_7 v4_9 v4_10 v4_11 v4_12 v4_14 m) x4 v4_0 v4_1 v4_2 v4_3 v4_4 v4_5 v4_6 v4_7 v4_9 v4_10 v4_11 v4_12 v4_14 v4_8 v4_13
theorem f48_4x {R : Type} : ∃ f, f = @f48_4d R := ⟨_, rfl⟩
noncomputable def f48_4 {R : Type} := Classical.choose (f48_4x (R := R))
theorem f48_4_def {R : Type} : @f48_4 R = @f48_4d R := Classical.choose_spec f48_4x
noncomputable def f48_2b {R : Type} (k : Nat) (rec : Int → List Int → List (Int × (Int × (Int × (Int × (List Int × Unit))))) → Option R) (x2 : List (Int × (Int × (Int × (Int × (List Int × Unit))))) → Option R) (v2_0 : Int) (v2_1 : Int) (v2_2 : Int) (v2_3 : Int) (v2_4 : Int) (v2_6 : List Int) (v2_5 : Int) (v2_7 : List Int) (v2_8 : List (Int × (Int × (Int × (Int × (List Int × Unit)))))) : Option R :=
  (bif decide (v2_5 < v2_4) then (bif (decide ((0 : Int) ≤ IntKind.i64.wrap (v2_5 * v2_3)) && (decide (IntKind.i64.wrap (v2_5 * v2_3) ≤ IntKind.i64.wrap ((IntKind.i64.wrap (v2_5 + (1 : Int))) * v2_3)) && decide (IntKind.i64.wrap ((IntKind.i64.wrap (v2_5 + (1 : Int))) * v2_3) ≤ (v2_6.length : Int)))) then (f41 k ((v2_6.drop (Int.toNat (IntKind.i64.wrap (v2_5 * v2_3)))).take ((Int.toNat (IntKind.i64.wrap ((IntKind.i64.wrap (v2_5 + (1 : Int))) * v2_3))) - (Int.toNat (IntKind.i64.wrap (v2_5 * v2_3))))) (fun r67599_0 => (f48_4 k (fun y4_4_7 y4_4_12 => (bif decide (v2_8.length + ([(v2_0, (v2_1, (Int.tmod (IntKind.i64.wrap (v2_2 + v2_5)) (256 : Int), (y4_4_12, (r67599_0, ())))))] : List (Int × (Int × (Int × (Int × (List Int × Unit)))))).length ≤ LIM 56) then (rec (IntKind.i64.wrap (v2_5 + (1 : Int))) y4_4_7 (v2_8 ++ ([(v2_0, (v2_1, (Int.tmod (IntKind.i64.wrap (v2_2 + v2_5)) (256 : Int), (y4_4_12, (r67599_0, ())))))] : List (Int × (Int × (Int × (Int × (List Int × Unit)))))))) else none)) v2_0 v2_1 v2_2 v2_3 v2_5 v2_4 v2_5 v2_6 v2_8 v2_0 v2_1 (Int.tmod (IntKind.i64.wrap (v2_2 + v2_5)) (256 : Int)) r67599_0 k v2_7 (2047 : Int)))) else none) else (x2 v2_8))
noncomputable def f48_2d {R : Type} (k : Nat) (x2 : List (Int × (Int × (Int × (Int × (List Int × Unit))))) → Option R) (v2_0 : Int) (v2_1 : Int) (v2_2 : Int) (v2_3 : Int) (v2_4 : Int) (v2_6 : List Int) : Nat → Int → List Int → List (Int × (Int × (Int × (Int × (List Int × Unit))))) → Option R
  | 0, _, _, _ => none
  | m + 1, v2_5, v2_7, v2_8 => f48_2b k (f48_2d k x2 v2_0 v2_1 v2_2 v2_3 v2_4 v2_6 m) x2 v2_0 v2_1 v2_2 v2_3 v2_4 v2_6 v2_5 v2_7 v2_8
theorem f48_2x {R : Type} : ∃ f, f = @f48_2d R := ⟨_, rfl⟩
noncomputable def f48_2 {R : Type} := Classical.choose (f48_2x (R := R))
theorem f48_2_def {R : Type} : @f48_2 R = @f48_2d R := Classical.choose_spec f48_2x
noncomputable def f48d {R : Type} (k : Nat) (a0 : Int) (a1 : Int) (a2 : Int) (a3 : Int) (a4 : List ((Int × (Bool × (Int × (Int × (List Int × Unit))))))) (K : Int → List (Int × (Int × (Int × (Int × (List Int × Unit))))) → Option R) : Option R := match k with
  | 0 => none
  | k + 1 => (f75 k a3 (fun r4097_0 => (bif (r4097_0 != (0 : Int)) then (K r4097_0 ([] : List ((Int × (Int × (Int × (Int × (List Int × Unit)))))))) else (bif (decide ((0 : Int) ≤ IntKind.i64.wrap (a3 - (8 : Int))) && (decide (IntKind.i64.wrap (a3 - (8 : Int)) ≤ IntKind.i64.wrap (a3 - (8 : Int))) && decide (IntKind.i64.wrap (a3 - (8 : Int)) ≤ (LIM 1 : Int)))) then (f35 k a0 a1 a2 (0 : Int) (List.replicate (Int.toNat (IntKind.i64.wrap (a3 - (8 : Int)))) (0 : Int)) a3 (fun r10248_0 => (bif (r10248_0 != (0 : Int)) then (K r10248_0 ([] : List ((Int × (Int × (Int × (Int × (List Int × Unit)))))))) else (f83 k a4 (fun r16385_0 => (bif (r16385_0 != (0 : Int)) then (K r16385_0 ([] : List ((Int × (Int × (Int × (Int × (List Int × Unit)))))))) else (f48_0 k (fun y0_0_4 y0_0_5 => (bif (!(IntKind.i64.wrap (a3 - (8 : Int)) == 0)) then (bif (!(IntKind.i64.wrap (a3 - (8 : Int)) == 0)) then (f48_1000021 k (fun y21_N_4 y21_N_5 => (bif (!(IntKind.i64.wrap (a3 - (8 : Int)) == 0)) then (bif decide (IntKind.i64.wrap (Int.tdiv (y21_N_4.length : Int) (IntKind.i64.wrap (a3 - (8 : Int)))) > (1000 : Int)) then (K (2 : Int) ([] : List ((Int × (Int × (Int × (Int × (List Int × Unit)))))))) else (f48_2 k (fun y2_2_0 => (K (0 : Int) y2_2_0)) a0 a1 a2 (IntKind.i64.wrap (a3 - (8 : Int))) (IntKind.i64.wrap (Int.tdiv (y21_N_4.length : Int) (IntKind.i64.wrap (a3 - (8 : Int))))) y21_N_4 k (0 : Int) y21_N_5 ([] : List ((Int × (Int × (Int × (Int × (List Int × Unit))))))))) else none)) a0 a1 a2 (IntKind.i64.wrap (a3 - (8 : Int))) (Int.tmod (IntKind.i64.wrap ((IntKind.i64.wrap (a3 - (8 : Int))) - (Int.tmod (y0_0_4.length : Int) (IntKind.i64.wrap (a3 - (8 : Int)))))) (IntKind.i64.wrap (a3 - (8 : Int)))) (decide (Int.tmod (IntKind.i64.wrap ((IntKind.i64.wrap (a3 - (8 : Int))) - (Int.tmod (y0_0_4.length : Int) (IntKind.i64.wrap (a3 - (8 : Int)))))) (IntKind.i64.wrap (a3 - (8 : Int))) > (0 : Int))) y0_0_4 y0_0_5) else none) else none)) a0 a1 a2 a3 a4 (a4.length : Int) k (0 : Int) ([] : List Int) ([] : List Int)))))))) else none))))
theorem f48x {R : Type} : ∃ f, f = @f48d R := ⟨_, rfl⟩
noncomputable def f48 {R : Type} := Classical.choose (f48x (R := R))
theorem f48_def {R : Type} : @f48 R = @f48d R := Classical.choose_spec f48x
noncomputable def f84_0b {R : Type} (k : Nat) (rec : Int → Option R) (K : Int → Option R) (x0 : Option R) (v0_0 : List ((Int × (Bool × (Int × (Int × (List Int × Unit))))))) (v0_1 : Int) (v0_2 : Int) : Option R :=
  (bif decide (v0_2 < v0_1) then (bif (decide ((0 : Int) ≤ v0_2) && decide (v0_2 < (v0_0.length : Int))) then (f31 k ((v0_0.getD (Int.toNat v0_2) ((0 : Int), (false, ((0 : Int), ((0 : Int), (([] : List Int), ())))))).1) (((v0_0.getD (Int.toNat v0_2) ((0 : Int), (false, ((0 : Int), ((0 : Int), (([] : List Int), ())))))).2).1) ((((v0_0.getD (Int.toNat v0_2) ((0 : Int), (false, ((0 : Int), ((0 : Int), (([] : List Int), ())))))).2).2).1) (((((v0_0.getD (Int.toNat v0_2) ((0 : Int), (false, ((0 : Int), ((0 : Int), (([] : List Int), ())))))).2).2).2).1) ((((((v0_0.getD (Int.toNat v0_2) ((0 : Int), (false, ((0 : Int), ((0 : Int), (([] : List Int), ())))))).2).2).2).2).1) (fun r14337_0 => (bif (r14337_0 != (0 : Int)) then (K r14337_0) else (rec (IntKind.i64.wrap (v0_2 + (1 : Int))))))) else none) else x0)
noncomputable def f84_0d {R : Type} (k : Nat) (K : Int → Option R) (x0 : Option R) (v0_0 : List ((Int × (Bool × (Int × (Int × (List Int × Unit))))))) (v0_1 : Int) : Nat → Int → Option R
  | 0, _ => none
  | m + 1, v0_2 => f84_0b k (f84_0d k K x0 v0_0 v0_1 m) K x0 v0_0 v0_1 v0_2
theorem f84_0x {R : Type} : ∃ f, f = @f84_0d R := ⟨_, rfl⟩
noncomputable def f84_0 {R : Type} := Classical.choose (f84_0x (R := R))
theorem f84_0_def {R : Type} : @f84_0 R = @f84_0d R := Classical.choose_spec f84_0x
noncomputable def f84d {R : Type} (k : Nat) (a0 : List ((Int × (Bool × (Int × (Int × (List Int × Unit))))))) (K : Int → Option R) : Option R := match k with
  | 0 => none
  | k + 1 => (bif decide ((a0.length : Int) > (2000 : Int)) then (K (2 : Int)) else (f84_0 k K (K (0 : Int)) a0 (a0.length : Int) k (0 : Int)))
theorem f84x {R : Type} : ∃ f, f = @f84d R := ⟨_, rfl⟩
noncomputable def f84 {R : Type} := Classical.choose (f84x (R := R))
theorem f84_def {R : Type} : @f84 R = @f84d R := Classical.choose_spec f84x
noncomputable def f49_0b {R : Type} (k : Nat) (rec : Int → List Int → List Int → Option R) (x0 : List Int → List Int → Option R) (v0_0 : Int) (v0_1 : Int) (v0_2 : Int) (v0_3 : Int) (v0_4 : List ((Int × (Bool × (Int × (Int × (List Int × Unit))))))) (v0_5 : Int) (v0_6 : Int) (v0_7 : List Int) (v0_8 : List Int) : Option R :=
  (bif decide (v0_6 < v0_5) then (bif (decide ((0 : Int) ≤ v0_6) && decide (v0_6 < (v0_4.length : Int))) then (bif decide (v0_8.length + ([(v0_7.length : Int)] : List Int).length ≤ LIM 8) then (f71 k ((v0_4.getD (Int.toNat v0_6) ((0 : Int), (false, ((0 : Int), ((0 : Int), (([] : List Int), ())))))).1) (((v0_4.getD (Int.toNat v0_6) ((0 : Int), (false, ((0 : Int), ((0 : Int), (([] : List Int), ())))))).2).1) ((((v0_4.getD (Int.toNat v0_6) ((0 : Int), (false, ((0 : Int), ((0 : Int), (([] : List Int), ())))))).2).2).1) (((((v0_4.getD (Int.toNat v0_6) ((0 : Int), (false, ((0 : Int), ((0 : Int), (([] : List Int), ())))))).2).2).2).1) ((((((v0_4.getD (Int.toNat v0_6) ((0 : Int), (false, ((0 : Int), ((0 : Int), (([] : List Int), ())))))).2).2).2).2).1) (fun r34818_0 => (bif decide (v0_7.length + r34818_0.length ≤ LIM 1) then (rec (IntKind.i64.wrap (v0_6 + (1 : Int))) (v0_7 ++ r34818_0) (v0_8 ++ ([(v0_7.length : Int)] : List Int))) else none))) else none) else none) else (x0 v0_7 v0_8))
noncomputable def f49_0d {R : Type} (k : Nat) (x0 : List Int → List Int → Option R) (v0_0 : Int) (v0_1 : Int) (v0_2 : Int) (v0_3 : Int) (v0_4 : List ((Int × (Bool × (Int × (Int × (List Int × Unit))))))) (v0_5 : Int) : Nat → Int → List Int → List Int → Option R
  | 0, _, _, _ => none
  | m + 1, v0_6, v0_7, v0_8 => f49_0b k (f49_0d k x0 v0_0 v0_1 v0_2 v0_3 v0_4 v0_5 m) x0 v0_0 v0_1 v0_2 v0_3 v0_4 v0_5 v0_6 v0_7 v0_8
theorem f49_0x {R : Type} : ∃ f, f = @f49_0d R := ⟨_, rfl⟩
noncomputable def f49_0 {R : Type} := Classical.choose (f49_0x (R := R))
theorem f49_0_def {R : Type} : @f49_0 R = @f49_0d R := Classical.choose_spec f49_0x
noncomputable def f49_1000022d {R : Type} (k : Nat) (xN : Int → Option R) (v22_0 : Int) (v22_1 : Int) (v22_2 : Int) (v22_3 : Int) (v22_4 : Int) (v22_5 : Bool) (v22_6 : List Int) (v22_7 : List Int) : Option R :=
  (bif v22_5 then (xN (IntKind.i64.wrap (v22_4 + v22_3))) else (xN v22_4))
theorem f49_1000022x {R : Type} : ∃ f, f = @f49_1000022d R := ⟨_, rfl⟩
noncomputable def f49_1000022 {R : Type} := Classical.choose (f49_1000022x (R := R))
theorem f49_1000022_def {R : Type} : @f49_1000022 R = @f49_1000022d R := Classical.choose_spec f49_1000022x
noncomputable def f49_1000021d {R : Type} (k : Nat) (xN : List Int → List Int → Option R) (v21_0 : Int) (v21_1 : Int) (v21_2 : Int) (v21_3 : Int) (v21_4 : Int) (v21_5 : Bool) (v21_6 : List Int) (v21_7 : List Int) : Option R :=
  (bif v21_5 then (f49_1000022 k (fun y22_N_4 => (bif decide (v21_7.length + ([(v21_6.length : Int)] : List Int).length ≤ LIM 8) then (bif (decide ((0 : Int) ≤ IntKind.i64.wrap (y22_N_4 - (8 : Int))) && (decide (IntKind.i64.wrap (y22_N_4 - (8 : Int)) ≤ IntKind.i64.wrap (y22_N_4 - (8 : Int))) && decide (IntKind.i64.wrap (y22_N_4 - (8 : Int)) ≤ (LIM 1 : Int)))) then (f71 k (2047 : Int) false (3 : Int) (0 : Int) (List.replicate (Int.toNat (IntKind.i64.wrap (y22_N_4 - (8 : Int)))) (0 : Int)) (fun r51205_0 => (bif decide (v21_6.length + r51205_0.length ≤ LIM 1) then (xN (v21_6 ++ r51205_0) (v21_7 ++ ([(v21_6.length : Int)] : List Int))) else none))) else none) else none)) v21_0 v21_1 v21_2 v21_3 v21_4 (decide (v21_4 < (9 : Int))) v21_6 v21_7) else (xN v21_6 v21_7))
theorem f49_1000021x {R : Type} : ∃ f, f = @f49_1000021d R := ⟨_, rfl⟩
noncomputable def f49_1000021 {R : Type} := Classical.choose (f49_1000021x (R := R))
theorem f49_1000021_def {R : Type} : @f49_1000021 R = @f49_1000021d R := Classical.choose_spec f49_1000021x
noncomputable def f49_4b {R : Type} (k : Nat) (rec : Int → Option R) (x4 : Int → Option R) (v4_0 : Int) (v4_1 : Int) (v4_2 : Int) (v4_3 : Int) (v4_4 : Int) (v4_5 : Int) (v4_7 : List Int) (v4_8 : List Int) (v4_9 : List (Int × (Int × (Int × (Int × (List Int × Unit)))))) (v4_10 : Int) (v4_11 : Int) (v4_12 : Int) (v4_13 : Int) (v4_14 : List Int) (v4_6 : Int) : Option R :=
  (bif decide (v4_6 < v4_5) then (bif (decide ((0 : Int) ≤ v4_6) && decide (v4_6 < (v4_8.length : Int))) then (f69 k (v4_8.getD (Int.toNat v4_6) (0 : Int)) v4_4 (IntKind.i64.wrap ((IntKind.i64.wrap (v4_4 + v4_3)) - (1 : Int))) (fun r73734_0 => (bif r73734_0 then (x4 (IntKind.i64.wrap ((v4_8.getD (Int.toNat v4_6) (0 : Int)) - v4_4))) else (rec (IntKind.i64.wrap (v4_6 + (1 : Int))))))) else none) else (x4 v4_13))
noncomputable def f49_4d {R : Type} (k : Nat) (x4 : Int → Option R) (v4_0 : Int) (v4_1 : Int) (v4_2 : Int) (v4_3 : Int) (v4_4 : Int) (v4_5 : Int) (v4_7 : List Int) (v4_8 : List Int) (v4_9 : List (Int × (Int × (Int × (Int × (List Int × Unit)))))) (v4_10 : Int) (v4_11 : Int) (v4_12 : Int) (v4_13 : Int) (v4_14 : List Int) : Nat → Int → Option R
  | 0, _ => none
  | m + 1, v4_6 => f49_4b k (f49_4d k x4 v4_0 v4_1 v4_2 v4_3 v4_4 v4_5 v4_7 v4_8 v4_9 v4_10 v4_11 v4_12 v4_13 v4_14 m) x4 v4_0 v4_1 v4_2 v4_3 v4_4 v4_5 v4_7 v4_8 v4_9 v4_10 v4_11 v4_12 v4_13 v4_14 v4_6
theorem f49_4x {R : Type} : ∃ f, f = @f49_4d R := ⟨_, rfl⟩
noncomputable def f49_4 {R : Type} := Classical.choose (f49_4x (R := R))
theorem f49_4_def {R : Type} : @f49_4 R = @f49_4d R := Classical.choose_spec f49_4x
noncomputable def f49_2b {R : Type} (k : Nat) (rec : Int → List (Int × (Int × (Int × (Int × (List Int × Unit))))) → Option R) (x2 : List (Int × (Int × (Int × (Int × (List Int × Unit))))) → Option R) (v2_0 : Int) (v2_1 : Int) (v2_2 : Int) (v2_3 : Int) (v2_5 : List Int) (v2_6 : List Int) (v2_4 : Int) (v2_7 : List (Int × (Int × (Int × (Int × (List Int × Unit)))))) : Option R :=
  (bif decide (v2_4 < (v2_5.length : Int)) then (bif (decide ((0 : Int) ≤ v2_4) && (decide (v2_4 ≤ IntKind.i64.wrap (v2_4 + v2_3)) && decide (IntKind.i64.wrap (v2_4 + v2_3) ≤ (v2_5.length : Int)))) then (f41 k ((v2_5.drop (Int.toNat v2_4)).take ((Int.toNat (IntKind.i64.wrap (v2_4 + v2_3))) - (Int.toNat v2_4))) (fun r65549_0 => (f49_4 k (fun y4_4_11 => (bif decide (v2_7.length + ([(v2_0, (v2_1, (Int.tmod (IntKind.i64.wrap (v2_2 + (v2_7.length : Int))) (256 : Int), (y4_4_11, (r65549_0, ())))))] : List (Int × (Int × (Int × (Int × (List Int × Unit)))))).length ≤ LIM 56) then (rec (IntKind.i64.wrap (v2_4 + v2_3)) (v2_7 ++ ([(v2_0, (v2_1, (Int.tmod (IntKind.i64.wrap (v2_2 + (v2_7.length : Int))) (256 : Int), (y4_4_11, (r65549_0, ())))))] : List (Int × (Int × (Int × (Int × (List Int × Unit)))))))) else none)) v2_0 v2_1 v2_2 v2_3 v2_4 (v2_6.length : Int) v2_5 v2_6 v2_7 v2_0 v2_1 (Int.tmod (IntKind.i64.wrap (v2_2 + (v2_7.length : Int))) (256 : Int)) (2047 : Int) r65549_0 k (0 : Int)))) else none) else (x2 v2_7))
noncomputable def f49_2d {R : Type} (k : Nat) (x2 : List (Int × (Int × (Int × (Int × (List Int × Unit))))) → Option R) (v2_0 : Int) (v2_1 : Int) (v2_2 : Int) (v2_3 : Int) (v2_5 : List Int) (v2_6 : List Int) : Nat → Int → List (Int × (Int × (Int × (Int × (List Int × Unit))))) → Option R
  | 0, _, _ => none
  | m + 1, v2_4, v2_7 => f49_2b k (f49_2d k x2 v2_0 v2_1 v2_2 v2_3 v2_5 v2_6 m) x2 v2_0 v2_1 v2_2 v2_3 v2_5 v2_6 v2_4 v2_7
theorem f49_2x {R : Type} : ∃ f, f = @f49_2d R := ⟨_, rfl⟩
noncomputable def f49_2 {R : Type} := Classical.choose (f49_2x (R := R))
theorem f49_2_def {R : Type} : @f49_2 R = @f49_2d R := Classical.choose_spec f49_2x
noncomputable def f49d {R : Type} (k : Nat) (a0 : Int) (a1 : Int) (a2 : Int) (a3 : Int) (a4 : List ((Int × (Bool × (Int × (Int × (List Int × Unit))))))) (K : Int → List (Int × (Int × (Int × (Int × (List Int × Unit))))) → Option R) : Option R := match k with
  | 0 => none
  | k + 1 => (f76 k a3 (fun r4097_0 => (bif (r4097_0 != (0 : Int)) then (K r4097_0 ([] : List ((Int × (Int × (Int × (Int × (List Int × Unit)))))))) else (f77 k a0 a1 a2 (fun r10243_0 => (bif (r10243_0 != (0 : Int)) then (K r10243_0 ([] : List ((Int × (Int × (Int × (Int × (List Int × Unit)))))))) else (f84 k a4 (fun r16385_0 => (bif (r16385_0 != (0 : Int)) then (K r16385_0 ([] : List ((Int × (Int × (Int × (Int × (List Int × Unit)))))))) else (f49_0 k (fun y0_0_4 y0_0_5 => (bif (!(IntKind.i64.wrap (a3 - (8 : Int)) == 0)) then (bif (!(IntKind.i64.wrap (a3 - (8 : Int)) == 0)) then (f49_1000021 k (fun y21_N_4 y21_N_5 => (bif (!(IntKind.i64.wrap (a3 - (8 : Int)) == 0)) then (bif decide (IntKind.i64.wrap (Int.tdiv (y21_N_4.length : Int) (IntKind.i64.wrap (a3 - (8 : Int)))) > (1000 : Int)) then (K (2 : Int) ([] : List ((Int × (Int × (Int × (Int × (List Int × Unit)))))))) else (f49_2 k (fun y2_2_0 => (K (0 : Int) y2_2_0)) a0 a1 a2 (IntKind.i64.wrap (a3 - (8 : Int))) y21_N_4 y21_N_5 k (0 : Int) ([] : List ((Int × (Int × (Int × (Int × (List Int × Unit))))))))) else none)) a0 a1 a2 (IntKind.i64.wrap (a3 - (8 : Int))) (Int.tmod (IntKind.i64.wrap ((IntKind.i64.wrap (a3 - (8 : Int))) - (Int.tmod (y0_0_4.length : Int) (IntKind.i64.wrap (a3 - (8 : Int)))))) (IntKind.i64.wrap (a3 - (8 : Int)))) (decide (Int.tmod (IntKind.i64.wrap ((IntKind.i64.wrap (a3 - (8 : Int))) - (Int.tmod (y0_0_4.length : Int) (IntKind.i64.wrap (a3 - (8 : Int)))))) (IntKind.i64.wrap (a3 - (8 : Int))) > (0 : Int))) y0_0_4 y0_0_5) else none) else none)) a0 a1 a2 a3 a4 (a4.length : Int) k (0 : Int) ([] : List Int) ([] : List Int)))))))))))
theorem f49x {R : Type} : ∃ f, f = @f49d R := ⟨_, rfl⟩
noncomputable def f49 {R : Type} := Classical.choose (f49x (R := R))
theorem f49_def {R : Type} : @f49 R = @f49d R := Classical.choose_spec f49x
noncomputable def f11d {R : Type} (k : Nat) (a0 : Int) (a1 : Int) (a2 : Int) (a3 : Int) (a4 : List ((Int × (Bool × (Int × (Int × (List Int × Unit))))))) (K : Bool → Option R) : Option R := match k with
  | 0 => none
  | k + 1 => (f48 k a0 a1 a2 a3 a4 (fun r4101_0 r4101_1 => (f49 k a0 a1 a2 a3 a4 (fun r6149_0 r6149_1 => (bif ((r4101_0 == r6149_0) == true) then (f45 k r4101_1 r6149_1 (fun r8198_0 => (bif (r8198_0 == true) then (f21 k (fun r8201_0 => (K r8201_0))) else (K false)))) else (K false))))))
theorem f11x {R : Type} : ∃ f, f = @f11d R := ⟨_, rfl⟩
noncomputable def f11 {R : Type} := Classical.choose (f11x (R := R))
theorem f11_def {R : Type} : @f11 R = @f11d R := Classical.choose_spec f11x
noncomputable def f52_1b {R : Type} (k : Nat) (rec : Int → List Int → Option R) (K : Int → List Int → Option R) (x1 : List Int → Option R) (v1_0 : Int) (v1_1 : List ((Int × (Int × (Int × (Int × (List Int × Unit))))))) (v1_2 : Int) (v1_3 : Int) (v1_4 : List Int) : Option R :=
  (bif decide (v1_3 < v1_2) then (bif (decide ((0 : Int) ≤ v1_3) && decide (v1_3 < (v1_1.length : Int))) then (f33 k ((v1_1.getD (Int.toNat v1_3) ((0 : Int), ((0 : Int), ((0 : Int), ((0 : Int), (([] : List Int), ())))))).1) (((v1_1.getD (Int.toNat v1_3) ((0 : Int), ((0 : Int), ((0 : Int), ((0 : Int), (([] : List Int), ())))))).2).1) ((((v1_1.getD (Int.toNat v1_3) ((0 : Int), ((0 : Int), ((0 : Int), ((0 : Int), (([] : List Int), ())))))).2).2).1) (((((v1_1.getD (Int.toNat v1_3) ((0 : Int), ((0 : Int), ((0 : Int), ((0 : Int), (([] : List Int), ())))))).2).2).2).1) ((((((v1_1.getD (Int.toNat v1_3) ((0 : Int), ((0 : Int), ((0 : Int), ((0 : Int), (([] : List Int), ())))))).2).2).2).2).1) v1_0 (fun r20482_0 r20482_1 => (bif (r20482_0 != (0 : Int)) then (K r20482_0 ([] : List Int)) else (f79 k (fun r26625_0 => (bif decide (v1_4.length + r26625_0.length ≤ LIM 1) then (bif decide ((v1_4 ++ r26625_0).length + r20482_1.length ≤ LIM 1) then (rec (IntKind.i64.wrap (v1_3 + (1 : Int))) ((v1_4 ++ r26625_0) ++ r20482_1)) else none) else none)))))) else none) else (x1 v1_4))
noncomputable def f52_1d {R : Type} (k : Nat) (K : Int → List Int → Option R) (x1 : List Int → Option R) (v1_0 : Int) (v1_1 : List ((Int × (Int × (Int × (Int × (List Int × Unit))))))) (v1_2 : Int) : Nat → Int → List Int → Option R
  | 0, _, _ => none
  | m + 1, v1_3, v1_4 => f52_1b k (f52_1d k K x1 v1_0 v1_1 v1_2 m) K x1 v1_0 v1_1 v1_2 v1_3 v1_4
theorem f52_1x {R : Type} : ∃ f, f = @f52_1d R := ⟨_, rfl⟩
noncomputable def f52_1 {R : Type} := Classical.choose (f52_1x (R := R))
theorem f52_1_def {R : Type} : @f52_1 R = @f52_1d R := Classical.choose_spec f52_1x
noncomputable def f52d {R : Type} (k : Nat) (a0 : List ((Int × (Int × (Int × (Int × (List Int × Unit))))))) (a1 : Int) (K : Int → List Int → Option R) : Option R := match k with
  | 0 => none
  | k + 1 => (f75 k a1 (fun r4097_0 => (bif (r4097_0 != (0 : Int)) then (K (1 : Int) ([] : List Int)) else (bif decide ((a0.length : Int) > (1000 : Int)) then (K (2 : Int) ([] : List Int)) else (f52_1 k K (fun y1_1_0 => (K (0 : Int) y1_1_0)) a1 a0 (a0.length : Int) k (0 : Int) ([] : List Int))))))
theorem f52x {R : Type} : ∃ f, f = @f52d R := ⟨_, rfl⟩
noncomputable def f52 {R : Type} := Classical.choose (f52x (R := R))
theorem f52_def {R : Type} : @f52 R = @f52d R := Classical.choose_spec f52x
noncomputable def f53_0b {R : Type} (k : Nat) (rec : Int → Option R) (K : Int → List Int → Option R) (x0 : Option R) (v0_0 : List ((Int × (Int × (Int × (Int × (List Int × Unit))))))) (v0_1 : Int) (v0_2 : List ((Int × (Int × (Int × (Int × (List Int × Unit))))))) (v0_3 : Int) (v0_4 : Int) : Option R :=
  (bif decide (v0_4 < v0_3) then (bif (decide ((0 : Int) ≤ v0_4) && decide (v0_4 < (v0_2.length : Int))) then (f36 k ((v0_2.getD (Int.toNat v0_4) ((0 : Int), ((0 : Int), ((0 : Int), ((0 : Int), (([] : List Int), ())))))).1) (((v0_2.getD (Int.toNat v0_4) ((0 : Int), ((0 : Int), ((0 : Int), ((0 : Int), (([] : List Int), ())))))).2).1) ((((v0_2.getD (Int.toNat v0_4) ((0 : Int), ((0 : Int), ((0 : Int), ((0 : Int), (([] : List Int), ())))))).2).2).1) (((((v0_2.getD (Int.toNat v0_4) ((0 : Int), ((0 : Int), ((0 : Int), ((0 : Int), (([] : List Int), ())))))).2).2).2).1) ((((((v0_2.getD (Int.toNat v0_4) ((0 : Int), ((0 : Int), ((0 : Int), ((0 : Int), (([] : List Int), ())))))).2).2).2).2).1) v0_1 (fun r20482_0 => (bif (r20482_0 != (0 : Int)) then (K r20482_0 ([] : List Int)) else (rec (IntKind.i64.wrap (v0_4 + (1 : Int))))))) else none) else x0)
noncomputable def f53_0d {R : Type} (k : Nat) (K : Int → List Int → Option R) (x0 : Option R) (v0_0 : List ((Int × (Int × (Int × (Int × (List Int × Unit))))))) (v0_1 : Int) (v0_2 : List ((Int × (Int × (Int × (Int × (List Int × Unit))))))) (v0_3 : Int) : Nat → Int → Option R
  | 0, _ => none
  | m + 1, v0_4 => f53_0b k (f53_0d k K x0 v0_0 v0_1 v0_2 v0_3 m) K x0 v0_0 v0_1 v0_2 v0_3 v0_4
theorem f53_0x {R : Type} : ∃ f, f = @f53_0d R := ⟨_, rfl⟩
noncomputable def f53_0 {R : Type} := Classical.choose (f53_0x (R := R))
theorem f53_0_def {R : Type} : @f53_0 R = @f53_0d R := Classical.choose_spec f53_0x
noncomputable def f53_2b {R : Type} (k : Nat) (rec : Int → List Int → Option R) (x2 : List Int → Option R) (v2_0 : List ((Int × (Int × (Int × (Int × (List Int × Unit))))))) (v2_1 : Int) (v2_2 : Int) (v2_3 : List Int) : Option R :=
  (bif decide (v2_2 < v2_1) then (bif (decide ((0 : Int) ≤ v2_2) && decide (v2_2 < (v2_0.length : Int))) then (bif decide (0 < ([(26 : Int), (207 : Int), (252 : Int), (29 : Int)] : List Int).length) then (f74 k ((v2_0.getD (Int.toNat v2_2) ((0 : Int), ((0 : Int), ((0 : Int), ((0 : Int), (([] : List Int), ())))))).1) (((v2_0.getD (Int.toNat v2_2) ((0 : Int), ((0 : Int), ((0 : Int), ((0 : Int), (([] : List Int), ())))))).2).1) ((((v2_0.getD (Int.toNat v2_2) ((0 : Int), ((0 : Int), ((0 : Int), ((0 : Int), (([] : List Int), ())))))).2).2).1) (((((v2_0.getD (Int.toNat v2_2) ((0 : Int), ((0 : Int), ((0 : Int), ((0 : Int), (([] : List Int), ())))))).2).2).2).1) ((((((v2_0.getD (Int.toNat v2_2) ((0 : Int), ((0 : Int), ((0 : Int), ((0 : Int), (([] : List Int), ())))))).2).2).2).2).1) (fun r36868_0 => (f40 k ([v2_3, ([(26 : Int), (207 : Int), (252 : Int), (29 : Int)] : List Int), r36868_0] : List (List Int)) (fun r36870_0 => (rec (IntKind.i64.wrap (v2_2 + (1 : Int))) r36870_0))))) else none) else none) else (x2 v2_3))
noncomputable def f53_2d {R : Type} (k : Nat) (x2 : List Int → Option R) (v2_0 : List ((Int × (Int × (Int × (Int × (List Int × Unit))))))) (v2_1 : Int) : Nat → Int → List Int → Option R
  | 0, _, _ => none
  | m + 1, v2_2, v2_3 => f53_2b k (f53_2d k x2 v2_0 v2_1 m) x2 v2_0 v2_1 v2_2 v2_3
theorem f53_2x {R : Type} : ∃ f, f = @f53_2d R := ⟨_, rfl⟩
noncomputable def f53_2 {R : Type} := Classical.choose (f53_2x (R := R))
theorem f53_2_def {R : Type} : @f53_2 R = @f53_2d R := Classical.choose_spec f53_2x
noncomputable def f53d {R : Type} (k : Nat) (a0 : List ((Int × (Int × (Int × (Int × (List Int × Unit))))))) (a1 : Int) (K : Int → List Int → Option R) : Option R := match k with
  | 0 => none
  | k + 1 => (f76 k a1 (fun r4097_0 => (bif (r4097_0 != (0 : Int)) then (K r4097_0 ([] : List Int)) else (bif decide ((a0.length : Int) > (1000 : Int)) then (K (2 : Int) ([] : List Int)) else (f53_0 k K (f53_2 k (fun y2_2_0 => (K (0 : Int) y2_2_0)) a0 (a0.length : Int) k (0 : Int) ([] : List Int)) a0 a1 a0 (a0.length : Int) k (0 : Int))))))
theorem f53x {R : Type} : ∃ f, f = @f53d R := ⟨_, rfl⟩
noncomputable def f53 {R : Type} := Classical.choose (f53x (R := R))
theorem f53_def {R : Type} : @f53 R = @f53d R := Classical.choose_spec f53x
end Go.Proofs.Ytahdmfboidjkoaa.PM
