/- Functions of the program in typed form (printed by a program of this work). -/
import Derived.Test.YtlcklflbhhnnhaaPT1
set_option linter.unusedVariables false
set_option linter.unusedSimpArgs false
set_option maxRecDepth 100000
namespace Go.Proofs.Ytlcklflbhhnnhaa.PM
open Go
noncomputable section
variable {R : Type}
def Q2m (k : Nat) (xN : zL1 → Option R) (c0 : zL2) (c1 c2 : Int) (c3 : Bool) (c30 : zL1) : Option R :=
 (bif c3 then (bif (decide (0 ≤ c2) && decide (c2 < (c0.length : Int))) then (bif decide (c30.length + ([(c1, (((c0.getD (Int.toNat c2) zD0).1, (((c0.getD (Int.toNat c2) zD0).2).1, ((((c0.getD (Int.toNat c2) zD0).2).2).1, (((((c0.getD (Int.toNat c2) zD0).2).2).2).1, ((((((c0.getD (Int.toNat c2) zD0).2).2).2).2).1, (((((((c0.getD (Int.toNat c2) zD0).2).2).2).2).2).1, ((((((((c0.getD (Int.toNat c2) zD0).2).2).2).2).2).2).1, (((((((((c0.getD (Int.toNat c2) zD0).2).2).2).2).2).2).2).1, ((((((((((c0.getD (Int.toNat c2) zD0).2).2).2).2).2).2).2).2).1, ()))))))))), ()))] : zL1).length ≤ LIM 120) then (xN (c30 ++ ([(c1, (((c0.getD (Int.toNat c2) zD0).1, (((c0.getD (Int.toNat c2) zD0).2).1, ((((c0.getD (Int.toNat c2) zD0).2).2).1, (((((c0.getD (Int.toNat c2) zD0).2).2).2).1, ((((((c0.getD (Int.toNat c2) zD0).2).2).2).2).1, (((((((c0.getD (Int.toNat c2) zD0).2).2).2).2).2).1, ((((((((c0.getD (Int.toNat c2) zD0).2).2).2).2).2).2).1, (((((((((c0.getD (Int.toNat c2) zD0).2).2).2).2).2).2).2).1, ((((((((((c0.getD (Int.toNat c2) zD0).2).2).2).2).2).2).2).2).1, ()))))))))), ()))] : zL1))) else none) else none) else (xN c30))
def Q53 := hid (@Q2m R)
theorem Q23 : @Q53 R = @Q2m R := Q2
def Q4h (k : Nat) (rec : zK3 R) (x0 : Int → zL1 → Option R) (c0 : zL2) (c1 c3 c4 c5 c6 c7 c8 c9 : Int) (c10 : ByteArray) (c11 : List Int) (c12 : Int) (c13 : zL5) (c14 c15 c16 c17 : Int) (c18 : ByteArray) (c19 : List Int) (c20 : zL5) (c21 c22 c23 c24 : Int) (c25 c27 : List Bool) (c28 : Int) (c30 : zL1) (c2 c26 : Int) (c29 : zL1) : Option R :=
 (bif decide (c2 < (c0.length : Int)) then (bif (decide (c26 ≥ (c25.length : Int)) == false) then (bif (decide (0 ≤ c26) && decide (c26 < (c25.length : Int))) then (Q53 k (fun p29 => (rec (IntKind.i64.wrap (c2 + 1)) (IntKind.i64.wrap (c26 + 1)) p29)) c0 c1 c2 (!(c25.getD (Int.toNat c26) false)) c29) else none) else (Q53 k (fun p29 => (rec (IntKind.i64.wrap (c2 + 1)) (IntKind.i64.wrap (c26 + 1)) p29)) c0 c1 c2 true c29)) else (x0 c26 c29))
def Q1d (k : Nat) (x0 : Int → zL1 → Option R) (c0 : zL2) (c1 c3 c4 c5 c6 c7 c8 c9 : Int) (c10 : ByteArray) (c11 : List Int) (c12 : Int) (c13 : zL5) (c14 c15 c16 c17 : Int) (c18 : ByteArray) (c19 : List Int) (c20 : zL5) (c21 c22 c23 c24 : Int) (c25 c27 : List Bool) (c28 : Int) (c30 : zL1) : Nat → Int → Int → zL1 → Option R
 | 0, _, _, _ => none
 | m + 1, c2, c26, c29 => Q4h k (Q1d k x0 c0 c1 c3 c4 c5 c6 c7 c8 c9 c10 c11 c12 c13 c14 c15 c16 c17 c18 c19 c20 c21 c22 c23 c24 c25 c27 c28 c30 m) x0 c0 c1 c3 c4 c5 c6 c7 c8 c9 c10 c11 c12 c13 c14 c15 c16 c17 c18 c19 c20 c21 c22 c23 c24 c25 c27 c28 c30 c2 c26 c29
def Qfl := hid (@Q1d R)
theorem Q84 : @Qfl R = @Q1d R := Q2
def Qmt (k : Nat) (a0 : zL2) (a1 a2 a3 a4 a5 a6 a7 a8 : Int) (a9 : ByteArray) (a10 : List Int) (a11 : Int) (a12 : zL5) (a13 a14 a15 a16 : Int) (a17 : ByteArray) (a18 : List Int) (a19 : zL5) (a20 a21 a22 a23 : Int) (a24 : List Bool) (a25 : Int) (a26 : List Bool) (a27 : Int) (a28 a29 : zL1) (K : zK19 R) : Option R := match k with
 | 0 => none
 | k + 1 => (Qfl k (fun p23 p26 => (K a2 a3 a4 a5 a6 a7 a8 a9 a10 a11 a12 a13 a14 a15 a16 a17 a18 a19 a20 a21 a22 a23 a24 p23 a26 a27 p26 a29)) a0 a1 a2 a3 a4 a5 a6 a7 a8 a9 a10 a11 a12 a13 a14 a15 a16 a17 a18 a19 a20 a21 a22 a23 a24 a26 a27 a29 k 0 a25 a28)
def f127v1 := hid (@Qmt R)
theorem Qdi : @f127v1 R = @Qmt R := Q2
def f85d (k : Nat) (a0 a1 a2 a3 a4 a5 a6 : Int) (a7 : ByteArray) (a8 : List Int) (a9 : zL5) (a10 a11 a12 a13 : Int) (K : zK2 R) : Option R := match k with
 | 0 => none
 | k + 1 => (bif (a5 != 2) then (K a5 a6 a7 a8 a9 a10 a11 a12 a13 0 ([] : zL2)) else (bif decide (IntKind.i64.wrap (a12 - 1) > 0) then (K a5 a6 a7 a8 a9 a10 a11 (IntKind.i64.wrap (a12 - 1)) a13 0 ([] : zL2)) else (bif decide (a13 ≥ a4) then (K 4 a6 a7 a8 a9 a10 a11 (IntKind.i64.wrap (a12 - 1)) a13 0 ([((6 : Int), (a6, ((⟨#[]⟩ : ByteArray), ((0 : Int), ((0 : Int), ((0 : Int), (([] : List Int), (([] : zL5), (false, ())))))))))] : zL3)) else (f113 k a5 a6 a7 a8 a9 a10 a11 (IntKind.i64.wrap (a12 - 1)) a13 (fun r0_0 r0_1 => (f75 k r0_1 (fun r1_0 r1_1 => (bif decide ((r1_1.length : Int) > 2000) then (K 0 0 (⟨#[]⟩ : ByteArray) ([] : List Int) ([] : zL5) 0 0 0 0 2 ([] : zL2)) else (K a5 a6 a7 a8 a9 a10 a11 a3 (IntKind.i64.wrap (a13 + 1)) 0 ([((4 : Int), (a6, ((⟨#[]⟩ : ByteArray), ((0 : Int), ((0 : Int), ((0 : Int), (([] : List Int), (r0_1, (false, ())))))))))] : zL3))))))))))
def f85 := hid (@f85d R)
theorem Q107 : @f85 R = @f85d R := Q2
def Qmc (k : Nat) (rec K : zK21 R) (x0 : zK19 R) (c0 : Int) (c30 c31 : zL3) (c1 c2 c3 c4 c5 c6 c7 c8 : Int) (c9 : ByteArray) (c10 : List Int) (c11 : Int) (c12 : zL5) (c13 c14 c15 c16 : Int) (c17 : ByteArray) (c18 : List Int) (c19 : zL5) (c20 c21 c22 c23 : Int) (c24 : List Bool) (c25 : Int) (c26 : List Bool) (c27 : Int) (c28 c29 : zL1) : Option R :=
 (bif decide (c1 < (c30.length : Int)) then (bif (decide (0 ≤ c1) && decide (c1 < (c30.length : Int))) then (f93 k c2 c3 c4 c5 c6 c15 c16 c17 c18 c19 c20 c21 c22 c23 ((c30.getD (Int.toNat c1) zD0).1) (((c30.getD (Int.toNat c1) zD0).2).1) ((((c30.getD (Int.toNat c1) zD0).2).2).1) (((((c30.getD (Int.toNat c1) zD0).2).2).2).1) ((((((c30.getD (Int.toNat c1) zD0).2).2).2).2).1) (((((((c30.getD (Int.toNat c1) zD0).2).2).2).2).2).1) ((((((((c30.getD (Int.toNat c1) zD0).2).2).2).2).2).2).1) (((((((((c30.getD (Int.toNat c1) zD0).2).2).2).2).2).2).2).1) ((((((((((c30.getD (Int.toNat c1) zD0).2).2).2).2).2).2).2).2).1) (fun r0_0 r0_1 r0_2 r0_3 r0_4 r0_5 r0_6 r0_7 r0_8 r0_9 r0_10 => (bif (r0_9 != 0) then (K r0_9 c2 c3 c4 c5 c6 c7 c8 c9 c10 c11 c12 c13 c14 c15 c16 c17 c18 c19 c20 c21 c22 c23 c24 c25 c26 c27 c28 c29) else (f127 k r0_10 (IntKind.i64.wrap (c0 + c3)) c2 c3 c4 c5 c6 c7 c8 c9 c10 c11 c12 c13 c14 r0_0 r0_1 r0_2 r0_3 r0_4 r0_5 r0_6 r0_7 r0_8 c24 c25 c26 c27 c28 c29 (fun r1_0 r1_1 r1_2 r1_3 r1_4 r1_5 r1_6 r1_7 r1_8 r1_9 r1_10 r1_11 r1_12 r1_13 r1_14 r1_15 r1_16 r1_17 r1_18 r1_19 r1_20 r1_21 r1_22 r1_23 r1_24 r1_25 r1_26 r1_27 => (rec (IntKind.i64.wrap (c1 + 1)) r1_0 r1_1 r1_2 r1_3 r1_4 r1_5 r1_6 r1_7 r1_8 r1_9 r1_10 r1_11 r1_12 r1_13 r1_14 r1_15 r1_16 r1_17 r1_18 r1_19 r1_20 r1_21 r1_22 r1_23 r1_24 r1_25 r1_26 r1_27)))))) else none) else (x0 c2 c3 c4 c5 c6 c7 c8 c9 c10 c11 c12 c13 c14 c15 c16 c17 c18 c19 c20 c21 c22 c23 c24 c25 c26 c27 c28 c29))
def Q46 (k : Nat) (K : zK21 R) (x0 : zK19 R) (c0 : Int) (c30 c31 : zL3) : Nat → Int → Int → Int → Int → Int → Int → Int → Int → ByteArray → List Int → Int → zL5 → Int → Int → Int → Int → ByteArray → List Int → zL5 → Int → Int → Int → Int → List Bool → Int → List Bool → Int → zL1 → zL1 → Option R
 | 0, _, _, _, _, _, _, _, _, _, _, _, _, _, _, _, _, _, _, _, _, _, _, _, _, _, _, _, _, _ => none
 | m + 1, c1, c2, c3, c4, c5, c6, c7, c8, c9, c10, c11, c12, c13, c14, c15, c16, c17, c18, c19, c20, c21, c22, c23, c24, c25, c26, c27, c28, c29 => Qmc k (Q46 k K x0 c0 c30 c31 m) K x0 c0 c30 c31 c1 c2 c3 c4 c5 c6 c7 c8 c9 c10 c11 c12 c13 c14 c15 c16 c17 c18 c19 c20 c21 c22 c23 c24 c25 c26 c27 c28 c29
def Qy1 := hid (@Q46 R)
theorem Qd3 : @Qy1 R = @Q46 R := Q2
def Qme (k : Nat) (rec : zK12 R) (K : zK21 R) (x2 : zK13 R) (c0 c2 c3 c4 c5 c6 c15 c16 : Int) (c17 : ByteArray) (c18 : List Int) (c19 : zL5) (c20 c21 c22 c23 : Int) (c24 : List Bool) (c25 : Int) (c26 : List Bool) (c27 : Int) (c28 c29 : zL1) (c30 : zL3) (c1 c7 c8 : Int) (c9 : ByteArray) (c10 : List Int) (c11 : Int) (c12 : zL5) (c13 c14 : Int) : Option R :=
 (bif decide (c1 < (c30.length : Int)) then (bif (decide (0 ≤ c1) && decide (c1 < (c30.length : Int))) then (f91 k c7 c8 c9 c10 c11 c12 c13 c14 ((c30.getD (Int.toNat c1) zD0).1) (((c30.getD (Int.toNat c1) zD0).2).1) ((((c30.getD (Int.toNat c1) zD0).2).2).1) (((((c30.getD (Int.toNat c1) zD0).2).2).2).1) ((((((c30.getD (Int.toNat c1) zD0).2).2).2).2).1) (((((((c30.getD (Int.toNat c1) zD0).2).2).2).2).2).1) ((((((((c30.getD (Int.toNat c1) zD0).2).2).2).2).2).2).1) (((((((((c30.getD (Int.toNat c1) zD0).2).2).2).2).2).2).2).1) ((((((((((c30.getD (Int.toNat c1) zD0).2).2).2).2).2).2).2).2).1) (fun r0_0 r0_1 r0_2 r0_3 r0_4 r0_5 r0_6 r0_7 r0_8 => (bif (r0_8 != 0) then (K r0_8 c2 c3 c4 c5 c6 c7 c8 c9 c10 c11 c12 c13 c14 c15 c16 c17 c18 c19 c20 c21 c22 c23 c24 c25 c26 c27 c28 c29) else (rec (IntKind.i64.wrap (c1 + 1)) r0_0 r0_1 r0_2 r0_3 r0_4 r0_5 r0_6 r0_7)))) else none) else (x2 c7 c8 c9 c10 c11 c12 c13 c14))
def Q47 (k : Nat) (K : zK21 R) (x2 : zK13 R) (c0 c2 c3 c4 c5 c6 c15 c16 : Int) (c17 : ByteArray) (c18 : List Int) (c19 : zL5) (c20 c21 c22 c23 : Int) (c24 : List Bool) (c25 : Int) (c26 : List Bool) (c27 : Int) (c28 c29 : zL1) (c30 : zL3) : Nat → Int → Int → Int → ByteArray → List Int → Int → zL5 → Int → Int → Option R
 | 0, _, _, _, _, _, _, _, _, _ => none
 | m + 1, c1, c7, c8, c9, c10, c11, c12, c13, c14 => Qme k (Q47 k K x2 c0 c2 c3 c4 c5 c6 c15 c16 c17 c18 c19 c20 c21 c22 c23 c24 c25 c26 c27 c28 c29 c30 m) K x2 c0 c2 c3 c4 c5 c6 c15 c16 c17 c18 c19 c20 c21 c22 c23 c24 c25 c26 c27 c28 c29 c30 c1 c7 c8 c9 c10 c11 c12 c13 c14
def Qy2 := hid (@Q47 R)
theorem Qd4 : @Qy2 R = @Q47 R := Q2
def f103d (k : Nat) (a0 a1 a2 a3 a4 a5 a6 a7 : Int) (a8 : ByteArray) (a9 : List Int) (a10 : Int) (a11 : zL5) (a12 a13 a14 a15 : Int) (a16 : ByteArray) (a17 : List Int) (a18 : zL5) (a19 a20 a21 a22 : Int) (a23 : List Bool) (a24 : Int) (a25 : List Bool) (a26 : Int) (a27 a28 : zL1) (K : zK21 R) : Option R := match k with
 | 0 => none
 | k + 1 => (f126 k a0 a1 a2 a3 a4 a5 a6 a7 a8 a9 a10 a11 a12 a13 a14 a15 a16 a17 a18 a19 a20 a21 a22 a23 a24 a25 a26 a27 a28 (fun r0_0 r0_1 r0_2 r0_3 r0_4 r0_5 r0_6 r0_7 r0_8 r0_9 r0_10 r0_11 r0_12 r0_13 r0_14 r0_15 r0_16 r0_17 r0_18 r0_19 r0_20 r0_21 r0_22 r0_23 r0_24 r0_25 r0_26 r0_27 r0_28 r0_29 r0_30 => (bif (decide (r0_28.length = a27.length) && (decide (r0_29.length = a28.length) && true)) then (f126v1 k a0 r0_0 r0_1 r0_2 r0_3 r0_4 r0_5 r0_6 r0_7 r0_8 r0_9 r0_10 r0_11 r0_12 r0_13 r0_14 r0_15 r0_16 r0_17 r0_18 r0_19 r0_20 r0_21 r0_22 r0_23 r0_24 r0_25 r0_26 r0_27 r0_28 r0_29 (fun r1_0 r1_1 r1_2 r1_3 r1_4 r1_5 r1_6 r1_7 r1_8 r1_9 r1_10 r1_11 r1_12 r1_13 r1_14 r1_15 r1_16 r1_17 r1_18 r1_19 r1_20 r1_21 r1_22 r1_23 r1_24 r1_25 r1_26 r1_27 r1_28 r1_29 r1_30 r1_31 r1_32 => (bif (decide (r1_30.length = r0_28.length) && (decide (r1_31.length = r0_29.length) && true)) then (Qy1 k K (fun y0_0_1 y0_0_2 y0_0_3 y0_0_4 y0_0_5 y0_0_6 y0_0_7 y0_0_8 y0_0_9 y0_0_10 y0_0_11 y0_0_12 y0_0_13 y0_0_14 y0_0_15 y0_0_16 y0_0_17 y0_0_18 y0_0_19 y0_0_20 y0_0_21 y0_0_22 y0_0_23 y0_0_24 y0_0_25 y0_0_26 y0_0_27 y0_0_28 => (Qy2 k K (fun y2_2_6 y2_2_7 y2_2_8 y2_2_9 y2_2_10 y2_2_11 y2_2_12 y2_2_13 => (f81 k y0_0_1 y0_0_2 y0_0_3 y0_0_4 y0_0_5 y2_2_6 y2_2_7 y2_2_8 y2_2_9 y2_2_10 y2_2_11 y2_2_12 y2_2_13 (fun r2_0 r2_1 r2_2 r2_3 r2_4 r2_5 r2_6 r2_7 r2_8 => (f127v1 k r2_8 (IntKind.i64.wrap (a0 + y0_0_2)) y0_0_1 y0_0_2 y0_0_3 y0_0_4 y0_0_5 r2_0 r2_1 r2_2 r2_3 r2_4 r2_5 r2_6 r2_7 y0_0_14 y0_0_15 y0_0_16 y0_0_17 y0_0_18 y0_0_19 y0_0_20 y0_0_21 y0_0_22 y0_0_23 y0_0_24 y0_0_25 y0_0_26 y0_0_27 y0_0_28 (fun r3_0 r3_1 r3_2 r3_3 r3_4 r3_5 r3_6 r3_7 r3_8 r3_9 r3_10 r3_11 r3_12 r3_13 r3_14 r3_15 r3_16 r3_17 r3_18 r3_19 r3_20 r3_21 r3_22 r3_23 r3_24 r3_25 r3_26 r3_27 => (f85 k r3_0 r3_1 r3_2 r3_3 r3_4 r3_13 r3_14 r3_15 r3_16 r3_17 r3_18 r3_19 r3_20 r3_21 (fun r4_0 r4_1 r4_2 r4_3 r4_4 r4_5 r4_6 r4_7 r4_8 r4_9 r4_10 => (bif (r4_9 != 0) then (K r4_9 r3_0 r3_1 r3_2 r3_3 r3_4 r3_5 r3_6 r3_7 r3_8 r3_9 r3_10 r3_11 r3_12 r3_13 r3_14 r3_15 r3_16 r3_17 r3_18 r3_19 r3_20 r3_21 r3_22 r3_23 r3_24 r3_25 r3_26 r3_27) else (f127 k r4_10 (IntKind.i64.wrap (a0 + r3_1)) r3_0 r3_1 r3_2 r3_3 r3_4 r3_5 r3_6 r3_7 r3_8 r3_9 r3_10 r3_11 r3_12 r4_0 r4_1 r4_2 r4_3 r4_4 r4_5 r4_6 r4_7 r4_8 r3_22 r3_23 r3_24 r3_25 r3_26 r3_27 (fun r5_0 r5_1 r5_2 r5_3 r5_4 r5_5 r5_6 r5_7 r5_8 r5_9 r5_10 r5_11 r5_12 r5_13 r5_14 r5_15 r5_16 r5_17 r5_18 r5_19 r5_20 r5_21 r5_22 r5_23 r5_24 r5_25 r5_26 r5_27 => (bif decide (IntKind.i64.wrap (r5_23 + r5_25) > 20000) then (K 2 r5_0 r5_1 r5_2 r5_3 r5_4 r5_5 r5_6 r5_7 r5_8 r5_9 r5_10 r5_11 r5_12 r5_13 r5_14 r5_15 r5_16 r5_17 r5_18 r5_19 r5_20 r5_21 r5_22 r5_23 r5_24 r5_25 r5_26 r5_27) else (K 0 r5_0 r5_1 r5_2 r5_3 r5_4 r5_5 r5_6 r5_7 r5_8 r5_9 r5_10 r5_11 r5_12 r5_13 r5_14 r5_15 r5_16 r5_17 r5_18 r5_19 r5_20 r5_21 r5_22 r5_23 r5_24 r5_25 r5_26 r5_27)))))))))))) a0 y0_0_1 y0_0_2 y0_0_3 y0_0_4 y0_0_5 y0_0_14 y0_0_15 y0_0_16 y0_0_17 y0_0_18 y0_0_19 y0_0_20 y0_0_21 y0_0_22 y0_0_23 y0_0_24 y0_0_25 y0_0_26 y0_0_27 y0_0_28 r1_32 k 0 y0_0_6 y0_0_7 y0_0_8 y0_0_9 y0_0_10 y0_0_11 y0_0_12 y0_0_13)) a0 r0_30 r1_32 k 0 r1_0 r1_1 r1_2 r1_3 r1_4 r1_5 r1_6 r1_7 r1_8 r1_9 r1_10 r1_11 r1_12 r1_13 r1_14 r1_15 r1_16 r1_17 r1_18 r1_19 r1_20 r1_21 r1_22 r1_23 r1_26 r1_27 ((r1_30.drop r1_24).take r1_25) ((r1_31.drop r1_28).take r1_29)) else none))) else none)))
def f103 := hid (@f103d R)
theorem Qqk : @f103 R = @f103d R := Q2
def Qfp (k : Nat) (xN : Int → Option R) (c1 c2 : Int) (c3 : Bool) : Option R :=
 (bif c3 then (xN c2) else (xN c1))
def Qfo := hid (@Qfp R)
theorem Qa5 : @Qfo R = @Qfp R := Q2
def Qze (k : Nat) (rec : Int → Int → Int → Int → Int → Int → Int → Int → Int → ByteArray → List Int → Int → zL5 → Int → Int → Int → Int → ByteArray → List Int → zL5 → Int → Int → Int → Int → List Bool → Int → List Bool → Int → zL1 → zL1 → Option R) (K : zK14 R) (x0 : zK21 R) (c0 c3 c4 : Int) (c5 : ByteArray) (c6 c7 c8 c9 c10 : Int) (c11 : ByteArray) (c12 c13 c14 c15 c1 c2 c16 c17 c18 c19 c20 c21 c22 : Int) (c23 : ByteArray) (c24 : List Int) (c25 : Int) (c26 : zL5) (c27 c28 c29 c30 : Int) (c31 : ByteArray) (c32 : List Int) (c33 : zL5) (c34 c35 c36 c37 : Int) (c38 : List Bool) (c39 : Int) (c40 : List Bool) (c41 : Int) (c42 c43 : zL1) : Option R :=
 (bif (decide (c2 < c0) == true) then (f102 k c16 c17 c18 c19 c20 c21 c22 c23 c24 c25 c26 c27 c28 c29 c30 c31 c32 c33 c34 c35 c36 c37 c38 c39 c40 c41 c42 c43 (fun r0_0 r0_1 r0_2 r0_3 r0_4 r0_5 r0_6 r0_7 r0_8 r0_9 r0_10 r0_11 r0_12 r0_13 r0_14 r0_15 r0_16 r0_17 r0_18 r0_19 r0_20 r0_21 r0_22 r0_23 r0_24 r0_25 r0_26 r0_27 r0_28 => (bif (decide (r0_27.length = c42.length) && (decide (r0_28.length = c43.length) && true)) then (bif (!r0_0) then (f103 k c2 r0_1 r0_2 r0_3 r0_4 r0_5 r0_6 r0_7 r0_8 r0_9 r0_10 r0_11 r0_12 r0_13 r0_14 r0_15 r0_16 r0_17 r0_18 r0_19 r0_20 r0_21 r0_22 r0_23 r0_24 r0_25 r0_26 r0_27 r0_28 (fun r1_0 r1_1 r1_2 r1_3 r1_4 r1_5 r1_6 r1_7 r1_8 r1_9 r1_10 r1_11 r1_12 r1_13 r1_14 r1_15 r1_16 r1_17 r1_18 r1_19 r1_20 r1_21 r1_22 r1_23 r1_24 r1_25 r1_26 r1_27 r1_28 => (bif (r1_0 != 0) then (K 0 0 (⟨#[]⟩ : ByteArray) ([] : List Int) 0 ([] : zL5) 0 0 0 0 (⟨#[]⟩ : ByteArray) ([] : List Int) ([] : zL5) 0 0 0 0 r1_0 ([] : List Int)) else (bif (decide (c1 < 0) == true) then (Qfo k (fun p1 => (rec p1 (IntKind.i64.wrap (c2 + 1)) r1_1 r1_2 r1_3 r1_4 r1_5 r1_6 r1_7 r1_8 r1_9 r1_10 r1_11 r1_12 r1_13 r1_14 r1_15 r1_16 r1_17 r1_18 r1_19 r1_20 r1_21 r1_22 r1_23 r1_24 r1_25 r1_26 r1_27 r1_28)) c1 c2 (r1_6 == 3)) else (Qfo k (fun p1 => (rec p1 (IntKind.i64.wrap (c2 + 1)) r1_1 r1_2 r1_3 r1_4 r1_5 r1_6 r1_7 r1_8 r1_9 r1_10 r1_11 r1_12 r1_13 r1_14 r1_15 r1_16 r1_17 r1_18 r1_19 r1_20 r1_21 r1_22 r1_23 r1_24 r1_25 r1_26 r1_27 r1_28)) c1 c2 false))))) else (x0 c1 r0_1 r0_2 r0_3 r0_4 r0_5 r0_6 r0_7 r0_8 r0_9 r0_10 r0_11 r0_12 r0_13 r0_14 r0_15 r0_16 r0_17 r0_18 r0_19 r0_20 r0_21 r0_22 r0_23 r0_24 r0_25 r0_26 r0_27 r0_28)) else none))) else (x0 c1 c16 c17 c18 c19 c20 c21 c22 c23 c24 c25 c26 c27 c28 c29 c30 c31 c32 c33 c34 c35 c36 c37 c38 c39 c40 c41 c42 c43))
def Q89 (k : Nat) (K : zK14 R) (x0 : zK21 R) (c0 c3 c4 : Int) (c5 : ByteArray) (c6 c7 c8 c9 c10 : Int) (c11 : ByteArray) (c12 c13 c14 c15 : Int) : Nat → Int → Int → Int → Int → Int → Int → Int → Int → Int → ByteArray → List Int → Int → zL5 → Int → Int → Int → Int → ByteArray → List Int → zL5 → Int → Int → Int → Int → List Bool → Int → List Bool → Int → zL1 → zL1 → Option R
 | 0, _, _, _, _, _, _, _, _, _, _, _, _, _, _, _, _, _, _, _, _, _, _, _, _, _, _, _, _, _, _ => none
 | m + 1, c1, c2, c16, c17, c18, c19, c20, c21, c22, c23, c24, c25, c26, c27, c28, c29, c30, c31, c32, c33, c34, c35, c36, c37, c38, c39, c40, c41, c42, c43 => Qze k (Q89 k K x0 c0 c3 c4 c5 c6 c7 c8 c9 c10 c11 c12 c13 c14 c15 m) K x0 c0 c3 c4 c5 c6 c7 c8 c9 c10 c11 c12 c13 c14 c15 c1 c2 c16 c17 c18 c19 c20 c21 c22 c23 c24 c25 c26 c27 c28 c29 c30 c31 c32 c33 c34 c35 c36 c37 c38 c39 c40 c41 c42 c43
def f61_0 := hid (@Q89 R)
theorem Qj2 : @f61_0 R = @Q89 R := Q2
def f61d (k : Nat) (a0 a1 a2 a3 a4 a5 : Int) (a6 : ByteArray) (a7 : List Int) (a8 a9 : List Bool) (a10 : Int) (K : zK14 R) : Option R := match k with
 | 0 => none
 | k + 1 => (f23 k a0 a1 a2 a3 a4 (fun r0_0 => (bif (r0_0 != 0) then (K 0 0 (⟨#[]⟩ : ByteArray) ([] : List Int) 0 ([] : zL5) 0 0 0 0 (⟨#[]⟩ : ByteArray) ([] : List Int) ([] : zL5) 0 0 0 0 r0_0 ([] : List Int)) else (f26 k a5 a6 a7 (fun r1_0 r1_1 r1_2 r1_3 r1_4 r1_5 r1_6 r1_7 => (bif (r1_6 != 0) then (K 0 0 (⟨#[]⟩ : ByteArray) ([] : List Int) 0 ([] : zL5) 0 0 0 0 (⟨#[]⟩ : ByteArray) ([] : List Int) ([] : zL5) 0 0 0 0 r1_6 ([] : List Int)) else (bif (decide ((a8.length : Int) > 20000) == false) then (bif decide ((a9.length : Int) > 20000) then (K 0 0 (⟨#[]⟩ : ByteArray) ([] : List Int) 0 ([] : zL5) 0 0 0 0 (⟨#[]⟩ : ByteArray) ([] : List Int) ([] : zL5) 0 0 0 0 2 ([] : List Int)) else (f72 k a10 0 1000000 (fun r2_0 => (bif (!r2_0) then (K 0 0 (⟨#[]⟩ : ByteArray) ([] : List Int) 0 ([] : zL5) 0 0 0 0 (⟨#[]⟩ : ByteArray) ([] : List Int) ([] : zL5) 0 0 0 0 1 ([] : List Int)) else (f61_0 k K (fun p0 p14 p15 p16 p17 p18 p19 p20 p21 p22 p23 p24 p25 p26 p27 p28 p29 p30 p31 p32 p33 p34 p35 p36 p37 p38 p39 p40 p41 => (K p19 p20 p21 p22 p23 p24 p25 p26 p27 p28 p29 p30 p31 p32 p33 p34 p35 0 ([p37, p39, p0] : List Int))) a10 0 0 (⟨#[]⟩ : ByteArray) 0 0 0 0 0 (⟨#[]⟩ : ByteArray) 0 0 0 0 k (-1) 0 a0 a1 a2 a3 a4 r1_0 r1_1 r1_2 r1_7 r1_3 ([] : zL5) r1_4 r1_5 0 a5 (⟨#[]⟩ : ByteArray) ([] : List Int) ([] : zL5) (-1) 0 0 0 a8 0 a9 0 ([] : List ((Int × ((Int × (Int × (ByteArray × (Int × (Int × (Int × (List Int × (zL5 × (Bool × Unit))))))))) × Unit)))) ([] : List ((Int × ((Int × (Int × (ByteArray × (Int × (Int × (Int × (List Int × (zL5 × (Bool × Unit))))))))) × Unit))))))))) else (K 0 0 (⟨#[]⟩ : ByteArray) ([] : List Int) 0 ([] : zL5) 0 0 0 0 (⟨#[]⟩ : ByteArray) ([] : List Int) ([] : zL5) 0 0 0 0 2 ([] : List Int)))))))))
def f61 := hid (@f61d R)
theorem Qzf : @f61 R = @f61d R := Q2
def f70d (k : Nat) (a0 a1 a2 : Int) (K : Int → Option R) : Option R := match k with
 | 0 => none
 | k + 1 => (f66 k a0 a1 a2 (fun r0_0 => (bif (!r0_0) then (K 1) else (K 0))))
def f70 := hid (@f70d R)
theorem Qzs : @f70 R = @f70d R := Q2
def Qzq (k : Nat) (rec K : Int → Option R) (x0 : Option R) (c0 : List Int) (c1 c2 : Int) : Option R :=
 (bif decide (c2 < c1) then (bif (decide (0 ≤ c2) && decide (c2 < (c0.length : Int))) then (bif ((c0.getD (Int.toNat c2) 0) != 0) then (K (c0.getD (Int.toNat c2) 0)) else (rec (IntKind.i64.wrap (c2 + 1)))) else none) else x0)
def Q8e (k : Nat) (K : Int → Option R) (x0 : Option R) (c0 : List Int) (c1 : Int) : Nat → Int → Option R
 | 0, _ => none
 | m + 1, c2 => Qzq k (Q8e k K x0 c0 c1 m) K x0 c0 c1 c2
def f69_0 := hid (@Q8e R)
theorem Qj7 : @f69_0 R = @Q8e R := Q2
def f69d (k : Nat) (a0 : List Int) (K : Int → Option R) : Option R := match k with
 | 0 => none
 | k + 1 => (f69_0 k K (K 0) a0 (a0.length : Int) k 0)
def f69 := hid (@f69d R)
theorem Qzr : @f69 R = @f69d R := Q2
def Qa0 (k : Nat) (xN : Int → Option R) (c0 : Int) (c1 : Bool) : Option R :=
 (bif c1 then (xN (IntKind.i64.wrap (c0 - 1))) else (xN c0))
def Qfj := hid (@Qa0 R)
theorem Q82 : @Qfj R = @Qa0 R := Q2
def f125d (k : Nat) (a0 a1 : Int) (K : Int → Option R) : Option R := match k with
 | 0 => none
 | k + 1 => (bif (!(a1 == 0)) then (bif (!(a1 == 0)) then (Qfj k (fun p0 => (K p0)) (IntKind.i64.wrap (Int.tdiv a0 a1)) (decide (Int.tmod a0 a1 < 0))) else none) else none)
def f125 := hid (@f125d R)
theorem Qr2 : @f125 R = @f125d R := Q2
def f101d (k : Nat) (a0 a1 : Int) (K : Int → Option R) : Option R := match k with
 | 0 => none
 | k + 1 => (f125 k (IntKind.i64.wrap (0 - a0)) a1 (fun r0_0 => (K (IntKind.i64.wrap (0 - r0_0)))))
def f101 := hid (@f101d R)
theorem Qqi : @f101 R = @f101d R := Q2
def f60d (k : Nat) (a0 a1 a2 a3 a4 a5 : Int) (K : zK22 R) : Option R := match k with
 | 0 => none
 | k + 1 => (f22 k a0 a1 a2 a3 a4 (fun r0_0 => (f70 k a5 0 100000 (fun r1_0 => (f69 k ([r0_0, r1_0] : List Int) (fun r2_0 => (bif (r2_0 != 0) then (K 0 0 r2_0) else (f101 k a5 a0 (fun r3_0 => (bif (!(a2 == 0)) then (K (IntKind.i64.wrap (r3_0 + 2)) (IntKind.i64.wrap ((IntKind.i64.wrap (Int.tdiv r3_0 a2)) + (IntKind.i64.wrap (2 * a1)))) 0) else none))))))))))
def f60 := hid (@f60d R)
theorem Qzd : @f60 R = @f60d R := Q2
def f62d (k : Nat) (a0 a1 a2 a3 a4 a5 : Int) (K : zK22 R) : Option R := match k with
 | 0 => none
 | k + 1 => (f23 k a0 a1 a2 a3 a4 (fun r0_0 => (bif (r0_0 != 0) then (K 0 0 r0_0) else (f72 k a5 0 100000 (fun r1_0 => (bif (!r1_0) then (K 0 0 1) else (bif (!(a0 == 0)) then (bif (!(a2 == 0)) then (K (IntKind.i64.wrap ((IntKind.i64.wrap (Int.tdiv (IntKind.i64.wrap ((IntKind.i64.wrap (a5 + a0)) - 1)) a0)) + 2)) (IntKind.i64.wrap ((IntKind.i64.wrap (Int.tdiv (IntKind.i64.wrap (Int.tdiv (IntKind.i64.wrap ((IntKind.i64.wrap (a5 + a0)) - 1)) a0)) a2)) + (IntKind.i64.wrap (2 * a1)))) 0) else none) else none)))))))
def f62 := hid (@f62d R)
theorem Qzg : @f62 R = @f62d R := Q2
def f51d (k : Nat) (a0 a1 : List Int) (K : Bool → Option R) : Option R := match k with
 | 0 => none
 | k + 1 => (K ((strOf a0).toList == (strOf a1).toList))
def f51 := hid (@f51d R)
theorem Qz9 : @f51 R = @f51d R := Q2
def Qz7 (k : Nat) (rec : Int → Option R) (K : Bool → Option R) (x0 : Option R) (c0 c1 : zL5) (c2 c3 : Int) : Option R :=
 (bif decide (c3 < c2) then (bif (decide (0 ≤ c3) && decide (c3 < (c0.length : Int))) then (bif (decide (0 ≤ c3) && decide (c3 < (c1.length : Int))) then (bif (!((((c0.getD (Int.toNat c3) ((0 : Int), ((0 : Int), ()))).1, (((c0.getD (Int.toNat c3) ((0 : Int), ((0 : Int), ()))).2).1, ())).1 == ((c1.getD (Int.toNat c3) ((0 : Int), ((0 : Int), ()))).1, (((c1.getD (Int.toNat c3) ((0 : Int), ((0 : Int), ()))).2).1, ())).1) && (((((c0.getD (Int.toNat c3) ((0 : Int), ((0 : Int), ()))).1, (((c0.getD (Int.toNat c3) ((0 : Int), ((0 : Int), ()))).2).1, ())).2).1 == (((c1.getD (Int.toNat c3) ((0 : Int), ((0 : Int), ()))).1, (((c1.getD (Int.toNat c3) ((0 : Int), ((0 : Int), ()))).2).1, ())).2).1) && true))) then (K false) else (rec (IntKind.i64.wrap (c3 + 1)))) else none) else none) else x0)
def Q87 (k : Nat) (K : Bool → Option R) (x0 : Option R) (c0 c1 : zL5) (c2 : Int) : Nat → Int → Option R
 | 0, _ => none
 | m + 1, c3 => Qz7 k (Q87 k K x0 c0 c1 c2 m) K x0 c0 c1 c2 c3
def f40_0 := hid (@Q87 R)
theorem Qj0 : @f40_0 R = @Q87 R := Q2
def f40d (k : Nat) (a0 a1 : zL5) (K : Bool → Option R) : Option R := match k with
 | 0 => none
 | k + 1 => (bif ((a0.length : Int) != (a1.length : Int)) then (K false) else (f40_0 k K (K true) a0 a1 (a0.length : Int) k 0))
def f40 := hid (@f40d R)
theorem Qz8 : @f40 R = @f40d R := Q2
def f29d (k : Nat) (a0 a1 : Int) (a2 : ByteArray) (a3 : List Int) (a4 : Int) (a5 : zL5) (a6 a7 a8 a9 : Int) (a10 : ByteArray) (a11 : List Int) (a12 : Int) (a13 : zL5) (a14 a15 : Int) (K : Bool → Option R) : Option R := match k with
 | 0 => none
 | k + 1 => (bif ((a0 == a8) == true) then (bif ((a1 == a9) == true) then (bif ((a2.toList == a10.toList) == true) then (f51 k a3 a11 (fun r0_0 => (bif (r0_0 == true) then (bif ((a4 == a12) == true) then (f40 k a5 a13 (fun r1_0 => (bif (r1_0 == true) then (bif ((a6 == a14) == true) then (K (a7 == a15)) else (K false)) else (K false)))) else (K false)) else (K false)))) else (K false)) else (K false)) else (K false))
def f29 := hid (@f29d R)
theorem Qz5 : @f29 R = @f29d R := Q2
def f38d (k : Nat) (a0 a1 : Int) (a2 : ByteArray) (a3 : List Int) (a4 : zL5) (a5 a6 a7 a8 a9 a10 : Int) (a11 : ByteArray) (a12 : List Int) (a13 : zL5) (a14 a15 a16 a17 : Int) (K : Bool → Option R) : Option R := match k with
 | 0 => none
 | k + 1 => (bif ((a0 == a9) == true) then (bif ((a1 == a10) == true) then (bif ((a2.toList == a11.toList) == true) then (f51 k a3 a12 (fun r0_0 => (bif (r0_0 == true) then (f40 k a4 a13 (fun r1_0 => (bif (r1_0 == true) then (bif ((a5 == a14) == true) then (bif ((a6 == a15) == true) then (bif ((a7 == a16) == true) then (K (a8 == a17)) else (K false)) else (K false)) else (K false)) else (K false)))) else (K false)))) else (K false)) else (K false)) else (K false))
def f38 := hid (@f38d R)
theorem Qz6 : @f38 R = @f38d R := Q2
def Qzh (k : Nat) (rec : Int → Option R) (K : Bool → Option R) (x0 : Option R) (c0 c1 : List Int) (c2 c3 : Int) : Option R :=
 (bif decide (c3 < c2) then (bif (decide (0 ≤ c3) && decide (c3 < (c0.length : Int))) then (bif (decide (0 ≤ c3) && decide (c3 < (c1.length : Int))) then (bif ((c0.getD (Int.toNat c3) 0) != (c1.getD (Int.toNat c3) 0)) then (K false) else (rec (IntKind.i64.wrap (c3 + 1)))) else none) else none) else x0)
def Q8a (k : Nat) (K : Bool → Option R) (x0 : Option R) (c0 c1 : List Int) (c2 : Int) : Nat → Int → Option R
 | 0, _ => none
 | m + 1, c3 => Qzh k (Q8a k K x0 c0 c1 c2 m) K x0 c0 c1 c2 c3
def f63_0 := hid (@Q8a R)
theorem Qj3 : @f63_0 R = @Q8a R := Q2
def f63d (k : Nat) (a0 a1 : List Int) (K : Bool → Option R) : Option R := match k with
 | 0 => none
 | k + 1 => (bif ((a0.length : Int) != (a1.length : Int)) then (K false) else (f63_0 k K (K true) a0 a1 (a0.length : Int) k 0))
def f63 := hid (@f63d R)
theorem Qzi : @f63 R = @f63d R := Q2
def f18d (k : Nat) (a0 : List Int) (K : Int → Int → Option R) : Option R := match k with
 | 0 => none
 | k + 1 => (bif decide ((a0.length : Int) > 100000) then (K 0 2) else (f64 k a0 (fun r0_0 => (K r0_0 0))))
def f18 := hid (@f18d R)
theorem Qyz : @f18 R = @f18d R := Q2
def f24d (k : Nat) (K : Bool → Option R) : Option R := match k with
 | 0 => none
 | k + 1 => (f18 k ([(1 : Int), (2 : Int), (3 : Int), 4] : List Int) (fun r0_0 r0_1 => (bif ((r0_1 == 0) == true) then (K (r0_0 == 16909060)) else (K false))))
def f24 := hid (@f24d R)
theorem Qz2 : @f24 R = @f24d R := Q2
def f17d (k : Nat) (a0 a1 a2 a3 a4 a5 : Int) (a6 : ByteArray) (a7 : List Int) (a8 a9 : List Bool) (a10 : Int) (K : Bool → Option R) : Option R := match k with
 | 0 => none
 | k + 1 => (f59 k a0 a1 a2 a3 a4 a5 a6 a7 a8 a9 a10 (fun r0_0 r0_1 r0_2 r0_3 r0_4 r0_5 r0_6 r0_7 r0_8 r0_9 r0_10 r0_11 r0_12 r0_13 r0_14 r0_15 r0_16 r0_17 r0_18 => (f61 k a0 a1 a2 a3 a4 a5 a6 a7 a8 a9 a10 (fun r1_0 r1_1 r1_2 r1_3 r1_4 r1_5 r1_6 r1_7 r1_8 r1_9 r1_10 r1_11 r1_12 r1_13 r1_14 r1_15 r1_16 r1_17 r1_18 => (f60 k a0 a1 a2 a3 a4 (a7.length : Int) (fun r2_0 r2_1 r2_2 => (f62 k a0 a1 a2 a3 a4 (a7.length : Int) (fun r3_0 r3_1 r3_2 => (f29 k r0_0 r0_1 r0_2 r0_3 r0_4 r0_5 r0_6 r0_7 r1_0 r1_1 r1_2 r1_3 r1_4 r1_5 r1_6 r1_7 (fun r4_0 => (bif (r4_0 == true) then (f38 k r0_8 r0_9 r0_10 r0_11 r0_12 r0_13 r0_14 r0_15 r0_16 r1_8 r1_9 r1_10 r1_11 r1_12 r1_13 r1_14 r1_15 r1_16 (fun r5_0 => (bif (r5_0 == true) then (f63 k r0_18 r1_18 (fun r6_0 => (bif (r6_0 == true) then (bif ((r0_17 == r1_17) == true) then (bif ((r2_0 == r3_0) == true) then (bif ((r2_1 == r3_1) == true) then (bif ((r2_2 == r3_2) == true) then (f24 k (fun r7_0 => (K r7_0))) else (K false)) else (K false)) else (K false)) else (K false)) else (K false)))) else (K false)))) else (K false))))))))))))
def f17 := hid (@f17d R)
theorem Qyy : @f17 R = @f17d R := Q2
end
end Go.Proofs.Ytlcklflbhhnnhaa.PM
