/- Functions of the program in typed form (printed by a program of this work). -/
import Derived.Test.YtlcklflbhhnnhaaPT0
set_option linter.unusedVariables false
set_option linter.unusedSimpArgs false
set_option maxRecDepth 100000
namespace Go.Proofs.Ytlcklflbhhnnhaa.PM
open Go
noncomputable section
variable {R : Type}
def Qm8 (k : Nat) (rec K : zK11 R) (x0 : zK4 R) (c0 c1 : Int) (c32 : zL3) (c2 c3 c4 c5 c6 c7 c8 c9 : Int) (c10 : ByteArray) (c11 : List Int) (c12 : Int) (c13 : zL5) (c14 c15 c16 c17 : Int) (c18 : ByteArray) (c19 : List Int) (c20 : zL5) (c21 c22 c23 c24 : Int) (c25 : List Bool) (c26 : Int) (c27 : List Bool) (c28 c29 : Int) (c30 c31 : zL1) : Option R :=
 (bif decide (c2 < c1) then (bif (decide (0 ≤ c2) && decide (c2 < (c32.length : Int))) then (f92 k c3 c4 c5 c6 c7 c16 c17 c18 c19 c20 c21 c22 c23 c24 ((c32.getD (Int.toNat c2) zD0).1) (((c32.getD (Int.toNat c2) zD0).2).1) ((((c32.getD (Int.toNat c2) zD0).2).2).1) (((((c32.getD (Int.toNat c2) zD0).2).2).2).1) ((((((c32.getD (Int.toNat c2) zD0).2).2).2).2).1) (((((((c32.getD (Int.toNat c2) zD0).2).2).2).2).2).1) ((((((((c32.getD (Int.toNat c2) zD0).2).2).2).2).2).2).1) (((((((((c32.getD (Int.toNat c2) zD0).2).2).2).2).2).2).2).1) ((((((((((c32.getD (Int.toNat c2) zD0).2).2).2).2).2).2).2).2).1) (fun r0_0 r0_1 r0_2 r0_3 r0_4 r0_5 r0_6 r0_7 r0_8 r0_9 r0_10 => (bif (r0_9 != 0) then (K r0_9 c3 c4 c5 c6 c7 c8 c9 c10 c11 c12 c13 c14 c15 r0_0 r0_1 r0_2 r0_3 r0_4 r0_5 r0_6 r0_7 r0_8 c25 c26 c27 c28 c29 c30 c31) else (f124 k (IntKind.i64.wrap (c0 + c4)) r0_10 c3 c4 c5 c6 c7 c8 c9 c10 c11 c12 c13 c14 c15 r0_0 r0_1 r0_2 r0_3 r0_4 r0_5 r0_6 r0_7 r0_8 c25 c26 c27 c28 c29 c30 c31 (fun r1_0 r1_1 r1_2 r1_3 r1_4 r1_5 r1_6 r1_7 r1_8 r1_9 r1_10 r1_11 r1_12 r1_13 r1_14 r1_15 r1_16 r1_17 r1_18 r1_19 r1_20 r1_21 r1_22 r1_23 r1_24 r1_25 r1_26 r1_27 r1_28 => (rec (IntKind.i64.wrap (c2 + 1)) r1_0 r1_1 r1_2 r1_3 r1_4 r1_5 r1_6 r1_7 r1_8 r1_9 r1_10 r1_11 r1_12 r1_13 r1_14 r1_15 r1_16 r1_17 r1_18 r1_19 r1_20 r1_21 r1_22 r1_23 r1_24 r1_25 r1_26 r1_27 r1_28)))))) else none) else (x0 c3 c4 c5 c6 c7 c8 c9 c10 c11 c12 c13 c14 c15 c16 c17 c18 c19 c20 c21 c22 c23 c24 c25 c26 c27 c28 c29 c30 c31))
def Q44 (k : Nat) (K : zK11 R) (x0 : zK4 R) (c0 c1 : Int) (c32 : zL3) : Nat → Int → Int → Int → Int → Int → Int → Int → Int → ByteArray → List Int → Int → zL5 → Int → Int → Int → Int → ByteArray → List Int → zL5 → Int → Int → Int → Int → List Bool → Int → List Bool → Int → Int → zL1 → zL1 → Option R
 | 0, _, _, _, _, _, _, _, _, _, _, _, _, _, _, _, _, _, _, _, _, _, _, _, _, _, _, _, _, _, _ => none
 | m + 1, c2, c3, c4, c5, c6, c7, c8, c9, c10, c11, c12, c13, c14, c15, c16, c17, c18, c19, c20, c21, c22, c23, c24, c25, c26, c27, c28, c29, c30, c31 => Qm8 k (Q44 k K x0 c0 c1 c32 m) K x0 c0 c1 c32 c2 c3 c4 c5 c6 c7 c8 c9 c10 c11 c12 c13 c14 c15 c16 c17 c18 c19 c20 c21 c22 c23 c24 c25 c26 c27 c28 c29 c30 c31
def Qxz := hid (@Q44 R)
theorem Qd1 : @Qxz R = @Q44 R := Q2
def Qma (k : Nat) (rec : zK12 R) (K : zK11 R) (x2 : zK13 R) (c0 c1 c3 c4 c5 c6 c7 c16 c17 : Int) (c18 : ByteArray) (c19 : List Int) (c20 : zL5) (c21 c22 c23 c24 : Int) (c25 : List Bool) (c26 : Int) (c27 : List Bool) (c28 c29 : Int) (c30 c31 : zL1) (c32 : zL3) (c2 c8 c9 : Int) (c10 : ByteArray) (c11 : List Int) (c12 : Int) (c13 : zL5) (c14 c15 : Int) : Option R :=
 (bif decide (c2 < c1) then (bif (decide (0 ≤ c2) && decide (c2 < (c32.length : Int))) then (f90 k c8 c9 c10 c11 c12 c13 c14 c15 ((c32.getD (Int.toNat c2) zD0).1) (((c32.getD (Int.toNat c2) zD0).2).1) ((((c32.getD (Int.toNat c2) zD0).2).2).1) (((((c32.getD (Int.toNat c2) zD0).2).2).2).1) ((((((c32.getD (Int.toNat c2) zD0).2).2).2).2).1) (((((((c32.getD (Int.toNat c2) zD0).2).2).2).2).2).1) ((((((((c32.getD (Int.toNat c2) zD0).2).2).2).2).2).2).1) (((((((((c32.getD (Int.toNat c2) zD0).2).2).2).2).2).2).2).1) ((((((((((c32.getD (Int.toNat c2) zD0).2).2).2).2).2).2).2).2).1) (fun r0_0 r0_1 r0_2 r0_3 r0_4 r0_5 r0_6 r0_7 r0_8 => (bif (r0_8 != 0) then (K r0_8 c3 c4 c5 c6 c7 r0_0 r0_1 r0_2 r0_3 r0_4 r0_5 r0_6 r0_7 c16 c17 c18 c19 c20 c21 c22 c23 c24 c25 c26 c27 c28 c29 c30 c31) else (rec (IntKind.i64.wrap (c2 + 1)) r0_0 r0_1 r0_2 r0_3 r0_4 r0_5 r0_6 r0_7)))) else none) else (x2 c8 c9 c10 c11 c12 c13 c14 c15))
def Q45 (k : Nat) (K : zK11 R) (x2 : zK13 R) (c0 c1 c3 c4 c5 c6 c7 c16 c17 : Int) (c18 : ByteArray) (c19 : List Int) (c20 : zL5) (c21 c22 c23 c24 : Int) (c25 : List Bool) (c26 : Int) (c27 : List Bool) (c28 c29 : Int) (c30 c31 : zL1) (c32 : zL3) : Nat → Int → Int → Int → ByteArray → List Int → Int → zL5 → Int → Int → Option R
 | 0, _, _, _, _, _, _, _, _, _ => none
 | m + 1, c2, c8, c9, c10, c11, c12, c13, c14, c15 => Qma k (Q45 k K x2 c0 c1 c3 c4 c5 c6 c7 c16 c17 c18 c19 c20 c21 c22 c23 c24 c25 c26 c27 c28 c29 c30 c31 c32 m) K x2 c0 c1 c3 c4 c5 c6 c7 c16 c17 c18 c19 c20 c21 c22 c23 c24 c25 c26 c27 c28 c29 c30 c31 c32 c2 c8 c9 c10 c11 c12 c13 c14 c15
def Qy0 := hid (@Q45 R)
theorem Qd2 : @Qy0 R = @Q45 R := Q2
def Q9p (k : Nat) (xN : Int → Option R) (c0 : Int) (c1 : Bool) (c28 : Int) : Option R :=
 (bif c1 then (xN c0) else (xN c28))
def Q51 := hid (@Q9p R)
theorem Q7p : @Q51 R = @Q9p R := Q2
def f100d (k : Nat) (a0 a1 a2 a3 a4 a5 a6 a7 : Int) (a8 : ByteArray) (a9 : List Int) (a10 : Int) (a11 : zL5) (a12 a13 a14 a15 : Int) (a16 : ByteArray) (a17 : List Int) (a18 : zL5) (a19 a20 a21 a22 : Int) (a23 : List Bool) (a24 : Int) (a25 : List Bool) (a26 a27 : Int) (a28 a29 : zL1) (K : zK11 R) : Option R := match k with
 | 0 => none
 | k + 1 => (f123 k a0 a1 a2 a3 a4 a5 a6 a7 a8 a9 a10 a11 a12 a13 a14 a15 a16 a17 a18 a19 a20 a21 a22 a23 a24 a25 a26 a27 a28 a29 (fun r0_0 r0_1 r0_2 r0_3 r0_4 r0_5 r0_6 r0_7 r0_8 r0_9 r0_10 r0_11 r0_12 r0_13 r0_14 r0_15 r0_16 r0_17 r0_18 r0_19 r0_20 r0_21 r0_22 r0_23 r0_24 r0_25 r0_26 r0_27 r0_28 r0_29 => (Qxz k K (fun y0_0_1 y0_0_2 y0_0_3 y0_0_4 y0_0_5 y0_0_6 y0_0_7 y0_0_8 y0_0_9 y0_0_10 y0_0_11 y0_0_12 y0_0_13 y0_0_14 y0_0_15 y0_0_16 y0_0_17 y0_0_18 y0_0_19 y0_0_20 y0_0_21 y0_0_22 y0_0_23 y0_0_24 y0_0_25 y0_0_26 y0_0_27 y0_0_28 y0_0_29 => (f123v1 k a0 y0_0_1 y0_0_2 y0_0_3 y0_0_4 y0_0_5 y0_0_6 y0_0_7 y0_0_8 y0_0_9 y0_0_10 y0_0_11 y0_0_12 y0_0_13 y0_0_14 y0_0_15 y0_0_16 y0_0_17 y0_0_18 y0_0_19 y0_0_20 y0_0_21 y0_0_22 y0_0_23 y0_0_24 y0_0_25 y0_0_26 y0_0_27 y0_0_28 y0_0_29 (fun r1_0 r1_1 r1_2 r1_3 r1_4 r1_5 r1_6 r1_7 r1_8 r1_9 r1_10 r1_11 r1_12 r1_13 r1_14 r1_15 r1_16 r1_17 r1_18 r1_19 r1_20 r1_21 r1_22 r1_23 r1_24 r1_25 r1_26 r1_27 r1_28 r1_29 => (Qy0 k K (fun y2_2_6 y2_2_7 y2_2_8 y2_2_9 y2_2_10 y2_2_11 y2_2_12 y2_2_13 => (bif (decide (r1_26 < 0) == true) then (Q51 k (fun y19_N_27 => (f79 k r1_0 r1_1 r1_2 r1_3 r1_4 y2_2_6 y2_2_7 y2_2_8 y2_2_9 y2_2_10 y2_2_11 y2_2_12 y2_2_13 (fun r2_0 r2_1 r2_2 r2_3 r2_4 r2_5 r2_6 r2_7 r2_8 => (f124v1 k (IntKind.i64.wrap (a0 + r1_1)) r2_8 r1_0 r1_1 r1_2 r1_3 r1_4 r2_0 r2_1 r2_2 r2_3 r2_4 r2_5 r2_6 r2_7 r1_13 r1_14 r1_15 r1_16 r1_17 r1_18 r1_19 r1_20 r1_21 r1_22 r1_23 r1_24 r1_25 y19_N_27 r1_27 r1_28 (fun r3_0 r3_1 r3_2 r3_3 r3_4 r3_5 r3_6 r3_7 r3_8 r3_9 r3_10 r3_11 r3_12 r3_13 r3_14 r3_15 r3_16 r3_17 r3_18 r3_19 r3_20 r3_21 r3_22 r3_23 r3_24 r3_25 r3_26 r3_27 r3_28 => (f82 k r3_0 r3_1 r3_2 r3_3 r3_4 r3_13 r3_14 r3_15 r3_16 r3_17 r3_18 r3_19 r3_20 r3_21 (fun r4_0 r4_1 r4_2 r4_3 r4_4 r4_5 r4_6 r4_7 r4_8 r4_9 r4_10 => (bif (r4_9 != 0) then (K r4_9 r3_0 r3_1 r3_2 r3_3 r3_4 r3_5 r3_6 r3_7 r3_8 r3_9 r3_10 r3_11 r3_12 r4_0 r4_1 r4_2 r4_3 r4_4 r4_5 r4_6 r4_7 r4_8 r3_22 r3_23 r3_24 r3_25 r3_26 r3_27 r3_28) else (f124 k (IntKind.i64.wrap (a0 + r3_1)) r4_10 r3_0 r3_1 r3_2 r3_3 r3_4 r3_5 r3_6 r3_7 r3_8 r3_9 r3_10 r3_11 r3_12 r4_0 r4_1 r4_2 r4_3 r4_4 r4_5 r4_6 r4_7 r4_8 r3_22 r3_23 r3_24 r3_25 r3_26 r3_27 r3_28 (fun r5_0 r5_1 r5_2 r5_3 r5_4 r5_5 r5_6 r5_7 r5_8 r5_9 r5_10 r5_11 r5_12 r5_13 r5_14 r5_15 r5_16 r5_17 r5_18 r5_19 r5_20 r5_21 r5_22 r5_23 r5_24 r5_25 r5_26 r5_27 r5_28 => (bif decide (IntKind.i64.wrap (r5_23 + r5_25) > 20000) then (K 2 r5_0 r5_1 r5_2 r5_3 r5_4 r5_5 r5_6 r5_7 r5_8 r5_9 r5_10 r5_11 r5_12 r5_13 r5_14 r5_15 r5_16 r5_17 r5_18 r5_19 r5_20 r5_21 r5_22 r5_23 r5_24 r5_25 r5_26 r5_27 r5_28) else (K 0 r5_0 r5_1 r5_2 r5_3 r5_4 r5_5 r5_6 r5_7 r5_8 r5_9 r5_10 r5_11 r5_12 r5_13 r5_14 r5_15 r5_16 r5_17 r5_18 r5_19 r5_20 r5_21 r5_22 r5_23 r5_24 r5_25 r5_26 r5_27 r5_28)))))))))))) a0 (y2_2_6 == 3) r1_26) else (Q51 k (fun y19_N_27 => (f79 k r1_0 r1_1 r1_2 r1_3 r1_4 y2_2_6 y2_2_7 y2_2_8 y2_2_9 y2_2_10 y2_2_11 y2_2_12 y2_2_13 (fun r2_0 r2_1 r2_2 r2_3 r2_4 r2_5 r2_6 r2_7 r2_8 => (f124v1 k (IntKind.i64.wrap (a0 + r1_1)) r2_8 r1_0 r1_1 r1_2 r1_3 r1_4 r2_0 r2_1 r2_2 r2_3 r2_4 r2_5 r2_6 r2_7 r1_13 r1_14 r1_15 r1_16 r1_17 r1_18 r1_19 r1_20 r1_21 r1_22 r1_23 r1_24 r1_25 y19_N_27 r1_27 r1_28 (fun r3_0 r3_1 r3_2 r3_3 r3_4 r3_5 r3_6 r3_7 r3_8 r3_9 r3_10 r3_11 r3_12 r3_13 r3_14 r3_15 r3_16 r3_17 r3_18 r3_19 r3_20 r3_21 r3_22 r3_23 r3_24 r3_25 r3_26 r3_27 r3_28 => (f82 k r3_0 r3_1 r3_2 r3_3 r3_4 r3_13 r3_14 r3_15 r3_16 r3_17 r3_18 r3_19 r3_20 r3_21 (fun r4_0 r4_1 r4_2 r4_3 r4_4 r4_5 r4_6 r4_7 r4_8 r4_9 r4_10 => (bif (r4_9 != 0) then (K r4_9 r3_0 r3_1 r3_2 r3_3 r3_4 r3_5 r3_6 r3_7 r3_8 r3_9 r3_10 r3_11 r3_12 r4_0 r4_1 r4_2 r4_3 r4_4 r4_5 r4_6 r4_7 r4_8 r3_22 r3_23 r3_24 r3_25 r3_26 r3_27 r3_28) else (f124 k (IntKind.i64.wrap (a0 + r3_1)) r4_10 r3_0 r3_1 r3_2 r3_3 r3_4 r3_5 r3_6 r3_7 r3_8 r3_9 r3_10 r3_11 r3_12 r4_0 r4_1 r4_2 r4_3 r4_4 r4_5 r4_6 r4_7 r4_8 r3_22 r3_23 r3_24 r3_25 r3_26 r3_27 r3_28 (fun r5_0 r5_1 r5_2 r5_3 r5_4 r5_5 r5_6 r5_7 r5_8 r5_9 r5_10 r5_11 r5_12 r5_13 r5_14 r5_15 r5_16 r5_17 r5_18 r5_19 r5_20 r5_21 r5_22 r5_23 r5_24 r5_25 r5_26 r5_27 r5_28 => (bif decide (IntKind.i64.wrap (r5_23 + r5_25) > 20000) then (K 2 r5_0 r5_1 r5_2 r5_3 r5_4 r5_5 r5_6 r5_7 r5_8 r5_9 r5_10 r5_11 r5_12 r5_13 r5_14 r5_15 r5_16 r5_17 r5_18 r5_19 r5_20 r5_21 r5_22 r5_23 r5_24 r5_25 r5_26 r5_27 r5_28) else (K 0 r5_0 r5_1 r5_2 r5_3 r5_4 r5_5 r5_6 r5_7 r5_8 r5_9 r5_10 r5_11 r5_12 r5_13 r5_14 r5_15 r5_16 r5_17 r5_18 r5_19 r5_20 r5_21 r5_22 r5_23 r5_24 r5_25 r5_26 r5_27 r5_28)))))))))))) a0 false r1_26))) a0 (r1_29.length : Int) r1_0 r1_1 r1_2 r1_3 r1_4 r1_13 r1_14 r1_15 r1_16 r1_17 r1_18 r1_19 r1_20 r1_21 r1_22 r1_23 r1_24 r1_25 r1_26 r1_27 r1_28 r1_29 k 0 r1_5 r1_6 r1_7 r1_8 r1_9 r1_10 r1_11 r1_12)))) a0 (r0_29.length : Int) r0_29 k 0 r0_0 r0_1 r0_2 r0_3 r0_4 r0_5 r0_6 r0_7 r0_8 r0_9 r0_10 r0_11 r0_12 r0_13 r0_14 r0_15 r0_16 r0_17 r0_18 r0_19 r0_20 r0_21 r0_22 r0_23 r0_24 r0_25 r0_26 r0_27 r0_28)))
def f100 := hid (@f100d R)
theorem Qqh : @f100 R = @f100d R := Q2
def Qzb (k : Nat) (rec : zK11 R) (K : zK14 R) (x0 : zK4 R) (c0 c2 c3 : Int) (c4 : ByteArray) (c5 c6 c7 c8 c9 : Int) (c10 : ByteArray) (c11 c12 c13 c14 c1 c15 c16 c17 c18 c19 c20 c21 : Int) (c22 : ByteArray) (c23 : List Int) (c24 : Int) (c25 : zL5) (c26 c27 c28 c29 : Int) (c30 : ByteArray) (c31 : List Int) (c32 : zL5) (c33 c34 c35 c36 : Int) (c37 : List Bool) (c38 : Int) (c39 : List Bool) (c40 c41 : Int) (c42 c43 : zL1) : Option R :=
 (bif decide (c1 < c0) then (f100 k c1 c15 c16 c17 c18 c19 c20 c21 c22 c23 c24 c25 c26 c27 c28 c29 c30 c31 c32 c33 c34 c35 c36 c37 c38 c39 c40 c41 c42 c43 (fun r0_0 r0_1 r0_2 r0_3 r0_4 r0_5 r0_6 r0_7 r0_8 r0_9 r0_10 r0_11 r0_12 r0_13 r0_14 r0_15 r0_16 r0_17 r0_18 r0_19 r0_20 r0_21 r0_22 r0_23 r0_24 r0_25 r0_26 r0_27 r0_28 r0_29 => (bif (r0_0 != 0) then (K 0 0 (⟨#[]⟩ : ByteArray) ([] : List Int) 0 ([] : zL5) 0 0 0 0 (⟨#[]⟩ : ByteArray) ([] : List Int) ([] : zL5) 0 0 0 0 r0_0 ([] : List Int)) else (rec (IntKind.i64.wrap (c1 + 1)) r0_1 r0_2 r0_3 r0_4 r0_5 r0_6 r0_7 r0_8 r0_9 r0_10 r0_11 r0_12 r0_13 r0_14 r0_15 r0_16 r0_17 r0_18 r0_19 r0_20 r0_21 r0_22 r0_23 r0_24 r0_25 r0_26 r0_27 r0_28 r0_29)))) else (x0 c15 c16 c17 c18 c19 c20 c21 c22 c23 c24 c25 c26 c27 c28 c29 c30 c31 c32 c33 c34 c35 c36 c37 c38 c39 c40 c41 c42 c43))
def Q88 (k : Nat) (K : zK14 R) (x0 : zK4 R) (c0 c2 c3 : Int) (c4 : ByteArray) (c5 c6 c7 c8 c9 : Int) (c10 : ByteArray) (c11 c12 c13 c14 : Int) : Nat → Int → Int → Int → Int → Int → Int → Int → Int → ByteArray → List Int → Int → zL5 → Int → Int → Int → Int → ByteArray → List Int → zL5 → Int → Int → Int → Int → List Bool → Int → List Bool → Int → Int → zL1 → zL1 → Option R
 | 0, _, _, _, _, _, _, _, _, _, _, _, _, _, _, _, _, _, _, _, _, _, _, _, _, _, _, _, _, _, _ => none
 | m + 1, c1, c15, c16, c17, c18, c19, c20, c21, c22, c23, c24, c25, c26, c27, c28, c29, c30, c31, c32, c33, c34, c35, c36, c37, c38, c39, c40, c41, c42, c43 => Qzb k (Q88 k K x0 c0 c2 c3 c4 c5 c6 c7 c8 c9 c10 c11 c12 c13 c14 m) K x0 c0 c2 c3 c4 c5 c6 c7 c8 c9 c10 c11 c12 c13 c14 c1 c15 c16 c17 c18 c19 c20 c21 c22 c23 c24 c25 c26 c27 c28 c29 c30 c31 c32 c33 c34 c35 c36 c37 c38 c39 c40 c41 c42 c43
def f59_0 := hid (@Q88 R)
theorem Qj1 : @f59_0 R = @Q88 R := Q2
def f59d (k : Nat) (a0 a1 a2 a3 a4 a5 : Int) (a6 : ByteArray) (a7 : List Int) (a8 a9 : List Bool) (a10 : Int) (K : zK14 R) : Option R := match k with
 | 0 => none
 | k + 1 => (f22 k a0 a1 a2 a3 a4 (fun r0_0 => (bif (r0_0 != 0) then (K 0 0 (⟨#[]⟩ : ByteArray) ([] : List Int) 0 ([] : zL5) 0 0 0 0 (⟨#[]⟩ : ByteArray) ([] : List Int) ([] : zL5) 0 0 0 0 r0_0 ([] : List Int)) else (f25 k a5 a6 a7 (fun r1_0 r1_1 r1_2 r1_3 r1_4 r1_5 r1_6 r1_7 => (bif (r1_6 != 0) then (K 0 0 (⟨#[]⟩ : ByteArray) ([] : List Int) 0 ([] : zL5) 0 0 0 0 (⟨#[]⟩ : ByteArray) ([] : List Int) ([] : zL5) 0 0 0 0 r1_6 ([] : List Int)) else (bif (decide ((a8.length : Int) > 20000) == false) then (bif decide ((a9.length : Int) > 20000) then (K 0 0 (⟨#[]⟩ : ByteArray) ([] : List Int) 0 ([] : zL5) 0 0 0 0 (⟨#[]⟩ : ByteArray) ([] : List Int) ([] : zL5) 0 0 0 0 2 ([] : List Int)) else (f66 k a10 0 1000000 (fun r2_0 => (bif (!r2_0) then (K 0 0 (⟨#[]⟩ : ByteArray) ([] : List Int) 0 ([] : zL5) 0 0 0 0 (⟨#[]⟩ : ByteArray) ([] : List Int) ([] : zL5) 0 0 0 0 1 ([] : List Int)) else (f53 k a5 (fun r3_0 r3_1 r3_2 r3_3 r3_4 r3_5 r3_6 r3_7 => (f59_0 k K (fun p13 p14 p15 p16 p17 p18 p19 p20 p21 p22 p23 p24 p25 p26 p27 p28 p29 p30 p31 p32 p33 p34 p35 p36 p37 p38 p39 p40 p41 => (K p18 p19 p20 p21 p22 p23 p24 p25 p26 p27 p28 p29 p30 p31 p32 p33 p34 0 ([p36, p38, p39] : List Int))) a10 0 0 (⟨#[]⟩ : ByteArray) 0 0 0 0 0 (⟨#[]⟩ : ByteArray) 0 0 0 0 k 0 a0 a1 a2 a3 a4 r1_0 r1_1 r1_2 r1_7 r1_3 ([] : zL5) r1_4 r1_5 r3_0 r3_1 r3_2 ([] : List Int) ([] : zL5) r3_3 r3_4 r3_5 r3_6 a8 0 a9 0 (-1) ([] : List ((Int × ((Int × (Int × (ByteArray × (Int × (Int × (Int × (List Int × (zL5 × (Bool × Unit))))))))) × Unit)))) ([] : List ((Int × ((Int × (Int × (ByteArray × (Int × (Int × (Int × (List Int × (zL5 × (Bool × Unit))))))))) × Unit))))))))))) else (K 0 0 (⟨#[]⟩ : ByteArray) ([] : List Int) 0 ([] : zL5) 0 0 0 0 (⟨#[]⟩ : ByteArray) ([] : List Int) ([] : zL5) 0 0 0 0 2 ([] : List Int)))))))))
def f59 := hid (@f59d R)
theorem Qzc : @f59 R = @f59d R := Q2
def f72d (k : Nat) (a0 a1 a2 : Int) (K : Bool → Option R) : Option R := match k with
 | 0 => none
 | k + 1 => (bif (decide (a0 ≥ a1) == true) then (K (decide (a0 ≤ a2))) else (K false))
def f72 := hid (@f72d R)
theorem Qzu : @f72 R = @f72d R := Q2
def f23d (k : Nat) (a0 a1 a2 a3 a4 : Int) (K : Int → Option R) : Option R := match k with
 | 0 => none
 | k + 1 => (f72 k a0 1 4096 (fun r0_0 => (bif ((!r0_0) == false) then (f72 k a1 1 1000000 (fun r1_0 => (bif ((!r1_0) == false) then (f72 k a2 1 100 (fun r2_0 => (bif ((!r2_0) == false) then (f72 k a3 1 1000000 (fun r3_0 => (bif ((!r3_0) == false) then (f72 k a4 0 50 (fun r4_0 => (bif (!r4_0) then (K 1) else (K 0)))) else (K 1)))) else (K 1)))) else (K 1)))) else (K 1))))
def f23 := hid (@f23d R)
theorem Qz1 : @f23 R = @f23d R := Q2
def f105d (k : Nat) (a0 a1 a2 : Int) (K : Bool → Option R) : Option R := match k with
 | 0 => none
 | k + 1 => (bif (decide (a0 ≥ a1) == true) then (K (decide (a0 ≤ a2))) else (K false))
def f105 := hid (@f105d R)
theorem Qql : @f105 R = @f105d R := Q2
def Qzv (k : Nat) (rec : Int → Option R) (K : Bool → Option R) (x0 : Option R) (c0 : ByteArray) (c1 : Int) : Option R :=
 (bif decide (c1 < (c0.size : Int)) then (bif (decide (0 ≤ c1) && decide (c1 < (c0.size : Int))) then (bif (decide (((bytesOf c0).getD (Int.toNat c1) 0) ≥ 97) == true) then (bif ((!decide (((bytesOf c0).getD (Int.toNat c1) 0) ≤ 122)) == true) then (bif ((c1 == 0) == false) then (bif ((((bytesOf c0).getD (Int.toNat c1) 0) != 45) == true) then (bif ((((bytesOf c0).getD (Int.toNat c1) 0) != 95) == true) then (bif (decide (((bytesOf c0).getD (Int.toNat c1) 0) ≥ 48) == true) then (bif (!decide (((bytesOf c0).getD (Int.toNat c1) 0) ≤ 57)) then (K false) else (rec (IntKind.i64.wrap (c1 + 1)))) else (K false)) else (rec (IntKind.i64.wrap (c1 + 1)))) else (rec (IntKind.i64.wrap (c1 + 1)))) else (K false)) else (rec (IntKind.i64.wrap (c1 + 1)))) else (bif ((c1 == 0) == false) then (bif ((((bytesOf c0).getD (Int.toNat c1) 0) != 45) == true) then (bif ((((bytesOf c0).getD (Int.toNat c1) 0) != 95) == true) then (bif (decide (((bytesOf c0).getD (Int.toNat c1) 0) ≥ 48) == true) then (bif (!decide (((bytesOf c0).getD (Int.toNat c1) 0) ≤ 57)) then (K false) else (rec (IntKind.i64.wrap (c1 + 1)))) else (K false)) else (rec (IntKind.i64.wrap (c1 + 1)))) else (rec (IntKind.i64.wrap (c1 + 1)))) else (K false))) else none) else x0)
def Q8f (k : Nat) (K : Bool → Option R) (x0 : Option R) (c0 : ByteArray) : Nat → Int → Option R
 | 0, _ => none
 | m + 1, c1 => Qzv k (Q8f k K x0 c0 m) K x0 c0 c1
def f74_0 := hid (@Q8f R)
theorem Qj8 : @f74_0 R = @Q8f R := Q2
def f74d (k : Nat) (a0 : ByteArray) (K : Bool → Option R) : Option R := match k with
 | 0 => none
 | k + 1 => (f74_0 k K (f105 k (a0.size : Int) 1 40 (fun r0_0 => (K r0_0))) a0 k 0)
def f74 := hid (@f74d R)
theorem Qzw : @f74 R = @f74d R := Q2
def f78d (k : Nat) (a0 : Int) (a1 : ByteArray) (a2 : List Int) (K : Int → Option R) : Option R := match k with
 | 0 => none
 | k + 1 => (f72 k a0 0 65535 (fun r0_0 => (bif (!r0_0) then (K 1) else (f74 k a1 (fun r1_0 => (bif (!r1_0) then (K 5) else (bif decide ((a2.length : Int) > 100000) then (K 2) else (K 0))))))))
def f78 := hid (@f78d R)
theorem Q101 : @f78 R = @f78d R := Q2
def f26d (k : Nat) (a0 : Int) (a1 : ByteArray) (a2 : List Int) (K : zK0 R) : Option R := match k with
 | 0 => none
 | k + 1 => (f78 k a0 a1 a2 (fun r0_0 => (bif (r0_0 != 0) then (K 0 0 (⟨#[]⟩ : ByteArray) 0 0 0 r0_0 ([] : List Int)) else (bif decide (a2.length ≤ LIM 1) then (K 1 a0 a1 (-1) 0 0 0 a2) else none))))
def f26 := hid (@f26d R)
theorem Qz4 : @f26 R = @f26d R := Q2
def f102d (k : Nat) (a0 a1 a2 a3 a4 a5 a6 : Int) (a7 : ByteArray) (a8 : List Int) (a9 : Int) (a10 : zL5) (a11 a12 a13 a14 : Int) (a15 : ByteArray) (a16 : List Int) (a17 : zL5) (a18 a19 a20 a21 : Int) (a22 : List Bool) (a23 : Int) (a24 : List Bool) (a25 : Int) (a26 a27 : zL1) (K : zK15 R) : Option R := match k with
 | 0 => none
 | k + 1 => (bif ((a5 == 3) == false) then (bif ((a5 == 4) == true) then (bif ((a13 != 2) == true) then (bif (((a26.length : Int) == 0) == true) then (K ((a27.length : Int) == 0) a0 a1 a2 a3 a4 a5 a6 a7 a8 a9 a10 a11 a12 a13 a14 a15 a16 a17 a18 a19 a20 a21 a22 a23 a24 a25 a26 a27) else (K false a0 a1 a2 a3 a4 a5 a6 a7 a8 a9 a10 a11 a12 a13 a14 a15 a16 a17 a18 a19 a20 a21 a22 a23 a24 a25 a26 a27)) else (K false a0 a1 a2 a3 a4 a5 a6 a7 a8 a9 a10 a11 a12 a13 a14 a15 a16 a17 a18 a19 a20 a21 a22 a23 a24 a25 a26 a27)) else (K false a0 a1 a2 a3 a4 a5 a6 a7 a8 a9 a10 a11 a12 a13 a14 a15 a16 a17 a18 a19 a20 a21 a22 a23 a24 a25 a26 a27)) else (bif ((a13 != 2) == true) then (bif (((a26.length : Int) == 0) == true) then (K ((a27.length : Int) == 0) a0 a1 a2 a3 a4 a5 a6 a7 a8 a9 a10 a11 a12 a13 a14 a15 a16 a17 a18 a19 a20 a21 a22 a23 a24 a25 a26 a27) else (K false a0 a1 a2 a3 a4 a5 a6 a7 a8 a9 a10 a11 a12 a13 a14 a15 a16 a17 a18 a19 a20 a21 a22 a23 a24 a25 a26 a27)) else (K false a0 a1 a2 a3 a4 a5 a6 a7 a8 a9 a10 a11 a12 a13 a14 a15 a16 a17 a18 a19 a20 a21 a22 a23 a24 a25 a26 a27)))
def f102 := hid (@f102d R)
theorem Qqj : @f102 R = @f102d R := Q2
def Qmp (k : Nat) (rec x0 : Int → zL3 → Option R) (c0 c2 c3 c4 c5 c6 c7 c8 : Int) (c9 : ByteArray) (c10 : List Int) (c11 : Int) (c12 : zL5) (c13 c14 c15 c16 : Int) (c17 : ByteArray) (c18 : List Int) (c19 : zL5) (c20 c21 c22 c23 : Int) (c24 : List Bool) (c25 : Int) (c26 : List Bool) (c27 : Int) (c28 c29 : zL1) (c1 : Int) (c30 : zL3) : Option R :=
 (bif (decide (c1 < (c28.length : Int)) == true) then (bif (decide (0 ≤ c1) && decide (c1 < (c28.length : Int))) then (bif ((c28.getD (Int.toNat c1) ((0 : Int), (zD0, ()))).1 == c0) then (bif (decide (0 ≤ c1) && decide (c1 < (c28.length : Int))) then (bif decide (c30.length + ([((((c28.getD (Int.toNat c1) ((0 : Int), (zD0, ()))).2).1).1, (((((c28.getD (Int.toNat c1) ((0 : Int), (zD0, ()))).2).1).2).1, ((((((c28.getD (Int.toNat c1) ((0 : Int), (zD0, ()))).2).1).2).2).1, (((((((c28.getD (Int.toNat c1) ((0 : Int), (zD0, ()))).2).1).2).2).2).1, ((((((((c28.getD (Int.toNat c1) ((0 : Int), (zD0, ()))).2).1).2).2).2).2).1, (((((((((c28.getD (Int.toNat c1) ((0 : Int), (zD0, ()))).2).1).2).2).2).2).2).1, ((((((((((c28.getD (Int.toNat c1) ((0 : Int), (zD0, ()))).2).1).2).2).2).2).2).2).1, (((((((((((c28.getD (Int.toNat c1) ((0 : Int), (zD0, ()))).2).1).2).2).2).2).2).2).2).1, ((((((((((((c28.getD (Int.toNat c1) ((0 : Int), (zD0, ()))).2).1).2).2).2).2).2).2).2).2).1, ())))))))))] : zL3).length ≤ LIM 112) then (rec (IntKind.i64.wrap (c1 + 1)) (c30 ++ ([((((c28.getD (Int.toNat c1) ((0 : Int), (zD0, ()))).2).1).1, (((((c28.getD (Int.toNat c1) ((0 : Int), (zD0, ()))).2).1).2).1, ((((((c28.getD (Int.toNat c1) ((0 : Int), (zD0, ()))).2).1).2).2).1, (((((((c28.getD (Int.toNat c1) ((0 : Int), (zD0, ()))).2).1).2).2).2).1, ((((((((c28.getD (Int.toNat c1) ((0 : Int), (zD0, ()))).2).1).2).2).2).2).1, (((((((((c28.getD (Int.toNat c1) ((0 : Int), (zD0, ()))).2).1).2).2).2).2).2).1, ((((((((((c28.getD (Int.toNat c1) ((0 : Int), (zD0, ()))).2).1).2).2).2).2).2).2).1, (((((((((((c28.getD (Int.toNat c1) ((0 : Int), (zD0, ()))).2).1).2).2).2).2).2).2).2).1, ((((((((((((c28.getD (Int.toNat c1) ((0 : Int), (zD0, ()))).2).1).2).2).2).2).2).2).2).2).1, ())))))))))] : zL3))) else none) else none) else (x0 c1 c30)) else none) else (x0 c1 c30))
def Q4f (k : Nat) (x0 : Int → zL3 → Option R) (c0 c2 c3 c4 c5 c6 c7 c8 : Int) (c9 : ByteArray) (c10 : List Int) (c11 : Int) (c12 : zL5) (c13 c14 c15 c16 : Int) (c17 : ByteArray) (c18 : List Int) (c19 : zL5) (c20 c21 c22 c23 : Int) (c24 : List Bool) (c25 : Int) (c26 : List Bool) (c27 : Int) (c28 c29 : zL1) : Nat → Int → zL3 → Option R
 | 0, _, _ => none
 | m + 1, c1, c30 => Qmp k (Q4f k x0 c0 c2 c3 c4 c5 c6 c7 c8 c9 c10 c11 c12 c13 c14 c15 c16 c17 c18 c19 c20 c21 c22 c23 c24 c25 c26 c27 c28 c29 m) x0 c0 c2 c3 c4 c5 c6 c7 c8 c9 c10 c11 c12 c13 c14 c15 c16 c17 c18 c19 c20 c21 c22 c23 c24 c25 c26 c27 c28 c29 c1 c30
def Qyp := hid (@Q4f R)
theorem Qdf : @Qyp R = @Q4f R := Q2
def f126d (k : Nat) (a0 a1 a2 a3 a4 a5 a6 a7 : Int) (a8 : ByteArray) (a9 : List Int) (a10 : Int) (a11 : zL5) (a12 a13 a14 a15 : Int) (a16 : ByteArray) (a17 : List Int) (a18 : zL5) (a19 a20 a21 a22 : Int) (a23 : List Bool) (a24 : Int) (a25 : List Bool) (a26 : Int) (a27 a28 : zL1) (K : zK16 R) : Option R := match k with
 | 0 => none
 | k + 1 => (Qyp k (fun p0 p29 => (bif (decide (0 ≤ p0) && decide (p0 ≤ (a27.length : Int))) then (K a1 a2 a3 a4 a5 a6 a7 a8 a9 a10 a11 a12 a13 a14 a15 a16 a17 a18 a19 a20 a21 a22 a23 a24 (Int.toNat p0) (a27.length - (Int.toNat p0)) a25 a26 a27 a28 p29) else none)) a0 a1 a2 a3 a4 a5 a6 a7 a8 a9 a10 a11 a12 a13 a14 a15 a16 a17 a18 a19 a20 a21 a22 a23 a24 a25 a26 a27 a28 k 0 ([] : zL2))
def f126 := hid (@f126d R)
theorem Qr3 : @f126 R = @f126d R := Q2
def Qa1 (k : Nat) (rec x0 : Int → zL3 → Option R) (c0 c2 c3 c4 c5 c6 c7 c8 : Int) (c9 : ByteArray) (c10 : List Int) (c11 : Int) (c12 : zL5) (c13 c14 c15 c16 : Int) (c17 : ByteArray) (c18 : List Int) (c19 : zL5) (c20 c21 c22 c23 : Int) (c24 : List Bool) (c25 : Int) (c26 c27 : Nat) (c28 : List Bool) (c29 : Int) (c30 c31 : zL1) (c1 : Int) (c32 : zL3) : Option R :=
 (bif (decide (c1 < (c31.length : Int)) == true) then (bif (decide (0 ≤ c1) && decide (c1 < (c31.length : Int))) then (bif ((c31.getD (Int.toNat c1) ((0 : Int), (zD0, ()))).1 == c0) then (bif (decide (0 ≤ c1) && decide (c1 < (c31.length : Int))) then (bif decide (c32.length + ([((((c31.getD (Int.toNat c1) ((0 : Int), (zD0, ()))).2).1).1, (((((c31.getD (Int.toNat c1) ((0 : Int), (zD0, ()))).2).1).2).1, ((((((c31.getD (Int.toNat c1) ((0 : Int), (zD0, ()))).2).1).2).2).1, (((((((c31.getD (Int.toNat c1) ((0 : Int), (zD0, ()))).2).1).2).2).2).1, ((((((((c31.getD (Int.toNat c1) ((0 : Int), (zD0, ()))).2).1).2).2).2).2).1, (((((((((c31.getD (Int.toNat c1) ((0 : Int), (zD0, ()))).2).1).2).2).2).2).2).1, ((((((((((c31.getD (Int.toNat c1) ((0 : Int), (zD0, ()))).2).1).2).2).2).2).2).2).1, (((((((((((c31.getD (Int.toNat c1) ((0 : Int), (zD0, ()))).2).1).2).2).2).2).2).2).2).1, ((((((((((((c31.getD (Int.toNat c1) ((0 : Int), (zD0, ()))).2).1).2).2).2).2).2).2).2).2).1, ())))))))))] : zL3).length ≤ LIM 112) then (rec (IntKind.i64.wrap (c1 + 1)) (c32 ++ ([((((c31.getD (Int.toNat c1) ((0 : Int), (zD0, ()))).2).1).1, (((((c31.getD (Int.toNat c1) ((0 : Int), (zD0, ()))).2).1).2).1, ((((((c31.getD (Int.toNat c1) ((0 : Int), (zD0, ()))).2).1).2).2).1, (((((((c31.getD (Int.toNat c1) ((0 : Int), (zD0, ()))).2).1).2).2).2).1, ((((((((c31.getD (Int.toNat c1) ((0 : Int), (zD0, ()))).2).1).2).2).2).2).1, (((((((((c31.getD (Int.toNat c1) ((0 : Int), (zD0, ()))).2).1).2).2).2).2).2).1, ((((((((((c31.getD (Int.toNat c1) ((0 : Int), (zD0, ()))).2).1).2).2).2).2).2).2).1, (((((((((((c31.getD (Int.toNat c1) ((0 : Int), (zD0, ()))).2).1).2).2).2).2).2).2).2).1, ((((((((((((c31.getD (Int.toNat c1) ((0 : Int), (zD0, ()))).2).1).2).2).2).2).2).2).2).2).1, ())))))))))] : zL3))) else none) else none) else (x0 c1 c32)) else none) else (x0 c1 c32))
def Q27 (k : Nat) (x0 : Int → zL3 → Option R) (c0 c2 c3 c4 c5 c6 c7 c8 : Int) (c9 : ByteArray) (c10 : List Int) (c11 : Int) (c12 : zL5) (c13 c14 c15 c16 : Int) (c17 : ByteArray) (c18 : List Int) (c19 : zL5) (c20 c21 c22 c23 : Int) (c24 : List Bool) (c25 : Int) (c26 c27 : Nat) (c28 : List Bool) (c29 : Int) (c30 c31 : zL1) : Nat → Int → zL3 → Option R
 | 0, _, _ => none
 | m + 1, c1, c32 => Qa1 k (Q27 k x0 c0 c2 c3 c4 c5 c6 c7 c8 c9 c10 c11 c12 c13 c14 c15 c16 c17 c18 c19 c20 c21 c22 c23 c24 c25 c26 c27 c28 c29 c30 c31 m) x0 c0 c2 c3 c4 c5 c6 c7 c8 c9 c10 c11 c12 c13 c14 c15 c16 c17 c18 c19 c20 c21 c22 c23 c24 c25 c26 c27 c28 c29 c30 c31 c1 c32
def Qfk := hid (@Q27 R)
theorem Q83 : @Qfk R = @Q27 R := Q2
def Qmr (k : Nat) (a0 a1 a2 a3 a4 a5 a6 a7 : Int) (a8 : ByteArray) (a9 : List Int) (a10 : Int) (a11 : zL5) (a12 a13 a14 a15 : Int) (a16 : ByteArray) (a17 : List Int) (a18 : zL5) (a19 a20 a21 a22 : Int) (a23 : List Bool) (a24 : Int) (a25 a26 : Nat) (a27 : List Bool) (a28 : Int) (a29 a30 : zL1) (K : zK17 R) : Option R := match k with
 | 0 => none
 | k + 1 => (Qfk k (fun p0 p31 => (bif (decide (0 ≤ p0) && decide (p0 ≤ (a30.length : Int))) then (K a1 a2 a3 a4 a5 a6 a7 a8 a9 a10 a11 a12 a13 a14 a15 a16 a17 a18 a19 a20 a21 a22 a23 a24 a25 a26 a27 a28 (Int.toNat p0) (a30.length - (Int.toNat p0)) a29 a30 p31) else none)) a0 a1 a2 a3 a4 a5 a6 a7 a8 a9 a10 a11 a12 a13 a14 a15 a16 a17 a18 a19 a20 a21 a22 a23 a24 a25 a26 a27 a28 a29 a30 k 0 ([] : zL2))
def f126v1 := hid (@Qmr R)
theorem Qdg : @f126v1 R = @Qmr R := Q2
def Q9w (k : Nat) (xN : Bool → Option R) (c0 : Int) (c1 : Bool) : Option R :=
 (bif c1 then (xN c1) else (xN (c0 == 3)))
def Qfe := hid (@Q9w R)
theorem Q7x : @Qfe R = @Q9w R := Q2
def f121d (k : Nat) (a0 a1 : Int) (a2 : ByteArray) (a3 : List Int) (a4 : zL5) (a5 a6 a7 a8 a9 a10 : Int) (a11 : ByteArray) (a12 a13 a14 : Int) (a15 : List Int) (a16 : zL5) (a17 : Bool) (K : Bool → Option R) : Option R := match k with
 | 0 => none
 | k + 1 => (Qfe k (fun p1 => (bif p1 then (bif (decide (a5 ≥ 0) == true) then (bif ((a12 != a5) == false) then (bif ((a13 != a6) == false) then (bif decide (a12 < (a3.length : Int)) then (K true) else (bif ((a9 == 1) == true) then (bif ((!(a2.toList == (⟨#[]⟩ : ByteArray).toList)) == true) then (K (!(a11.toList == a2.toList))) else (K false)) else (K false))) else (K true)) else (K true)) else (bif decide (a12 < (a3.length : Int)) then (K true) else (bif ((a9 == 1) == true) then (bif ((!(a2.toList == (⟨#[]⟩ : ByteArray).toList)) == true) then (K (!(a11.toList == a2.toList))) else (K false)) else (K false)))) else (bif (a9 == 2) then (bif (decide (a5 ≥ 0) == true) then (K (decide (IntKind.i64.wrap (a14 + (a15.length : Int)) > a5))) else (K false)) else (K false)))) a9 (a9 == 1))
def f121 := hid (@f121d R)
theorem Qqy : @f121 R = @f121d R := Q2
def Q10l (k : Nat) (rec : Int → Option R) (K : Bool → Option R) (x0 : Option R) (c0 : zL5) (c1 c2 : Int) : Option R :=
 (bif decide (c2 < (c0.length : Int)) then (bif (decide (0 ≤ c2) && decide (c2 < (c0.length : Int))) then (bif (decide ((c0.getD (Int.toNat c2) ((0 : Int), ((0 : Int), ()))).1 ≤ c1) == true) then (bif (decide (0 ≤ c2) && decide (c2 < (c0.length : Int))) then (bif decide (c1 < ((c0.getD (Int.toNat c2) ((0 : Int), ((0 : Int), ()))).2).1) then (K true) else (rec (IntKind.i64.wrap (c2 + 1)))) else none) else (rec (IntKind.i64.wrap (c2 + 1)))) else none) else x0)
def Q8l (k : Nat) (K : Bool → Option R) (x0 : Option R) (c0 : zL5) (c1 : Int) : Nat → Int → Option R
 | 0, _ => none
 | m + 1, c2 => Q10l k (Q8l k K x0 c0 c1 m) K x0 c0 c1 c2
def f97_0 := hid (@Q8l R)
theorem Qjh : @f97_0 R = @Q8l R := Q2
def f97d (k : Nat) (a0 : zL5) (a1 : Int) (K : Bool → Option R) : Option R := match k with
 | 0 => none
 | k + 1 => (f97_0 k K (K false) a0 a1 k 0)
def f97 := hid (@f97d R)
theorem Q10m : @f97 R = @f97d R := Q2
def Q6h (k : Nat) (xN : Int → Int → Int → Int → Option R) (c0 c1 : zL5) (c2 c3 : Int) (c4 : Bool) : Option R :=
 (bif c4 then (bif (decide (0 ≤ c2) && decide (c2 < (c0.length : Int))) then (xN (IntKind.i64.wrap (c2 + 1)) c3 ((c0.getD (Int.toNat c2) ((0 : Int), ((0 : Int), ()))).1) (((c0.getD (Int.toNat c2) ((0 : Int), ((0 : Int), ()))).2).1)) else none) else (bif (decide (0 ≤ c3) && decide (c3 < (c1.length : Int))) then (xN c2 (IntKind.i64.wrap (c3 + 1)) ((c1.getD (Int.toNat c3) ((0 : Int), ((0 : Int), ()))).1) (((c1.getD (Int.toNat c3) ((0 : Int), ((0 : Int), ()))).2).1)) else none))
def Q4i := hid (@Q6h R)
theorem Q3g : @Q4i R = @Q6h R := Q2
def Q6i (k : Nat) (xN : zL6 → Option R) (c4 : Int) (c5 : Bool) (c6 : zL6) (c7 c8 : Int) : Option R :=
 (bif c5 then (bif (decide (0 ≤ IntKind.i64.wrap (c4 - 1)) && decide (IntKind.i64.wrap (c4 - 1) < (c6.length : Int))) then (bif (decide (0 ≤ IntKind.i64.wrap (c4 - 1)) && decide (IntKind.i64.wrap (c4 - 1) < (c6.length : Int))) then (xN (c6.set (Int.toNat (IntKind.i64.wrap (c4 - 1))) ((c6.getD (Int.toNat (IntKind.i64.wrap (c4 - 1))) ((0 : Int), ((0 : Int), ()))).1, ((if ((c6.getD (Int.toNat (IntKind.i64.wrap (c4 - 1))) ((0 : Int), ((0 : Int), ()))).2).1 < c8 then c8 else ((c6.getD (Int.toNat (IntKind.i64.wrap (c4 - 1))) ((0 : Int), ((0 : Int), ()))).2).1), ())))) else none) else none) else (bif decide (c6.length + ([(c7, (c8, ()))] : zL6).length ≤ LIM 16) then (xN (c6 ++ ([(c7, (c8, ()))] : zL6))) else none))
def Q1n := hid (@Q6i R)
theorem Q3h : @Q1n R = @Q6i R := Q2
def Qjf (k : Nat) (rec : Int → Int → zL6 → Option R) (x0 : zL6 → Option R) (c0 c1 : zL5) (c2 c3 : Int) (c4 : zL6) : Option R :=
 (bif (decide (c2 < (c0.length : Int)) == false) then (bif decide (c3 < (c1.length : Int)) then (bif ((c3 == (c1.length : Int)) == false) then (bif (decide (c2 < (c0.length : Int)) == true) then (bif (decide (0 ≤ c2) && decide (c2 < (c0.length : Int))) then (bif (decide (0 ≤ c3) && decide (c3 < (c1.length : Int))) then (Q4i k (fun y6_N_2 y6_N_3 y6_N_5 y6_N_6 => (bif (decide ((c4.length : Int) > 0) == true) then (bif (decide (0 ≤ IntKind.i64.wrap ((c4.length : Int) - 1)) && decide (IntKind.i64.wrap ((c4.length : Int) - 1) < (c4.length : Int))) then (Q1n k (fun y12_N_4 => (rec y6_N_2 y6_N_3 y12_N_4)) (c4.length : Int) (decide (y6_N_5 ≤ ((c4.getD (Int.toNat (IntKind.i64.wrap ((c4.length : Int) - 1))) ((0 : Int), ((0 : Int), ()))).2).1)) c4 y6_N_5 y6_N_6) else none) else (Q1n k (fun y12_N_4 => (rec y6_N_2 y6_N_3 y12_N_4)) (c4.length : Int) false c4 y6_N_5 y6_N_6))) c0 c1 c2 c3 (decide ((c0.getD (Int.toNat c2) ((0 : Int), ((0 : Int), ()))).1 ≤ (c1.getD (Int.toNat c3) ((0 : Int), ((0 : Int), ()))).1))) else none) else none) else (Q4i k (fun y6_N_2 y6_N_3 y6_N_5 y6_N_6 => (bif (decide ((c4.length : Int) > 0) == true) then (bif (decide (0 ≤ IntKind.i64.wrap ((c4.length : Int) - 1)) && decide (IntKind.i64.wrap ((c4.length : Int) - 1) < (c4.length : Int))) then (Q1n k (fun y12_N_4 => (rec y6_N_2 y6_N_3 y12_N_4)) (c4.length : Int) (decide (y6_N_5 ≤ ((c4.getD (Int.toNat (IntKind.i64.wrap ((c4.length : Int) - 1))) ((0 : Int), ((0 : Int), ()))).2).1)) c4 y6_N_5 y6_N_6) else none) else (Q1n k (fun y12_N_4 => (rec y6_N_2 y6_N_3 y12_N_4)) (c4.length : Int) false c4 y6_N_5 y6_N_6))) c0 c1 c2 c3 false)) else (Q4i k (fun y6_N_2 y6_N_3 y6_N_5 y6_N_6 => (bif (decide ((c4.length : Int) > 0) == true) then (bif (decide (0 ≤ IntKind.i64.wrap ((c4.length : Int) - 1)) && decide (IntKind.i64.wrap ((c4.length : Int) - 1) < (c4.length : Int))) then (Q1n k (fun y12_N_4 => (rec y6_N_2 y6_N_3 y12_N_4)) (c4.length : Int) (decide (y6_N_5 ≤ ((c4.getD (Int.toNat (IntKind.i64.wrap ((c4.length : Int) - 1))) ((0 : Int), ((0 : Int), ()))).2).1)) c4 y6_N_5 y6_N_6) else none) else (Q1n k (fun y12_N_4 => (rec y6_N_2 y6_N_3 y12_N_4)) (c4.length : Int) false c4 y6_N_5 y6_N_6))) c0 c1 c2 c3 true)) else (x0 c4)) else (bif ((c3 == (c1.length : Int)) == false) then (bif (decide (c2 < (c0.length : Int)) == true) then (bif (decide (0 ≤ c2) && decide (c2 < (c0.length : Int))) then (bif (decide (0 ≤ c3) && decide (c3 < (c1.length : Int))) then (Q4i k (fun y6_N_2 y6_N_3 y6_N_5 y6_N_6 => (bif (decide ((c4.length : Int) > 0) == true) then (bif (decide (0 ≤ IntKind.i64.wrap ((c4.length : Int) - 1)) && decide (IntKind.i64.wrap ((c4.length : Int) - 1) < (c4.length : Int))) then (Q1n k (fun y12_N_4 => (rec y6_N_2 y6_N_3 y12_N_4)) (c4.length : Int) (decide (y6_N_5 ≤ ((c4.getD (Int.toNat (IntKind.i64.wrap ((c4.length : Int) - 1))) ((0 : Int), ((0 : Int), ()))).2).1)) c4 y6_N_5 y6_N_6) else none) else (Q1n k (fun y12_N_4 => (rec y6_N_2 y6_N_3 y12_N_4)) (c4.length : Int) false c4 y6_N_5 y6_N_6))) c0 c1 c2 c3 (decide ((c0.getD (Int.toNat c2) ((0 : Int), ((0 : Int), ()))).1 ≤ (c1.getD (Int.toNat c3) ((0 : Int), ((0 : Int), ()))).1))) else none) else none) else (Q4i k (fun y6_N_2 y6_N_3 y6_N_5 y6_N_6 => (bif (decide ((c4.length : Int) > 0) == true) then (bif (decide (0 ≤ IntKind.i64.wrap ((c4.length : Int) - 1)) && decide (IntKind.i64.wrap ((c4.length : Int) - 1) < (c4.length : Int))) then (Q1n k (fun y12_N_4 => (rec y6_N_2 y6_N_3 y12_N_4)) (c4.length : Int) (decide (y6_N_5 ≤ ((c4.getD (Int.toNat (IntKind.i64.wrap ((c4.length : Int) - 1))) ((0 : Int), ((0 : Int), ()))).2).1)) c4 y6_N_5 y6_N_6) else none) else (Q1n k (fun y12_N_4 => (rec y6_N_2 y6_N_3 y12_N_4)) (c4.length : Int) false c4 y6_N_5 y6_N_6))) c0 c1 c2 c3 false)) else (Q4i k (fun y6_N_2 y6_N_3 y6_N_5 y6_N_6 => (bif (decide ((c4.length : Int) > 0) == true) then (bif (decide (0 ≤ IntKind.i64.wrap ((c4.length : Int) - 1)) && decide (IntKind.i64.wrap ((c4.length : Int) - 1) < (c4.length : Int))) then (Q1n k (fun y12_N_4 => (rec y6_N_2 y6_N_3 y12_N_4)) (c4.length : Int) (decide (y6_N_5 ≤ ((c4.getD (Int.toNat (IntKind.i64.wrap ((c4.length : Int) - 1))) ((0 : Int), ((0 : Int), ()))).2).1)) c4 y6_N_5 y6_N_6) else none) else (Q1n k (fun y12_N_4 => (rec y6_N_2 y6_N_3 y12_N_4)) (c4.length : Int) false c4 y6_N_5 y6_N_6))) c0 c1 c2 c3 true)))
def Q2c (k : Nat) (x0 : zL6 → Option R) (c0 c1 : zL5) : Nat → Int → Int → zL6 → Option R
 | 0, _, _, _ => none
 | m + 1, c2, c3, c4 => Qjf k (Q2c k x0 c0 c1 m) x0 c0 c1 c2 c3 c4
def f89_0 := hid (@Q2c R)
theorem Qje : @f89_0 R = @Q2c R := Q2
def f89d (k : Nat) (a0 a1 : zL5) (K : zL6 → Option R) : Option R := match k with
 | 0 => none
 | k + 1 => (f89_0 k (fun p0 => (K p0)) a0 a1 k 0 0 ([] : zL5))
def f89 := hid (@f89d R)
theorem Q10e : @f89 R = @f89d R := Q2
def Qmj (k : Nat) (rec x0 : List Int → Option R) (c0 c1 c2 : Int) (c3 : ByteArray) (c4 : List Int) (c5 : zL5) (c6 c7 c8 c9 c10 c11 : Int) (c12 : ByteArray) (c13 c14 c15 : Int) (c16 : List Int) (c17 : zL5) (c18 : Bool) (c19 : List Int) : Option R :=
 (bif decide ((c19.length : Int) < c0) then (bif decide (c19.length + ([0] : List Int).length ≤ LIM 1) then (rec (c19 ++ ([0] : List Int))) else none) else (x0 c19))
def Q4b (k : Nat) (x0 : List Int → Option R) (c0 c1 c2 : Int) (c3 : ByteArray) (c4 : List Int) (c5 : zL5) (c6 c7 c8 c9 c10 c11 : Int) (c12 : ByteArray) (c13 c14 c15 : Int) (c16 : List Int) (c17 : zL5) (c18 : Bool) : Nat → List Int → Option R
 | 0, _ => none
 | m + 1, c19 => Qmj k (Q4b k x0 c0 c1 c2 c3 c4 c5 c6 c7 c8 c9 c10 c11 c12 c13 c14 c15 c16 c17 c18 m) x0 c0 c1 c2 c3 c4 c5 c6 c7 c8 c9 c10 c11 c12 c13 c14 c15 c16 c17 c18 c19
def Qyg := hid (@Q4b R)
theorem Qd9 : @Qyg R = @Q4b R := Q2
def Q9x (k : Nat) (xN : Bool → List Int → Option R) (c1 : Bool) (c2 : Int) (c3 : Bool) (c18 : Int) (c19 c22 : List Int) : Option R :=
 (bif c3 then (bif (decide (0 ≤ IntKind.i64.wrap (c2 - c18)) && decide (IntKind.i64.wrap (c2 - c18) < (c19.length : Int))) then (bif (decide (0 ≤ c2) && decide (c2 < (c22.length : Int))) then (xN true (c22.set (Int.toNat c2) (c19.getD (Int.toNat (IntKind.i64.wrap (c2 - c18))) 0))) else none) else none) else (xN c1 c22))
def Qff := hid (@Q9x R)
theorem Q7y : @Qff R = @Q9x R := Q2
def Qmk (k : Nat) (rec : Bool → Int → List Int → Option R) (x2 : Bool → List Int → Option R) (c0 c3 c4 : Int) (c5 : ByteArray) (c6 : List Int) (c7 : zL5) (c8 c9 c10 c11 c12 c13 : Int) (c14 : ByteArray) (c15 c16 c17 : Int) (c18 : List Int) (c19 : zL5) (c20 c1 : Bool) (c2 : Int) (c21 : List Int) : Option R :=
 (bif decide (c2 < c0) then (f97 k c7 c2 (fun r0_0 => (Qff k (fun p1 p21 => (rec p1 (IntKind.i64.wrap (c2 + 1)) p21)) c1 c2 (!r0_0) c17 c18 c21))) else (x2 c1 c21))
def Q4c (k : Nat) (x2 : Bool → List Int → Option R) (c0 c3 c4 : Int) (c5 : ByteArray) (c6 : List Int) (c7 : zL5) (c8 c9 c10 c11 c12 c13 : Int) (c14 : ByteArray) (c15 c16 c17 : Int) (c18 : List Int) (c19 : zL5) (c20 : Bool) : Nat → Bool → Int → List Int → Option R
 | 0, _, _, _ => none
 | m + 1, c1, c2, c21 => Qmk k (Q4c k x2 c0 c3 c4 c5 c6 c7 c8 c9 c10 c11 c12 c13 c14 c15 c16 c17 c18 c19 c20 m) x2 c0 c3 c4 c5 c6 c7 c8 c9 c10 c11 c12 c13 c14 c15 c16 c17 c18 c19 c20 c1 c2 c21
def Qyh := hid (@Q4c R)
theorem Qda : @Qyh R = @Q4c R := Q2
def Q9y (k : Nat) (xN : Int → Option R) (c0 : Bool) (c7 : Int) : Option R :=
 (bif c0 then (xN 0) else (xN c7))
def Q92 := hid (@Q9y R)
theorem Q7z : @Q92 R = @Q9y R := Q2
def f122d (k : Nat) (a0 a1 : Int) (a2 : ByteArray) (a3 a4 a5 : Int) (a6 : List Int) (a7 : zL5) (a8 : Bool) (a9 a10 : Int) (a11 : ByteArray) (a12 : List Int) (a13 : zL5) (a14 a15 a16 a17 : Int) (K : zK18 R) : Option R := match k with
 | 0 => none
 | k + 1 => (bif decide (a12.length ≤ LIM 1) then (Qyg k (fun y0_0_19 => (Qyh k (fun y2_2_1 y2_2_20 => (f89 k a13 ([(a5, (IntKind.i64.wrap (a5 + (a6.length : Int)), ()))] : zL6) (fun r0_0 => (Q92 k (fun y16_N_6 => (K a9 a10 a11 a14 a15 a16 y16_N_6 y2_2_20 r0_0)) y2_2_1 a17)))) (IntKind.i64.wrap (a5 + (a6.length : Int))) a9 a10 a11 a12 a13 a14 a15 a16 a17 a0 a1 a2 a3 a4 a5 a6 a7 a8 k false a5 y0_0_19)) (IntKind.i64.wrap (a5 + (a6.length : Int))) a9 a10 a11 a12 a13 a14 a15 a16 a17 a0 a1 a2 a3 a4 a5 a6 a7 a8 k a12) else none)
def f122 := hid (@f122d R)
theorem Qqz : @f122 R = @f122d R := Q2
def Qfv (k : Nat) (xN : zL6 → Option R) (c0 : zL5) (c2 c3 : Int) (c4 : Bool) (c5 : zL6) : Option R :=
 (bif c4 then (bif (decide (0 ≤ c3) && decide (c3 < (c0.length : Int))) then (bif decide (c5.length + ([(c2, ((c0.getD (Int.toNat c3) ((0 : Int), ((0 : Int), ()))).1, ()))] : zL6).length ≤ LIM 16) then (xN (c5 ++ ([(c2, ((c0.getD (Int.toNat c3) ((0 : Int), ((0 : Int), ()))).1, ()))] : zL6))) else none) else none) else (xN c5))
def Qmz := hid (@Qfv R)
theorem Qab : @Qmz R = @Qfv R := Q2
def Q10c (k : Nat) (rec : Int → Int → zL6 → Option R) (x0 : Int → zL6 → Option R) (c0 : zL5) (c1 c2 c3 : Int) (c4 : zL6) : Option R :=
 (bif decide (c3 < (c0.length : Int)) then (bif (decide (0 ≤ c3) && decide (c3 < (c0.length : Int))) then (Qmz k (fun p3 => (bif (decide (0 ≤ c3) && decide (c3 < (c0.length : Int))) then (rec (((c0.getD (Int.toNat c3) ((0 : Int), ((0 : Int), ()))).2).1) (IntKind.i64.wrap (c3 + 1)) p3) else none)) c0 c2 c3 (decide ((c0.getD (Int.toNat c3) ((0 : Int), ((0 : Int), ()))).1 > c2)) c4) else none) else (x0 c2 c4))
def Q8j (k : Nat) (x0 : Int → zL6 → Option R) (c0 : zL5) (c1 : Int) : Nat → Int → Int → zL6 → Option R
 | 0, _, _, _ => none
 | m + 1, c2, c3, c4 => Q10c k (Q8j k x0 c0 c1 m) x0 c0 c1 c2 c3 c4
def f88_0 := hid (@Q8j R)
theorem Qjd : @f88_0 R = @Q8j R := Q2
def Qfw (k : Nat) (xN : zL6 → Option R) (c0 c1 : Int) (c2 : Bool) (c3 : zL6) : Option R :=
 (bif c2 then (bif decide (c3.length + ([(c1, (c0, ()))] : zL6).length ≤ LIM 16) then (xN (c3 ++ ([(c1, (c0, ()))] : zL6))) else none) else (xN c3))
def Qn0 := hid (@Qfw R)
theorem Qac : @Qn0 R = @Qfw R := Q2
def f88d (k : Nat) (a0 : zL5) (a1 : Int) (K : zL6 → Option R) : Option R := match k with
 | 0 => none
 | k + 1 => (f88_0 k (fun y0_0_1 y0_0_2 => (Qn0 k (fun y10_N_0 => (K y10_N_0)) a1 y0_0_1 (decide (y0_0_1 < a1)) y0_0_2)) a0 a1 k 0 0 ([] : zL5))
def f88 := hid (@f88d R)
theorem Q10d : @f88 R = @f88d R := Q2
def f106d (k : Nat) (K : Int → Int → Option R) : Option R := match k with
 | 0 => none
 | k + 1 => (K (-1) 0)
def f106 := hid (@f106d R)
theorem Qf6 : @f106 R = @f106d R := Q2
def Q6d (k : Nat) (xN : zL6 → Option R) (c1 : Bool) : Option R :=
 (bif c1 then (f106 k (fun r0_0 r0_1 => (bif decide (([(r0_0, (r0_1, ()))] : zL6).length ≤ LIM 16) then (xN ([(r0_0, (r0_1, ()))] : zL6)) else none))) else (xN ([] : zL5)))
def Qfa := hid (@Q6d R)
theorem Q49 : @Qfa R = @Q6d R := Q2
def f118d (k : Nat) (a0 : Bool) (a1 : zL5) (K : zL6 → Option R) : Option R := match k with
 | 0 => none
 | k + 1 => (Qfa k (fun p1 => (bif decide (p1.length + a1.length ≤ LIM 16) then (K (p1 ++ a1)) else none)) a0)
def f118 := hid (@f118d R)
theorem Qfb : @f118 R = @f118d R := Q2
def f113d (k : Nat) (a0 a1 : Int) (a2 : ByteArray) (a3 : List Int) (a4 : zL5) (a5 a6 a7 a8 : Int) (K : Bool → zL6 → Option R) : Option R := match k with
 | 0 => none
 | k + 1 => (bif decide (a5 < 0) then (K false ([] : zL5)) else (f88 k a4 a5 (fun r0_0 => (f118 k (a2.toList == (⟨#[]⟩ : ByteArray).toList) r0_0 (fun r1_0 => (K true r1_0))))))
def f113 := hid (@f113d R)
theorem Qqs : @f113 R = @f113d R := Q2
def f98d (k : Nat) (a0 a1 : Int) (a2 : ByteArray) (a3 : List Int) (a4 : zL5) (a5 a6 a7 a8 : Int) (K : Bool → Option R) : Option R := match k with
 | 0 => none
 | k + 1 => (f113 k a0 a1 a2 a3 a4 a5 a6 a7 a8 (fun r0_0 r0_1 => (bif (r0_0 == true) then (K ((r0_1.length : Int) == 0)) else (K false))))
def f98 := hid (@f98d R)
theorem Q10n : @f98 R = @f98d R := Q2
def Qzk (k : Nat) (rec : Int → Int → Option R) (x0 : Int → Option R) (c0 : List Int) (c1 c2 : Int) : Option R :=
 (bif decide (c2 < (c0.length : Int)) then (bif (decide (0 ≤ c2) && decide (c2 < (c0.length : Int))) then (bif decide (0 ≤ IntKind.u64.wrap (IntKind.i64.wrap (24 - (IntKind.i64.wrap (8 * (Int.tmod c2 4)))))) then (rec (IntKind.i64.wrap (c1 + (IntKind.i64.wrap ((IntKind.i64.wrap (c0.getD (Int.toNat c2) 0)) * 2 ^ min (Int.toNat (IntKind.u64.wrap (IntKind.i64.wrap (24 - (IntKind.i64.wrap (8 * (Int.tmod c2 4))))))) 64)))) (IntKind.i64.wrap (c2 + 1))) else none) else none) else (x0 c1))
def Q8c (k : Nat) (x0 : Int → Option R) (c0 : List Int) : Nat → Int → Int → Option R
 | 0, _, _ => none
 | m + 1, c1, c2 => Qzk k (Q8c k x0 c0 m) x0 c0 c1 c2
def f65_0 := hid (@Q8c R)
theorem Qj4 : @f65_0 R = @Q8c R := Q2
def f65d (k : Nat) (a0 : List Int) (K : Int → Option R) : Option R := match k with
 | 0 => none
 | k + 1 => (f65_0 k (fun p0 => (K (Int.tmod p0 4294967296))) a0 k 0 0)
def f65 := hid (@f65d R)
theorem Qzl : @f65 R = @f65d R := Q2
def f75d (k : Nat) (a0 : zL5) (K : Bool → zL5 → Option R) : Option R := match k with
 | 0 => none
 | k + 1 => (bif (decide ((a0.length : Int) > 0) == true) then (bif decide (0 < (a0.length : Int)) then (f106 k (fun r0_0 r0_1 => (bif ((((a0.getD 0 ((0 : Int), ((0 : Int), ()))).1, (((a0.getD 0 ((0 : Int), ((0 : Int), ()))).2).1, ())).1 == (r0_0, (r0_1, ())).1) && (((((a0.getD 0 ((0 : Int), ((0 : Int), ()))).1, (((a0.getD 0 ((0 : Int), ((0 : Int), ()))).2).1, ())).2).1 == ((r0_0, (r0_1, ())).2).1) && true)) then (bif decide (1 ≤ (a0.length : Int)) then (K true (a0.drop 1)) else none) else (K false a0)))) else none) else (K false a0))
def f75 := hid (@f75d R)
theorem Qzx : @f75 R = @f75d R := Q2
def Qg9 (k : Nat) (xN : zL3 → Option R) (c0 : Bool) (c2 : Int) : Option R :=
 (bif c0 then (bif decide (([((5 : Int), (c2, ((⟨#[]⟩ : ByteArray), ((0 : Int), ((0 : Int), ((0 : Int), (([] : List Int), (([] : zL5), (true, ())))))))))] : zL3).length ≤ LIM 112) then (xN ([((5 : Int), (c2, ((⟨#[]⟩ : ByteArray), ((0 : Int), ((0 : Int), ((0 : Int), (([] : List Int), (([] : zL5), (true, ())))))))))] : zL3)) else none) else (xN ([] : zL2)))
def Q7c := hid (@Qg9 R)
theorem Qap : @Q7c R = @Qg9 R := Q2
def Q97 (k : Nat) (xN : zL3 → Option R) (c0 : Bool) (c2 : Int) : Option R :=
 (bif c0 then (bif decide (([((6 : Int), (c2, ((⟨#[]⟩ : ByteArray), ((0 : Int), ((0 : Int), ((0 : Int), (([] : List Int), (([] : zL5), (false, ())))))))))] : zL3).length ≤ LIM 112) then (xN ([((6 : Int), (c2, ((⟨#[]⟩ : ByteArray), ((0 : Int), ((0 : Int), ((0 : Int), (([] : List Int), (([] : zL5), (false, ())))))))))] : zL3)) else none) else (xN ([] : zL2)))
def Q2z := hid (@Q97 R)
theorem Q5q : @Q2z R = @Q97 R := Q2
def Q98 (k : Nat) (xN : ByteArray → Option R) (c0 : Bool) (c8 c17 : ByteArray) : Option R :=
 (bif c0 then (xN c17) else (xN c8))
def Qn8 := hid (@Q98 R)
theorem Q5r : @Qn8 R = @Q98 R := Q2
def Q6k (k : Nat) (xN : Int → Int → ByteArray → List Int → zL5 → Int → Int → Int → Int → Option R) (c0 : Bool) (c6 c7 : Int) (c8 : ByteArray) (c9 : List Int) (c10 : zL5) (c11 c12 c13 c14 c15 c16 : Int) (c17 : ByteArray) (c18 c19 c20 : Int) (c21 : List Int) (c22 : zL5) (c23 : Bool) : Option R :=
 (bif c0 then (f122 k c15 c16 c17 c18 c19 c20 c21 c22 c23 c6 c7 c8 c9 c10 c11 c12 c13 c14 (fun r0_0 r0_1 r0_2 r0_3 r0_4 r0_5 r0_6 r0_7 r0_8 => (xN r0_0 r0_1 r0_2 r0_7 r0_8 r0_3 r0_4 r0_5 r0_6))) else (Qn8 k (fun p7 => (xN c6 c7 p7 c9 c10 c18 c19 c13 c14)) (c15 == 1) c8 c17))
def Q7d := hid (@Q6k R)
theorem Q3j : @Q7d R = @Q6k R := Q2
def Q99 (k : Nat) (xN : Int → Option R) (c0 : Bool) (c6 : Int) : Option R :=
 (bif c0 then (xN 1) else (xN c6))
def Q5s := hid (@Q99 R)
theorem Qaq : @Q5s R = @Q99 R := Q2
def Qga (k : Nat) (xN : Int → Option R) (c1 : Bool) (c2 : Int) : Option R :=
 (bif c1 then (xN 3) else (xN c2))
def Q5t := hid (@Qga R)
theorem Qar : @Q5t R = @Qga R := Q2
def Qgb (k : Nat) (K : zK2 R) (xN : Int → Int → zL3 → Option R) (c0 : Bool) (c4 c6 c7 : Int) (c8 : ByteArray) (c9 : List Int) (c10 : zL5) (c11 c12 c13 c14 : Int) : Option R :=
 (bif c0 then (f113 k c6 c7 c8 c9 c10 c11 c12 c13 c14 (fun r0_0 r0_1 => (f75 k r0_1 (fun r1_0 r1_1 => (bif decide ((r1_1.length : Int) > 2000) then (K 0 0 (⟨#[]⟩ : ByteArray) ([] : List Int) ([] : zL5) 0 0 0 0 2 ([] : zL2)) else (bif decide (([((4 : Int), (c7, ((⟨#[]⟩ : ByteArray), ((0 : Int), ((0 : Int), ((0 : Int), (([] : List Int), (r0_1, (false, ())))))))))] : zL3).length ≤ LIM 112) then (xN 2 c4 ([((4 : Int), (c7, ((⟨#[]⟩ : ByteArray), ((0 : Int), ((0 : Int), ((0 : Int), (([] : List Int), (r0_1, (false, ())))))))))] : zL3)) else none)))))) else (xN c6 c13 ([] : zL2)))
def Q5u := hid (@Qgb R)
theorem Qas : @Q5u R = @Qgb R := Q2
def f93d (k : Nat) (a0 a1 a2 a3 a4 a5 a6 : Int) (a7 : ByteArray) (a8 : List Int) (a9 : zL5) (a10 a11 a12 a13 a14 a15 : Int) (a16 : ByteArray) (a17 a18 a19 : Int) (a20 : List Int) (a21 : zL5) (a22 : Bool) (K : zK2 R) : Option R := match k with
 | 0 => none
 | k + 1 => (bif ((a14 == 1) == false) then (bif ((a14 == 2) == false) then (bif ((a14 == 3) == false) then (bif ((a15 != a6) == false) then (bif ((!(a14 == 6)) == false) then (bif (a5 == 4) then (K a5 a6 a7 a8 a9 a10 a11 a12 a13 0 ([] : zL2)) else (bif (a5 == 3) then (Q7c k (fun y7_N_16 => (K a5 a6 a7 a8 a9 a10 a11 a12 a13 0 y7_N_16)) (a14 == 3) a6) else (bif ((a14 == 6) == false) then (f121 k a5 a6 a7 a8 a9 a10 a11 a12 a13 a14 a15 a16 a17 a18 a19 a20 a21 a22 (fun r0_0 => (bif r0_0 then (Q2z k (fun y12_N_16 => (K 4 a6 a7 a8 a9 a10 a11 0 a13 0 y12_N_16)) (a14 != 6) a6) else (Q7d k (fun y15_N_5 y15_N_6 y15_N_7 y15_N_8 y15_N_9 y15_N_10 y15_N_11 y15_N_12 y15_N_13 => (bif decide ((y15_N_9.length : Int) > 2000) then (K 0 0 (⟨#[]⟩ : ByteArray) ([] : List Int) ([] : zL5) 0 0 0 0 2 ([] : zL2)) else (Q5s k (fun y22_N_5 => (f98 k y22_N_5 y15_N_6 y15_N_7 y15_N_8 y15_N_9 y15_N_10 y15_N_11 y15_N_12 y15_N_13 (fun r1_0 => (bif r1_0 then (f65 k y15_N_8 (fun r2_0 => (Q5t k (fun y27_N_1 => (bif decide (([((5 : Int), (y15_N_6, ((⟨#[]⟩ : ByteArray), ((0 : Int), ((0 : Int), ((0 : Int), (([] : List Int), (([] : zL5), ((r2_0 == y15_N_11), ())))))))))] : zL3).length ≤ LIM 112) then (K y27_N_1 y15_N_6 y15_N_7 y15_N_8 y15_N_9 y15_N_10 y15_N_11 0 y15_N_13 0 ([((5 : Int), (y15_N_6, ((⟨#[]⟩ : ByteArray), ((0 : Int), ((0 : Int), ((0 : Int), (([] : List Int), (([] : zL5), ((r2_0 == y15_N_11), ())))))))))] : zL3)) else none)) (r2_0 == y15_N_11) 4))) else (Q5u k K (fun y30_N_0 y30_N_7 y30_N_16 => (K y30_N_0 y15_N_6 y15_N_7 y15_N_8 y15_N_9 y15_N_10 y15_N_11 y30_N_7 y15_N_13 0 y30_N_16)) (a14 == 3) a3 y22_N_5 y15_N_6 y15_N_7 y15_N_8 y15_N_9 y15_N_10 y15_N_11 y15_N_12 y15_N_13))))) (y15_N_5 == 0) y15_N_5))) (a14 == 2) a5 a6 a7 a8 a9 a10 a11 a12 a13 a14 a15 a16 a17 a18 a19 a20 a21 a22)))) else (Q2z k (fun y12_N_16 => (K 4 a6 a7 a8 a9 a10 a11 0 a13 0 y12_N_16)) (a14 != 6) a6)))) else (K a5 a6 a7 a8 a9 a10 a11 a12 a13 0 ([] : zL2))) else (K a5 a6 a7 a8 a9 a10 a11 a12 a13 0 ([] : zL2))) else (bif ((a15 != a6) == false) then (bif (a5 == 4) then (K a5 a6 a7 a8 a9 a10 a11 a12 a13 0 ([] : zL2)) else (bif (a5 == 3) then (Q7c k (fun y7_N_16 => (K a5 a6 a7 a8 a9 a10 a11 a12 a13 0 y7_N_16)) (a14 == 3) a6) else (bif ((a14 == 6) == false) then (f121 k a5 a6 a7 a8 a9 a10 a11 a12 a13 a14 a15 a16 a17 a18 a19 a20 a21 a22 (fun r0_0 => (bif r0_0 then (Q2z k (fun y12_N_16 => (K 4 a6 a7 a8 a9 a10 a11 0 a13 0 y12_N_16)) (a14 != 6) a6) else (Q7d k (fun y15_N_5 y15_N_6 y15_N_7 y15_N_8 y15_N_9 y15_N_10 y15_N_11 y15_N_12 y15_N_13 => (bif decide ((y15_N_9.length : Int) > 2000) then (K 0 0 (⟨#[]⟩ : ByteArray) ([] : List Int) ([] : zL5) 0 0 0 0 2 ([] : zL2)) else (Q5s k (fun y22_N_5 => (f98 k y22_N_5 y15_N_6 y15_N_7 y15_N_8 y15_N_9 y15_N_10 y15_N_11 y15_N_12 y15_N_13 (fun r1_0 => (bif r1_0 then (f65 k y15_N_8 (fun r2_0 => (Q5t k (fun y27_N_1 => (bif decide (([((5 : Int), (y15_N_6, ((⟨#[]⟩ : ByteArray), ((0 : Int), ((0 : Int), ((0 : Int), (([] : List Int), (([] : zL5), ((r2_0 == y15_N_11), ())))))))))] : zL3).length ≤ LIM 112) then (K y27_N_1 y15_N_6 y15_N_7 y15_N_8 y15_N_9 y15_N_10 y15_N_11 0 y15_N_13 0 ([((5 : Int), (y15_N_6, ((⟨#[]⟩ : ByteArray), ((0 : Int), ((0 : Int), ((0 : Int), (([] : List Int), (([] : zL5), ((r2_0 == y15_N_11), ())))))))))] : zL3)) else none)) (r2_0 == y15_N_11) 4))) else (Q5u k K (fun y30_N_0 y30_N_7 y30_N_16 => (K y30_N_0 y15_N_6 y15_N_7 y15_N_8 y15_N_9 y15_N_10 y15_N_11 y30_N_7 y15_N_13 0 y30_N_16)) (a14 == 3) a3 y22_N_5 y15_N_6 y15_N_7 y15_N_8 y15_N_9 y15_N_10 y15_N_11 y15_N_12 y15_N_13))))) (y15_N_5 == 0) y15_N_5))) (a14 == 2) a5 a6 a7 a8 a9 a10 a11 a12 a13 a14 a15 a16 a17 a18 a19 a20 a21 a22)))) else (Q2z k (fun y12_N_16 => (K 4 a6 a7 a8 a9 a10 a11 0 a13 0 y12_N_16)) (a14 != 6) a6)))) else (K a5 a6 a7 a8 a9 a10 a11 a12 a13 0 ([] : zL2)))) else (bif ((a15 != a6) == false) then (bif (a5 == 4) then (K a5 a6 a7 a8 a9 a10 a11 a12 a13 0 ([] : zL2)) else (bif (a5 == 3) then (Q7c k (fun y7_N_16 => (K a5 a6 a7 a8 a9 a10 a11 a12 a13 0 y7_N_16)) (a14 == 3) a6) else (bif ((a14 == 6) == false) then (f121 k a5 a6 a7 a8 a9 a10 a11 a12 a13 a14 a15 a16 a17 a18 a19 a20 a21 a22 (fun r0_0 => (bif r0_0 then (Q2z k (fun y12_N_16 => (K 4 a6 a7 a8 a9 a10 a11 0 a13 0 y12_N_16)) (a14 != 6) a6) else (Q7d k (fun y15_N_5 y15_N_6 y15_N_7 y15_N_8 y15_N_9 y15_N_10 y15_N_11 y15_N_12 y15_N_13 => (bif decide ((y15_N_9.length : Int) > 2000) then (K 0 0 (⟨#[]⟩ : ByteArray) ([] : List Int) ([] : zL5) 0 0 0 0 2 ([] : zL2)) else (Q5s k (fun y22_N_5 => (f98 k y22_N_5 y15_N_6 y15_N_7 y15_N_8 y15_N_9 y15_N_10 y15_N_11 y15_N_12 y15_N_13 (fun r1_0 => (bif r1_0 then (f65 k y15_N_8 (fun r2_0 => (Q5t k (fun y27_N_1 => (bif decide (([((5 : Int), (y15_N_6, ((⟨#[]⟩ : ByteArray), ((0 : Int), ((0 : Int), ((0 : Int), (([] : List Int), (([] : zL5), ((r2_0 == y15_N_11), ())))))))))] : zL3).length ≤ LIM 112) then (K y27_N_1 y15_N_6 y15_N_7 y15_N_8 y15_N_9 y15_N_10 y15_N_11 0 y15_N_13 0 ([((5 : Int), (y15_N_6, ((⟨#[]⟩ : ByteArray), ((0 : Int), ((0 : Int), ((0 : Int), (([] : List Int), (([] : zL5), ((r2_0 == y15_N_11), ())))))))))] : zL3)) else none)) (r2_0 == y15_N_11) 4))) else (Q5u k K (fun y30_N_0 y30_N_7 y30_N_16 => (K y30_N_0 y15_N_6 y15_N_7 y15_N_8 y15_N_9 y15_N_10 y15_N_11 y30_N_7 y15_N_13 0 y30_N_16)) (a14 == 3) a3 y22_N_5 y15_N_6 y15_N_7 y15_N_8 y15_N_9 y15_N_10 y15_N_11 y15_N_12 y15_N_13))))) (y15_N_5 == 0) y15_N_5))) (a14 == 2) a5 a6 a7 a8 a9 a10 a11 a12 a13 a14 a15 a16 a17 a18 a19 a20 a21 a22)))) else (Q2z k (fun y12_N_16 => (K 4 a6 a7 a8 a9 a10 a11 0 a13 0 y12_N_16)) (a14 != 6) a6)))) else (K a5 a6 a7 a8 a9 a10 a11 a12 a13 0 ([] : zL2)))) else (bif ((a15 != a6) == false) then (bif (a5 == 4) then (K a5 a6 a7 a8 a9 a10 a11 a12 a13 0 ([] : zL2)) else (bif (a5 == 3) then (Q7c k (fun y7_N_16 => (K a5 a6 a7 a8 a9 a10 a11 a12 a13 0 y7_N_16)) (a14 == 3) a6) else (bif ((a14 == 6) == false) then (f121 k a5 a6 a7 a8 a9 a10 a11 a12 a13 a14 a15 a16 a17 a18 a19 a20 a21 a22 (fun r0_0 => (bif r0_0 then (Q2z k (fun y12_N_16 => (K 4 a6 a7 a8 a9 a10 a11 0 a13 0 y12_N_16)) (a14 != 6) a6) else (Q7d k (fun y15_N_5 y15_N_6 y15_N_7 y15_N_8 y15_N_9 y15_N_10 y15_N_11 y15_N_12 y15_N_13 => (bif decide ((y15_N_9.length : Int) > 2000) then (K 0 0 (⟨#[]⟩ : ByteArray) ([] : List Int) ([] : zL5) 0 0 0 0 2 ([] : zL2)) else (Q5s k (fun y22_N_5 => (f98 k y22_N_5 y15_N_6 y15_N_7 y15_N_8 y15_N_9 y15_N_10 y15_N_11 y15_N_12 y15_N_13 (fun r1_0 => (bif r1_0 then (f65 k y15_N_8 (fun r2_0 => (Q5t k (fun y27_N_1 => (bif decide (([((5 : Int), (y15_N_6, ((⟨#[]⟩ : ByteArray), ((0 : Int), ((0 : Int), ((0 : Int), (([] : List Int), (([] : zL5), ((r2_0 == y15_N_11), ())))))))))] : zL3).length ≤ LIM 112) then (K y27_N_1 y15_N_6 y15_N_7 y15_N_8 y15_N_9 y15_N_10 y15_N_11 0 y15_N_13 0 ([((5 : Int), (y15_N_6, ((⟨#[]⟩ : ByteArray), ((0 : Int), ((0 : Int), ((0 : Int), (([] : List Int), (([] : zL5), ((r2_0 == y15_N_11), ())))))))))] : zL3)) else none)) (r2_0 == y15_N_11) 4))) else (Q5u k K (fun y30_N_0 y30_N_7 y30_N_16 => (K y30_N_0 y15_N_6 y15_N_7 y15_N_8 y15_N_9 y15_N_10 y15_N_11 y30_N_7 y15_N_13 0 y30_N_16)) (a14 == 3) a3 y22_N_5 y15_N_6 y15_N_7 y15_N_8 y15_N_9 y15_N_10 y15_N_11 y15_N_12 y15_N_13))))) (y15_N_5 == 0) y15_N_5))) (a14 == 2) a5 a6 a7 a8 a9 a10 a11 a12 a13 a14 a15 a16 a17 a18 a19 a20 a21 a22)))) else (Q2z k (fun y12_N_16 => (K 4 a6 a7 a8 a9 a10 a11 0 a13 0 y12_N_16)) (a14 != 6) a6)))) else (K a5 a6 a7 a8 a9 a10 a11 a12 a13 0 ([] : zL2))))
def f93 := hid (@f93d R)
theorem Q10j : @f93 R = @f93d R := Q2
def Q4g (k : Nat) (xN : zL1 → Option R) (c0 : zL2) (c1 c2 : Int) (c3 : Bool) (c31 : zL1) : Option R :=
 (bif c3 then (bif (decide (0 ≤ c2) && decide (c2 < (c0.length : Int))) then (bif decide (c31.length + ([(c1, (((c0.getD (Int.toNat c2) zD0).1, (((c0.getD (Int.toNat c2) zD0).2).1, ((((c0.getD (Int.toNat c2) zD0).2).2).1, (((((c0.getD (Int.toNat c2) zD0).2).2).2).1, ((((((c0.getD (Int.toNat c2) zD0).2).2).2).2).1, (((((((c0.getD (Int.toNat c2) zD0).2).2).2).2).2).1, ((((((((c0.getD (Int.toNat c2) zD0).2).2).2).2).2).2).1, (((((((((c0.getD (Int.toNat c2) zD0).2).2).2).2).2).2).2).1, ((((((((((c0.getD (Int.toNat c2) zD0).2).2).2).2).2).2).2).2).1, ()))))))))), ()))] : zL1).length ≤ LIM 120) then (xN (c31 ++ ([(c1, (((c0.getD (Int.toNat c2) zD0).1, (((c0.getD (Int.toNat c2) zD0).2).1, ((((c0.getD (Int.toNat c2) zD0).2).2).1, (((((c0.getD (Int.toNat c2) zD0).2).2).2).1, ((((((c0.getD (Int.toNat c2) zD0).2).2).2).2).1, (((((((c0.getD (Int.toNat c2) zD0).2).2).2).2).2).1, ((((((((c0.getD (Int.toNat c2) zD0).2).2).2).2).2).2).1, (((((((((c0.getD (Int.toNat c2) zD0).2).2).2).2).2).2).2).1, ((((((((((c0.getD (Int.toNat c2) zD0).2).2).2).2).2).2).2).2).1, ()))))))))), ()))] : zL1))) else none) else none) else (xN c31))
def Q94 := hid (@Q4g R)
theorem Q2r : @Q94 R = @Q4g R := Q2
def Qa2 (k : Nat) (rec : zK3 R) (x0 : Int → zL1 → Option R) (c0 : zL2) (c1 c3 c4 c5 c6 c7 c8 c9 : Int) (c10 : ByteArray) (c11 : List Int) (c12 : Int) (c13 : zL5) (c14 c15 c16 c17 : Int) (c18 : ByteArray) (c19 : List Int) (c20 : zL5) (c21 c22 c23 c24 : Int) (c25 : List Bool) (c26 : Int) (c27 : List Bool) (c29 : zL1) (c2 c28 : Int) (c30 : zL1) : Option R :=
 (bif decide (c2 < (c0.length : Int)) then (bif (decide (c28 ≥ (c27.length : Int)) == false) then (bif (decide (0 ≤ c28) && decide (c28 < (c27.length : Int))) then (Q94 k (fun p30 => (rec (IntKind.i64.wrap (c2 + 1)) (IntKind.i64.wrap (c28 + 1)) p30)) c0 c1 c2 (!(c27.getD (Int.toNat c28) false)) c30) else none) else (Q94 k (fun p30 => (rec (IntKind.i64.wrap (c2 + 1)) (IntKind.i64.wrap (c28 + 1)) p30)) c0 c1 c2 true c30)) else (x0 c28 c30))
def Q2y (k : Nat) (x0 : Int → zL1 → Option R) (c0 : zL2) (c1 c3 c4 c5 c6 c7 c8 c9 : Int) (c10 : ByteArray) (c11 : List Int) (c12 : Int) (c13 : zL5) (c14 c15 c16 c17 : Int) (c18 : ByteArray) (c19 : List Int) (c20 : zL5) (c21 c22 c23 c24 : Int) (c25 : List Bool) (c26 : Int) (c27 : List Bool) (c29 : zL1) : Nat → Int → Int → zL1 → Option R
 | 0, _, _, _ => none
 | m + 1, c2, c28, c30 => Qa2 k (Q2y k x0 c0 c1 c3 c4 c5 c6 c7 c8 c9 c10 c11 c12 c13 c14 c15 c16 c17 c18 c19 c20 c21 c22 c23 c24 c25 c26 c27 c29 m) x0 c0 c1 c3 c4 c5 c6 c7 c8 c9 c10 c11 c12 c13 c14 c15 c16 c17 c18 c19 c20 c21 c22 c23 c24 c25 c26 c27 c29 c2 c28 c30
def Qys := hid (@Q2y R)
theorem Qdh : @Qys R = @Q2y R := Q2
def f127d (k : Nat) (a0 : zL2) (a1 a2 a3 a4 a5 a6 a7 a8 : Int) (a9 : ByteArray) (a10 : List Int) (a11 : Int) (a12 : zL5) (a13 a14 a15 a16 : Int) (a17 : ByteArray) (a18 : List Int) (a19 : zL5) (a20 a21 a22 a23 : Int) (a24 : List Bool) (a25 : Int) (a26 : List Bool) (a27 : Int) (a28 a29 : zL1) (K : zK19 R) : Option R := match k with
 | 0 => none
 | k + 1 => (Qys k (fun p25 p27 => (K a2 a3 a4 a5 a6 a7 a8 a9 a10 a11 a12 a13 a14 a15 a16 a17 a18 a19 a20 a21 a22 a23 a24 a25 a26 p25 a28 p27)) a0 a1 a2 a3 a4 a5 a6 a7 a8 a9 a10 a11 a12 a13 a14 a15 a16 a17 a18 a19 a20 a21 a22 a23 a24 a25 a26 a28 k 0 a27 a29)
def f127 := hid (@f127d R)
theorem Qr4 : @f127 R = @f127d R := Q2
def Qg2 (k : Nat) (xN : zL6 → Option R) (c3 : zL5) (c4 : Int) (c5 : Bool) (c20 : zL6) : Option R :=
 (bif c5 then (bif (decide (0 ≤ c4) && decide (c4 < (c3.length : Int))) then (bif decide (c20.length + ([((c3.getD (Int.toNat c4) ((0 : Int), ((0 : Int), ()))).1, (((c3.getD (Int.toNat c4) ((0 : Int), ((0 : Int), ()))).2).1, ()))] : zL6).length ≤ LIM 16) then (xN (c20 ++ ([((c3.getD (Int.toNat c4) ((0 : Int), ((0 : Int), ()))).1, (((c3.getD (Int.toNat c4) ((0 : Int), ((0 : Int), ()))).2).1, ()))] : zL6))) else none) else none) else (xN c20))
def Qn2 := hid (@Qg2 R)
theorem Qag : @Qn2 R = @Qg2 R := Q2
def Q10g (k : Nat) (rec : Int → zL6 → Option R) (x1 : zL6 → Option R) (c0 : Bool) (c1 : zL5) (c2 : Bool) (c3 : zL5) (c5 c6 : Int) (c7 : ByteArray) (c8 : List Int) (c9 : Int) (c10 : zL5) (c11 c12 c13 c14 : Int) (c15 : ByteArray) (c16 c17 c18 c4 : Int) (c19 : zL6) : Option R :=
 (bif decide (c4 < (c3.length : Int)) then (bif (decide (0 ≤ c4) && decide (c4 < (c3.length : Int))) then (Qn2 k (fun p19 => (rec (IntKind.i64.wrap (c4 + 1)) p19)) c3 c4 (decide (((c3.getD (Int.toNat c4) ((0 : Int), ((0 : Int), ()))).2).1 ≤ c9)) c19) else none) else (x1 c19))
def Q8k (k : Nat) (x1 : zL6 → Option R) (c0 : Bool) (c1 : zL5) (c2 : Bool) (c3 : zL5) (c5 c6 : Int) (c7 : ByteArray) (c8 : List Int) (c9 : Int) (c10 : zL5) (c11 c12 c13 c14 : Int) (c15 : ByteArray) (c16 c17 c18 : Int) : Nat → Int → zL6 → Option R
 | 0, _, _ => none
 | m + 1, c4, c19 => Q10g k (Q8k k x1 c0 c1 c2 c3 c5 c6 c7 c8 c9 c10 c11 c12 c13 c14 c15 c16 c17 c18 m) x1 c0 c1 c2 c3 c5 c6 c7 c8 c9 c10 c11 c12 c13 c14 c15 c16 c17 c18 c4 c19
def f91_1 := hid (@Q8k R)
theorem Qjg : @f91_1 R = @Q8k R := Q2
def Qg3 (k : Nat) (xN : Int → Int → Option R) (c0 : Bool) (c1 c6 : Int) : Option R :=
 (bif c0 then (xN 1 0) else (xN c1 c6))
def Qah := hid (@Qg3 R)
theorem Qai : @Qah R = @Qg3 R := Q2
def Qg5 (k : Nat) (xN : Int → Option R) (c0 : Bool) (c1 : Int) : Option R :=
 (bif c0 then (xN 3) else (xN c1))
def Qn4 := hid (@Qg5 R)
theorem Qak : @Qn4 R = @Qg5 R := Q2
def Qg6 (k : Nat) (xN : zK6 R) (c0 : Bool) (c1 : Int) (c6 : zL5) (c7 : Int) : Option R :=
 (bif c0 then (xN 4 ([] : zL5) 0) else (xN c1 c6 c7))
def Qn5 := hid (@Qg6 R)
theorem Qal : @Qn5 R = @Qg6 R := Q2
def Qg4 (k : Nat) (xN : zK6 R) (c0 : Int) (c1 : Bool) (c2 : Int) (c7 : zL5) (c8 : Int) (c18 : Bool) : Option R :=
 (bif c1 then (Qn4 k (fun y23_N_0 => (xN y23_N_0 ([] : zL5) 0)) c18 4) else (Qn5 k (fun y25_N_0 y25_N_5 y25_N_6 => (xN y25_N_0 y25_N_5 y25_N_6)) (c0 == 6) c2 c7 c8))
def Qn3 := hid (@Qg4 R)
theorem Qaj : @Qn3 R = @Qg4 R := Q2
def Qg1 (k : Nat) (K : zK5 R) (xN : Int → zL5 → Int → Int → Option R) (c0 : Int) (c1 : Bool) (c2 c3 : Int) (c4 : ByteArray) (c5 : List Int) (c6 : Int) (c7 : zL5) (c8 c9 : Int) (c17 : zL5) (c18 : Bool) (c19 c20 : Int) (c21 : ByteArray) (c22 c23 c24 : Int) : Option R :=
 (bif c1 then (f75 k c7 (fun r0_0 r0_1 => (f75 k c17 (fun r1_0 r1_1 => (f91_1 k (fun y1_1_17 => (f89 k r0_1 y1_1_17 (fun r2_0 => (bif decide ((r2_0.length : Int) > 2000) then (K 0 0 (⟨#[]⟩ : ByteArray) ([] : List Int) 0 ([] : zL5) 0 0 2) else (bif (r0_0 == false) then (bif (r1_0 == true) then (f118 k (decide (c6 ≥ 0)) r2_0 (fun r3_0 => (Qah k (fun y19_N_0 y19_N_5 => (xN y19_N_0 r3_0 y19_N_5 0)) (decide ((r3_0.length : Int) > 0)) c2 c8))) else (f118 k false r2_0 (fun r3_0 => (Qah k (fun y19_N_0 y19_N_5 => (xN y19_N_0 r3_0 y19_N_5 0)) (decide ((r3_0.length : Int) > 0)) c2 c8)))) else (f118 k true r2_0 (fun r3_0 => (Qah k (fun y19_N_0 y19_N_5 => (xN y19_N_0 r3_0 y19_N_5 0)) (decide ((r3_0.length : Int) > 0)) c2 c8)))))))) r0_0 r0_1 r1_0 r1_1 c2 c3 c4 c5 c6 c7 c8 c9 c19 c20 c21 c22 c23 c24 k 0 ([] : zL5)))))) else (Qn3 k (fun y21_N_0 y21_N_5 y21_N_6 => (xN y21_N_0 y21_N_5 y21_N_6 c9)) c0 (c0 == 5) c2 c7 c8 c18))
def Qn1 := hid (@Qg1 R)
theorem Qaf : @Qn1 R = @Qg1 R := Q2
def f91d (k : Nat) (a0 a1 : Int) (a2 : ByteArray) (a3 : List Int) (a4 : Int) (a5 : zL5) (a6 a7 a8 a9 : Int) (a10 : ByteArray) (a11 a12 a13 : Int) (a14 : List Int) (a15 : zL5) (a16 : Bool) (K : zK5 R) : Option R := match k with
 | 0 => none
 | k + 1 => (bif ((a9 != a1) == false) then (bif ((a0 == 3) == false) then (bif (a0 == 4) then (K a0 a1 a2 a3 a4 a5 a6 a7 0) else (Qn1 k K (fun p0 p5 p6 p7 => (K p0 a1 a2 a3 a4 p5 p6 p7 0)) a8 (a8 == 4) a0 a1 a2 a3 a4 a5 a6 a7 a15 a16 0 0 (⟨#[]⟩ : ByteArray) 0 0 0)) else (K a0 a1 a2 a3 a4 a5 a6 a7 0)) else (K a0 a1 a2 a3 a4 a5 a6 a7 0))
def f91 := hid (@f91d R)
theorem Q10h : @f91 R = @f91d R := Q2
def f110d (k : Nat) (a0 a1 : Int) (a2 : ByteArray) (a3 : List Int) (a4 : Int) (a5 : zL5) (a6 a7 : Int) (K : zK7 R) : Option R := match k with
 | 0 => none
 | k + 1 => (f65 k a3 (fun r0_0 => (K 3 a1 (⟨#[]⟩ : ByteArray) (a3.length : Int) r0_0 0 false)))
def f110 := hid (@f110d R)
theorem Qqp : @f110 R = @f110d R := Q2
def f129d (k : Nat) (a0 a1 : Int) (a2 : ByteArray) (a3 : List Int) (a4 : Int) (a5 : zL5) (a6 a7 : Int) (K : zK7 R) : Option R := match k with
 | 0 => none
 | k + 1 => (f65 k a3 (fun r0_0 => (K 1 a1 a2 (a3.length : Int) r0_0 0 false)))
def f129 := hid (@f129d R)
theorem Qr6 : @f129 R = @f129d R := Q2
def f130d (k : Nat) (a0 a1 : Int) (a2 : ByteArray) (a3 : List Int) (a4 : Int) (a5 : zL5) (a6 a7 a8 a9 : Int) (K : zK8 R) : Option R := match k with
 | 0 => none
 | k + 1 => (bif (decide (0 ≤ a8) && (decide (a8 ≤ a9) && decide (a9 ≤ (a3.length : Int)))) then (bif decide (((a3.take (Int.toNat a9)).drop (Int.toNat a8)).length ≤ LIM 1) then (K 2 a1 (⟨#[]⟩ : ByteArray) 0 0 a8 false ((a3.take (Int.toNat a9)).drop (Int.toNat a8))) else none) else none)
def f130 := hid (@f130d R)
theorem Qr7 : @f130 R = @f130d R := Q2
def Q9r (k : Nat) (xN : zL6 → Option R) (c0 : zL5) (c2 : Int) (c3 : Bool) : Option R :=
 (bif c3 then (bif decide (0 < (c0.length : Int)) then (bif decide (([(c2, (((c0.getD 0 ((0 : Int), ((0 : Int), ()))).2).1, ()))] : zL6).length ≤ LIM 16) then (xN ([(c2, (((c0.getD 0 ((0 : Int), ((0 : Int), ()))).2).1, ()))] : zL6)) else none) else none) else (xN ([] : zL5)))
def Qf7 := hid (@Q9r R)
theorem Q7r : @Qf7 R = @Q9r R := Q2
def f111d (k : Nat) (a0 a1 a2 a3 a4 a5 a6 : Int) (a7 : ByteArray) (a8 : List Int) (a9 : Int) (a10 : zL5) (a11 a12 : Int) (K : zK20 R) : Option R := match k with
 | 0 => none
 | k + 1 => (f75 k a10 (fun r0_0 r0_1 => (bif decide (a9 < 0) then (f129 k a5 a6 a7 a8 0 a10 a11 a12 (fun r1_0 r1_1 r1_2 r1_3 r1_4 r1_5 r1_6 => (K r1_0 r1_1 r1_2 r1_3 r1_4 r1_5 r1_6 a5 a6 a7 a8 0 a10 a11 a12 ([] : List Int)))) else (bif r0_0 then (f118 k false r0_1 (fun r2_0 => (f129 k a5 a6 a7 a8 a9 r2_0 a11 a12 (fun r3_0 r3_1 r3_2 r3_3 r3_4 r3_5 r3_6 => (K r3_0 r3_1 r3_2 r3_3 r3_4 r3_5 r3_6 a5 a6 a7 a8 a9 r2_0 a11 a12 ([] : List Int)))))) else (bif decide ((r0_1.length : Int) > 0) then (bif decide (0 < (r0_1.length : Int)) then (bif decide (0 < (r0_1.length : Int)) then (bif decide (0 < (r0_1.length : Int)) then (bif decide (0 < (r0_1.length : Int)) then (Qf7 k (fun p18 => (bif decide (1 ≤ (r0_1.length : Int)) then (bif decide (p18.length + (r0_1.drop 1).length ≤ LIM 16) then (f130 k a5 a6 a7 a8 a9 (p18 ++ (r0_1.drop 1)) a11 a12 ((r0_1.getD 0 ((0 : Int), ((0 : Int), ()))).1) (if IntKind.i64.wrap (((r0_1.getD 0 ((0 : Int), ((0 : Int), ()))).1) + a0) < ((r0_1.getD 0 ((0 : Int), ((0 : Int), ()))).2).1 then IntKind.i64.wrap (((r0_1.getD 0 ((0 : Int), ((0 : Int), ()))).1) + a0) else ((r0_1.getD 0 ((0 : Int), ((0 : Int), ()))).2).1) (fun r4_0 r4_1 r4_2 r4_3 r4_4 r4_5 r4_6 r4_7 => (K r4_0 r4_1 r4_2 r4_3 r4_4 r4_5 r4_6 a5 a6 a7 a8 a9 (p18 ++ (r0_1.drop 1)) a11 a12 r4_7))) else none) else none)) r0_1 (if IntKind.i64.wrap (((r0_1.getD 0 ((0 : Int), ((0 : Int), ()))).1) + a0) < ((r0_1.getD 0 ((0 : Int), ((0 : Int), ()))).2).1 then IntKind.i64.wrap (((r0_1.getD 0 ((0 : Int), ((0 : Int), ()))).1) + a0) else ((r0_1.getD 0 ((0 : Int), ((0 : Int), ()))).2).1) (decide ((if IntKind.i64.wrap (((r0_1.getD 0 ((0 : Int), ((0 : Int), ()))).1) + a0) < ((r0_1.getD 0 ((0 : Int), ((0 : Int), ()))).2).1 then IntKind.i64.wrap (((r0_1.getD 0 ((0 : Int), ((0 : Int), ()))).1) + a0) else ((r0_1.getD 0 ((0 : Int), ((0 : Int), ()))).2).1) < ((r0_1.getD 0 ((0 : Int), ((0 : Int), ()))).2).1))) else none) else none) else none) else none) else (bif decide (a9 < (a8.length : Int)) then (f130 k a5 a6 a7 a8 (if IntKind.i64.wrap (a9 + a0) < (a8.length : Int) then IntKind.i64.wrap (a9 + a0) else (a8.length : Int)) a10 a11 a12 a9 (if IntKind.i64.wrap (a9 + a0) < (a8.length : Int) then IntKind.i64.wrap (a9 + a0) else (a8.length : Int)) (fun r5_0 r5_1 r5_2 r5_3 r5_4 r5_5 r5_6 r5_7 => (K r5_0 r5_1 r5_2 r5_3 r5_4 r5_5 r5_6 a5 a6 a7 a8 (if IntKind.i64.wrap (a9 + a0) < (a8.length : Int) then IntKind.i64.wrap (a9 + a0) else (a8.length : Int)) a10 a11 a12 r5_7))) else (f110 k 2 a6 a7 a8 a9 a10 a3 a12 (fun r6_0 r6_1 r6_2 r6_3 r6_4 r6_5 r6_6 => (K r6_0 r6_1 r6_2 r6_3 r6_4 r6_5 r6_6 2 a6 a7 a8 a9 a10 a3 a12 ([] : List Int))))))))))
def f111 := hid (@f111d R)
theorem Qqq : @f111 R = @f111d R := Q2
def Q104 (k : Nat) (rec x1 : zK10 R) (c0 c1 c2 c3 c4 c13 c14 : Int) (c15 : ByteArray) (c16 c17 c18 c5 c6 : Int) (c7 : ByteArray) (c8 : List Int) (c9 : Int) (c10 : zL5) (c11 c12 : Int) (c19 : zL3) : Option R :=
 (bif (decide ((c19.length : Int) < c2) == true) then (bif (c5 == 1) then (f111 k c0 c1 c2 c3 c4 c5 c6 c7 c8 c9 c10 c11 c12 (fun r0_0 r0_1 r0_2 r0_3 r0_4 r0_5 r0_6 r0_7 r0_8 r0_9 r0_10 r0_11 r0_12 r0_13 r0_14 r0_15 => (bif decide (c19.length + ([(r0_0, (r0_1, (r0_2, (r0_3, (r0_4, (r0_5, (r0_15, (([] : zL5), (r0_6, ())))))))))] : zL3).length ≤ LIM 112) then (rec r0_7 r0_8 r0_9 r0_10 r0_11 r0_12 r0_13 r0_14 (c19 ++ ([(r0_0, (r0_1, (r0_2, (r0_3, (r0_4, (r0_5, (r0_15, (([] : zL5), (r0_6, ())))))))))] : zL3))) else none))) else (x1 c5 c6 c7 c8 c9 c10 c11 c12 c19)) else (x1 c5 c6 c7 c8 c9 c10 c11 c12 c19))
def Q8h (k : Nat) (x1 : zK10 R) (c0 c1 c2 c3 c4 c13 c14 : Int) (c15 : ByteArray) (c16 c17 c18 : Int) : Nat → Int → Int → ByteArray → List Int → Int → zL5 → Int → Int → zL3 → Option R
 | 0, _, _, _, _, _, _, _, _, _ => none
 | m + 1, c5, c6, c7, c8, c9, c10, c11, c12, c19 => Q104 k (Q8h k x1 c0 c1 c2 c3 c4 c13 c14 c15 c16 c17 c18 m) x1 c0 c1 c2 c3 c4 c13 c14 c15 c16 c17 c18 c5 c6 c7 c8 c9 c10 c11 c12 c19
def f81_1 := hid (@Q8h R)
theorem Qja : @f81_1 R = @Q8h R := Q2
def Qfq (k : Nat) (xN : zK10 R) (c0 : Bool) (c1 c2 c3 c4 c5 c6 c7 : Int) (c8 : ByteArray) (c9 : List Int) (c10 : Int) (c11 : zL5) (c12 c13 c14 c15 : Int) (c16 : ByteArray) (c17 c18 c19 : Int) : Option R :=
 (bif c0 then (f81_1 k (fun p0 p1 p2 p3 p4 p5 p6 p7 p14 => (xN p0 p1 p2 p3 p4 p5 p6 p7 p14)) c1 c2 c3 c4 c5 c14 c15 c16 c17 c18 c19 k c6 c7 c8 c9 c10 c11 c12 c13 ([] : zL2)) else (xN c6 c7 c8 c9 c10 c11 c12 c13 ([] : zL2)))
def Qmw := hid (@Qfq R)
theorem Qa7 : @Qmw R = @Qfq R := Q2
def f81d (k : Nat) (a0 a1 a2 a3 a4 a5 a6 : Int) (a7 : ByteArray) (a8 : List Int) (a9 : Int) (a10 : zL5) (a11 a12 : Int) (K : zK10 R) : Option R := match k with
 | 0 => none
 | k + 1 => (bif (a5 == 2) then (bif decide (IntKind.i64.wrap (a11 - 1) > 0) then (K a5 a6 a7 a8 a9 a10 (IntKind.i64.wrap (a11 - 1)) a12 ([] : zL2)) else (bif decide (a12 ≥ a4) then (bif decide (([((6 : Int), (a6, ((⟨#[]⟩ : ByteArray), ((0 : Int), ((0 : Int), ((0 : Int), (([] : List Int), (([] : zL5), (false, ())))))))))] : zL3).length ≤ LIM 112) then (K 4 a6 a7 a8 a9 a10 (IntKind.i64.wrap (a11 - 1)) a12 ([((6 : Int), (a6, ((⟨#[]⟩ : ByteArray), ((0 : Int), ((0 : Int), ((0 : Int), (([] : List Int), (([] : zL5), (false, ())))))))))] : zL3)) else none) else (f110 k a5 a6 a7 a8 a9 a10 a3 (IntKind.i64.wrap (a12 + 1)) (fun r0_0 r0_1 r0_2 r0_3 r0_4 r0_5 r0_6 => (bif decide (([(r0_0, (r0_1, (r0_2, (r0_3, (r0_4, (r0_5, (([] : List Int), (([] : zL5), (r0_6, ())))))))))] : zL3).length ≤ LIM 112) then (K a5 a6 a7 a8 a9 a10 a3 (IntKind.i64.wrap (a12 + 1)) ([(r0_0, (r0_1, (r0_2, (r0_3, (r0_4, (r0_5, (([] : List Int), (([] : zL5), (r0_6, ())))))))))] : zL3)) else none))))) else (Qmw k (fun p0 p1 p2 p3 p4 p5 p6 p7 p14 => (K p0 p1 p2 p3 p4 p5 p6 p7 p14)) (a5 == 1) a0 a1 a2 a3 a4 a5 a6 a7 a8 a9 a10 a11 a12 0 0 (⟨#[]⟩ : ByteArray) 0 0 0))
def f81 := hid (@f81d R)
theorem Q105 : @f81 R = @f81d R := Q2
end
end Go.Proofs.Ytlcklflbhhnnhaa.PM
