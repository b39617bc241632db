/- Functions of the program in typed form (printed by a program of this work). -/
import Derived.Test.YtoepnomdklhhlaaGreatPT0
set_option linter.unusedVariables false
set_option linter.unusedSimpArgs false
set_option maxRecDepth 100000
namespace Go.Proofs.YtoepnomdklhhlaaGreat.PM
open Go
noncomputable section
variable {R : Type}
def f28_0b (k : Nat) (rec K : zK8 R) (x0 : zK3 R) (c0 c1 : Int) (c32 : zL3) (c2 c3 c4 c5 c6 c7 c8 c9 : Int) (c10 : ByteArray) (c11 : List Int) (c12 : Int) (c13 : zL5) (c14 c15 c16 c17 : Int) (c18 : ByteArray) (c19 : List Int) (c20 : zL5) (c21 c22 c23 c24 : Int) (c25 : List Bool) (c26 : Int) (c27 : List Bool) (c28 c29 : Int) (c30 c31 : zL1) : Option R :=
  (bif decide (c2 < c1) then (bif (decide (0 ≤ c2) && decide (c2 < (c32.length : Int))) then (f61 k c3 c4 c5 c6 c7 c16 c17 c18 c19 c20 c21 c22 c23 c24 ((c32.getD (Int.toNat c2) zD0).1) (((c32.getD (Int.toNat c2) zD0).2).1) ((((c32.getD (Int.toNat c2) zD0).2).2).1) (((((c32.getD (Int.toNat c2) zD0).2).2).2).1) ((((((c32.getD (Int.toNat c2) zD0).2).2).2).2).1) (((((((c32.getD (Int.toNat c2) zD0).2).2).2).2).2).1) ((((((((c32.getD (Int.toNat c2) zD0).2).2).2).2).2).2).1) (((((((((c32.getD (Int.toNat c2) zD0).2).2).2).2).2).2).2).1) ((((((((((c32.getD (Int.toNat c2) zD0).2).2).2).2).2).2).2).2).1) (fun r0_0 r0_1 r0_2 r0_3 r0_4 r0_5 r0_6 r0_7 r0_8 r0_9 r0_10 => (bif (r0_9 != 0) then (K r0_9 c3 c4 c5 c6 c7 c8 c9 c10 c11 c12 c13 c14 c15 r0_0 r0_1 r0_2 r0_3 r0_4 r0_5 r0_6 r0_7 r0_8 c25 c26 c27 c28 c29 c30 c31) else (f62 k (IntKind.i64.wrap (c0 + c4)) r0_10 c3 c4 c5 c6 c7 c8 c9 c10 c11 c12 c13 c14 c15 r0_0 r0_1 r0_2 r0_3 r0_4 r0_5 r0_6 r0_7 r0_8 c25 c26 c27 c28 c29 c30 c31 (fun r1_0 r1_1 r1_2 r1_3 r1_4 r1_5 r1_6 r1_7 r1_8 r1_9 r1_10 r1_11 r1_12 r1_13 r1_14 r1_15 r1_16 r1_17 r1_18 r1_19 r1_20 r1_21 r1_22 r1_23 r1_24 r1_25 r1_26 r1_27 r1_28 => (rec (IntKind.i64.wrap (c2 + 1)) r1_0 r1_1 r1_2 r1_3 r1_4 r1_5 r1_6 r1_7 r1_8 r1_9 r1_10 r1_11 r1_12 r1_13 r1_14 r1_15 r1_16 r1_17 r1_18 r1_19 r1_20 r1_21 r1_22 r1_23 r1_24 r1_25 r1_26 r1_27 r1_28)))))) else none) else (x0 c3 c4 c5 c6 c7 c8 c9 c10 c11 c12 c13 c14 c15 c16 c17 c18 c19 c20 c21 c22 c23 c24 c25 c26 c27 c28 c29 c30 c31))
def f28_0d (k : Nat) (K : zK8 R) (x0 : zK3 R) (c0 c1 : Int) (c32 : zL3) : Nat → Int → Int → Int → Int → Int → Int → Int → Int → ByteArray → List Int → Int → zL5 → Int → Int → Int → Int → ByteArray → List Int → zL5 → Int → Int → Int → Int → List Bool → Int → List Bool → Int → Int → zL1 → zL1 → Option R
  | 0, _, _, _, _, _, _, _, _, _, _, _, _, _, _, _, _, _, _, _, _, _, _, _, _, _, _, _, _, _, _ => none
  | m + 1, c2, c3, c4, c5, c6, c7, c8, c9, c10, c11, c12, c13, c14, c15, c16, c17, c18, c19, c20, c21, c22, c23, c24, c25, c26, c27, c28, c29, c30, c31 => f28_0b k (f28_0d k K x0 c0 c1 c32 m) K x0 c0 c1 c32 c2 c3 c4 c5 c6 c7 c8 c9 c10 c11 c12 c13 c14 c15 c16 c17 c18 c19 c20 c21 c22 c23 c24 c25 c26 c27 c28 c29 c30 c31
def f28_0 := hid (@f28_0d R)
theorem f28_0_def : @f28_0 R = @f28_0d R := hid_eq
def f28_2b (k : Nat) (rec : Int → Int → Int → ByteArray → List Int → Int → zL5 → Int → Int → Option R) (K : zK8 R) (x2 : zK9 R) (c0 c1 c3 c4 c5 c6 c7 c16 c17 : Int) (c18 : ByteArray) (c19 : List Int) (c20 : zL5) (c21 c22 c23 c24 : Int) (c25 : List Bool) (c26 : Int) (c27 : List Bool) (c28 c29 : Int) (c30 c31 : zL1) (c32 : zL3) (c2 c8 c9 : Int) (c10 : ByteArray) (c11 : List Int) (c12 : Int) (c13 : zL5) (c14 c15 : Int) : Option R :=
  (bif decide (c2 < c1) then (bif (decide (0 ≤ c2) && decide (c2 < (c32.length : Int))) then (f63 k c8 c9 c10 c11 c12 c13 c14 c15 ((c32.getD (Int.toNat c2) zD0).1) (((c32.getD (Int.toNat c2) zD0).2).1) ((((c32.getD (Int.toNat c2) zD0).2).2).1) (((((c32.getD (Int.toNat c2) zD0).2).2).2).1) ((((((c32.getD (Int.toNat c2) zD0).2).2).2).2).1) (((((((c32.getD (Int.toNat c2) zD0).2).2).2).2).2).1) ((((((((c32.getD (Int.toNat c2) zD0).2).2).2).2).2).2).1) (((((((((c32.getD (Int.toNat c2) zD0).2).2).2).2).2).2).2).1) ((((((((((c32.getD (Int.toNat c2) zD0).2).2).2).2).2).2).2).2).1) (fun r0_0 r0_1 r0_2 r0_3 r0_4 r0_5 r0_6 r0_7 r0_8 => (bif (r0_8 != 0) then (K r0_8 c3 c4 c5 c6 c7 r0_0 r0_1 r0_2 r0_3 r0_4 r0_5 r0_6 r0_7 c16 c17 c18 c19 c20 c21 c22 c23 c24 c25 c26 c27 c28 c29 c30 c31) else (rec (IntKind.i64.wrap (c2 + 1)) r0_0 r0_1 r0_2 r0_3 r0_4 r0_5 r0_6 r0_7)))) else none) else (x2 c8 c9 c10 c11 c12 c13 c14 c15))
def f28_2d (k : Nat) (K : zK8 R) (x2 : zK9 R) (c0 c1 c3 c4 c5 c6 c7 c16 c17 : Int) (c18 : ByteArray) (c19 : List Int) (c20 : zL5) (c21 c22 c23 c24 : Int) (c25 : List Bool) (c26 : Int) (c27 : List Bool) (c28 c29 : Int) (c30 c31 : zL1) (c32 : zL3) : Nat → Int → Int → Int → ByteArray → List Int → Int → zL5 → Int → Int → Option R
  | 0, _, _, _, _, _, _, _, _, _ => none
  | m + 1, c2, c8, c9, c10, c11, c12, c13, c14, c15 => f28_2b k (f28_2d k K x2 c0 c1 c3 c4 c5 c6 c7 c16 c17 c18 c19 c20 c21 c22 c23 c24 c25 c26 c27 c28 c29 c30 c31 c32 m) K x2 c0 c1 c3 c4 c5 c6 c7 c16 c17 c18 c19 c20 c21 c22 c23 c24 c25 c26 c27 c28 c29 c30 c31 c32 c2 c8 c9 c10 c11 c12 c13 c14 c15
def f28_2 := hid (@f28_2d R)
theorem f28_2_def : @f28_2 R = @f28_2d R := hid_eq
def f28_1000019d (k : Nat) (xN : Int → Option R) (c0 : Int) (c1 : Bool) (c28 : Int) : Option R :=
  (bif c1 then (xN c0) else (xN c28))
def f28_1000019 := hid (@f28_1000019d R)
theorem f28_1000019_def : @f28_1000019 R = @f28_1000019d R := hid_eq
def f28d (k : Nat) (a0 a1 a2 a3 a4 a5 a6 a7 : Int) (a8 : ByteArray) (a9 : List Int) (a10 : Int) (a11 : zL5) (a12 a13 a14 a15 : Int) (a16 : ByteArray) (a17 : List Int) (a18 : zL5) (a19 a20 a21 a22 : Int) (a23 : List Bool) (a24 : Int) (a25 : List Bool) (a26 a27 : Int) (a28 a29 : zL1) (K : zK8 R) : Option R := match k with
  | 0 => none
  | k + 1 => (f60 k a0 a1 a2 a3 a4 a5 a6 a7 a8 a9 a10 a11 a12 a13 a14 a15 a16 a17 a18 a19 a20 a21 a22 a23 a24 a25 a26 a27 a28 a29 (fun r0_0 r0_1 r0_2 r0_3 r0_4 r0_5 r0_6 r0_7 r0_8 r0_9 r0_10 r0_11 r0_12 r0_13 r0_14 r0_15 r0_16 r0_17 r0_18 r0_19 r0_20 r0_21 r0_22 r0_23 r0_24 r0_25 r0_26 r0_27 r0_28 r0_29 => (f28_0 k K (fun y0_0_1 y0_0_2 y0_0_3 y0_0_4 y0_0_5 y0_0_6 y0_0_7 y0_0_8 y0_0_9 y0_0_10 y0_0_11 y0_0_12 y0_0_13 y0_0_14 y0_0_15 y0_0_16 y0_0_17 y0_0_18 y0_0_19 y0_0_20 y0_0_21 y0_0_22 y0_0_23 y0_0_24 y0_0_25 y0_0_26 y0_0_27 y0_0_28 y0_0_29 => (f60v1 k a0 y0_0_1 y0_0_2 y0_0_3 y0_0_4 y0_0_5 y0_0_6 y0_0_7 y0_0_8 y0_0_9 y0_0_10 y0_0_11 y0_0_12 y0_0_13 y0_0_14 y0_0_15 y0_0_16 y0_0_17 y0_0_18 y0_0_19 y0_0_20 y0_0_21 y0_0_22 y0_0_23 y0_0_24 y0_0_25 y0_0_26 y0_0_27 y0_0_28 y0_0_29 (fun r1_0 r1_1 r1_2 r1_3 r1_4 r1_5 r1_6 r1_7 r1_8 r1_9 r1_10 r1_11 r1_12 r1_13 r1_14 r1_15 r1_16 r1_17 r1_18 r1_19 r1_20 r1_21 r1_22 r1_23 r1_24 r1_25 r1_26 r1_27 r1_28 r1_29 => (f28_2 k K (fun y2_2_6 y2_2_7 y2_2_8 y2_2_9 y2_2_10 y2_2_11 y2_2_12 y2_2_13 => (bif (decide (r1_26 < 0) == true) then (f28_1000019 k (fun y19_N_27 => (f64 k r1_0 r1_1 r1_2 r1_3 r1_4 y2_2_6 y2_2_7 y2_2_8 y2_2_9 y2_2_10 y2_2_11 y2_2_12 y2_2_13 (fun r2_0 r2_1 r2_2 r2_3 r2_4 r2_5 r2_6 r2_7 r2_8 => (f62v1 k (IntKind.i64.wrap (a0 + r1_1)) r2_8 r1_0 r1_1 r1_2 r1_3 r1_4 r2_0 r2_1 r2_2 r2_3 r2_4 r2_5 r2_6 r2_7 r1_13 r1_14 r1_15 r1_16 r1_17 r1_18 r1_19 r1_20 r1_21 r1_22 r1_23 r1_24 r1_25 y19_N_27 r1_27 r1_28 (fun r3_0 r3_1 r3_2 r3_3 r3_4 r3_5 r3_6 r3_7 r3_8 r3_9 r3_10 r3_11 r3_12 r3_13 r3_14 r3_15 r3_16 r3_17 r3_18 r3_19 r3_20 r3_21 r3_22 r3_23 r3_24 r3_25 r3_26 r3_27 r3_28 => (f65 k r3_0 r3_1 r3_2 r3_3 r3_4 r3_13 r3_14 r3_15 r3_16 r3_17 r3_18 r3_19 r3_20 r3_21 (fun r4_0 r4_1 r4_2 r4_3 r4_4 r4_5 r4_6 r4_7 r4_8 r4_9 r4_10 => (bif (r4_9 != 0) then (K r4_9 r3_0 r3_1 r3_2 r3_3 r3_4 r3_5 r3_6 r3_7 r3_8 r3_9 r3_10 r3_11 r3_12 r4_0 r4_1 r4_2 r4_3 r4_4 r4_5 r4_6 r4_7 r4_8 r3_22 r3_23 r3_24 r3_25 r3_26 r3_27 r3_28) else (f62 k (IntKind.i64.wrap (a0 + r3_1)) r4_10 r3_0 r3_1 r3_2 r3_3 r3_4 r3_5 r3_6 r3_7 r3_8 r3_9 r3_10 r3_11 r3_12 r4_0 r4_1 r4_2 r4_3 r4_4 r4_5 r4_6 r4_7 r4_8 r3_22 r3_23 r3_24 r3_25 r3_26 r3_27 r3_28 (fun r5_0 r5_1 r5_2 r5_3 r5_4 r5_5 r5_6 r5_7 r5_8 r5_9 r5_10 r5_11 r5_12 r5_13 r5_14 r5_15 r5_16 r5_17 r5_18 r5_19 r5_20 r5_21 r5_22 r5_23 r5_24 r5_25 r5_26 r5_27 r5_28 => (bif decide (IntKind.i64.wrap (r5_23 + r5_25) > 20000) then (K 2 r5_0 r5_1 r5_2 r5_3 r5_4 r5_5 r5_6 r5_7 r5_8 r5_9 r5_10 r5_11 r5_12 r5_13 r5_14 r5_15 r5_16 r5_17 r5_18 r5_19 r5_20 r5_21 r5_22 r5_23 r5_24 r5_25 r5_26 r5_27 r5_28) else (K 0 r5_0 r5_1 r5_2 r5_3 r5_4 r5_5 r5_6 r5_7 r5_8 r5_9 r5_10 r5_11 r5_12 r5_13 r5_14 r5_15 r5_16 r5_17 r5_18 r5_19 r5_20 r5_21 r5_22 r5_23 r5_24 r5_25 r5_26 r5_27 r5_28)))))))))))) a0 (y2_2_6 == 3) r1_26) else (f28_1000019 k (fun y19_N_27 => (f64 k r1_0 r1_1 r1_2 r1_3 r1_4 y2_2_6 y2_2_7 y2_2_8 y2_2_9 y2_2_10 y2_2_11 y2_2_12 y2_2_13 (fun r2_0 r2_1 r2_2 r2_3 r2_4 r2_5 r2_6 r2_7 r2_8 => (f62v1 k (IntKind.i64.wrap (a0 + r1_1)) r2_8 r1_0 r1_1 r1_2 r1_3 r1_4 r2_0 r2_1 r2_2 r2_3 r2_4 r2_5 r2_6 r2_7 r1_13 r1_14 r1_15 r1_16 r1_17 r1_18 r1_19 r1_20 r1_21 r1_22 r1_23 r1_24 r1_25 y19_N_27 r1_27 r1_28 (fun r3_0 r3_1 r3_2 r3_3 r3_4 r3_5 r3_6 r3_7 r3_8 r3_9 r3_10 r3_11 r3_12 r3_13 r3_14 r3_15 r3_16 r3_17 r3_18 r3_19 r3_20 r3_21 r3_22 r3_23 r3_24 r3_25 r3_26 r3_27 r3_28 => (f65 k r3_0 r3_1 r3_2 r3_3 r3_4 r3_13 r3_14 r3_15 r3_16 r3_17 r3_18 r3_19 r3_20 r3_21 (fun r4_0 r4_1 r4_2 r4_3 r4_4 r4_5 r4_6 r4_7 r4_8 r4_9 r4_10 => (bif (r4_9 != 0) then (K r4_9 r3_0 r3_1 r3_2 r3_3 r3_4 r3_5 r3_6 r3_7 r3_8 r3_9 r3_10 r3_11 r3_12 r4_0 r4_1 r4_2 r4_3 r4_4 r4_5 r4_6 r4_7 r4_8 r3_22 r3_23 r3_24 r3_25 r3_26 r3_27 r3_28) else (f62 k (IntKind.i64.wrap (a0 + r3_1)) r4_10 r3_0 r3_1 r3_2 r3_3 r3_4 r3_5 r3_6 r3_7 r3_8 r3_9 r3_10 r3_11 r3_12 r4_0 r4_1 r4_2 r4_3 r4_4 r4_5 r4_6 r4_7 r4_8 r3_22 r3_23 r3_24 r3_25 r3_26 r3_27 r3_28 (fun r5_0 r5_1 r5_2 r5_3 r5_4 r5_5 r5_6 r5_7 r5_8 r5_9 r5_10 r5_11 r5_12 r5_13 r5_14 r5_15 r5_16 r5_17 r5_18 r5_19 r5_20 r5_21 r5_22 r5_23 r5_24 r5_25 r5_26 r5_27 r5_28 => (bif decide (IntKind.i64.wrap (r5_23 + r5_25) > 20000) then (K 2 r5_0 r5_1 r5_2 r5_3 r5_4 r5_5 r5_6 r5_7 r5_8 r5_9 r5_10 r5_11 r5_12 r5_13 r5_14 r5_15 r5_16 r5_17 r5_18 r5_19 r5_20 r5_21 r5_22 r5_23 r5_24 r5_25 r5_26 r5_27 r5_28) else (K 0 r5_0 r5_1 r5_2 r5_3 r5_4 r5_5 r5_6 r5_7 r5_8 r5_9 r5_10 r5_11 r5_12 r5_13 r5_14 r5_15 r5_16 r5_17 r5_18 r5_19 r5_20 r5_21 r5_22 r5_23 r5_24 r5_25 r5_26 r5_27 r5_28)))))))))))) a0 false r1_26))) a0 (r1_29.length : Int) r1_0 r1_1 r1_2 r1_3 r1_4 r1_13 r1_14 r1_15 r1_16 r1_17 r1_18 r1_19 r1_20 r1_21 r1_22 r1_23 r1_24 r1_25 r1_26 r1_27 r1_28 r1_29 k 0 r1_5 r1_6 r1_7 r1_8 r1_9 r1_10 r1_11 r1_12)))) a0 (r0_29.length : Int) r0_29 k 0 r0_0 r0_1 r0_2 r0_3 r0_4 r0_5 r0_6 r0_7 r0_8 r0_9 r0_10 r0_11 r0_12 r0_13 r0_14 r0_15 r0_16 r0_17 r0_18 r0_19 r0_20 r0_21 r0_22 r0_23 r0_24 r0_25 r0_26 r0_27 r0_28)))
def f28 := hid (@f28d R)
theorem f28_def : @f28 R = @f28d R := hid_eq
def f8_0b (k : Nat) (rec : zK8 R) (K : zK10 R) (x0 : zK3 R) (c0 c2 c3 : Int) (c4 : ByteArray) (c5 c6 c7 c8 c9 : Int) (c10 : ByteArray) (c11 c12 c13 c14 c1 c15 c16 c17 c18 c19 c20 c21 : Int) (c22 : ByteArray) (c23 : List Int) (c24 : Int) (c25 : zL5) (c26 c27 c28 c29 : Int) (c30 : ByteArray) (c31 : List Int) (c32 : zL5) (c33 c34 c35 c36 : Int) (c37 : List Bool) (c38 : Int) (c39 : List Bool) (c40 c41 : Int) (c42 c43 : zL1) : Option R :=
  (bif decide (c1 < c0) then (f28 k c1 c15 c16 c17 c18 c19 c20 c21 c22 c23 c24 c25 c26 c27 c28 c29 c30 c31 c32 c33 c34 c35 c36 c37 c38 c39 c40 c41 c42 c43 (fun r0_0 r0_1 r0_2 r0_3 r0_4 r0_5 r0_6 r0_7 r0_8 r0_9 r0_10 r0_11 r0_12 r0_13 r0_14 r0_15 r0_16 r0_17 r0_18 r0_19 r0_20 r0_21 r0_22 r0_23 r0_24 r0_25 r0_26 r0_27 r0_28 r0_29 => (bif (r0_0 != 0) then (K 0 0 (⟨#[]⟩ : ByteArray) ([] : List Int) 0 ([] : zL5) 0 0 0 0 (⟨#[]⟩ : ByteArray) ([] : List Int) ([] : zL5) 0 0 0 0 r0_0 ([] : List Int)) else (rec (IntKind.i64.wrap (c1 + 1)) r0_1 r0_2 r0_3 r0_4 r0_5 r0_6 r0_7 r0_8 r0_9 r0_10 r0_11 r0_12 r0_13 r0_14 r0_15 r0_16 r0_17 r0_18 r0_19 r0_20 r0_21 r0_22 r0_23 r0_24 r0_25 r0_26 r0_27 r0_28 r0_29)))) else (x0 c15 c16 c17 c18 c19 c20 c21 c22 c23 c24 c25 c26 c27 c28 c29 c30 c31 c32 c33 c34 c35 c36 c37 c38 c39 c40 c41 c42 c43))
def f8_0d (k : Nat) (K : zK10 R) (x0 : zK3 R) (c0 c2 c3 : Int) (c4 : ByteArray) (c5 c6 c7 c8 c9 : Int) (c10 : ByteArray) (c11 c12 c13 c14 : Int) : Nat → Int → Int → Int → Int → Int → Int → Int → Int → ByteArray → List Int → Int → zL5 → Int → Int → Int → Int → ByteArray → List Int → zL5 → Int → Int → Int → Int → List Bool → Int → List Bool → Int → Int → zL1 → zL1 → Option R
  | 0, _, _, _, _, _, _, _, _, _, _, _, _, _, _, _, _, _, _, _, _, _, _, _, _, _, _, _, _, _, _ => none
  | m + 1, c1, c15, c16, c17, c18, c19, c20, c21, c22, c23, c24, c25, c26, c27, c28, c29, c30, c31, c32, c33, c34, c35, c36, c37, c38, c39, c40, c41, c42, c43 => f8_0b k (f8_0d k K x0 c0 c2 c3 c4 c5 c6 c7 c8 c9 c10 c11 c12 c13 c14 m) K x0 c0 c2 c3 c4 c5 c6 c7 c8 c9 c10 c11 c12 c13 c14 c1 c15 c16 c17 c18 c19 c20 c21 c22 c23 c24 c25 c26 c27 c28 c29 c30 c31 c32 c33 c34 c35 c36 c37 c38 c39 c40 c41 c42 c43
def f8_0 := hid (@f8_0d R)
theorem f8_0_def : @f8_0 R = @f8_0d R := hid_eq
def f8d (k : Nat) (a0 a1 a2 a3 a4 a5 : Int) (a6 : ByteArray) (a7 : List Int) (a8 a9 : List Bool) (a10 : Int) (K : zK10 R) : Option R := match k with
  | 0 => none
  | k + 1 => (f24 k a0 a1 a2 a3 a4 (fun r0_0 => (bif (r0_0 != 0) then (K 0 0 (⟨#[]⟩ : ByteArray) ([] : List Int) 0 ([] : zL5) 0 0 0 0 (⟨#[]⟩ : ByteArray) ([] : List Int) ([] : zL5) 0 0 0 0 r0_0 ([] : List Int)) else (f25 k a5 a6 a7 (fun r1_0 r1_1 r1_2 r1_3 r1_4 r1_5 r1_6 r1_7 => (bif (r1_6 != 0) then (K 0 0 (⟨#[]⟩ : ByteArray) ([] : List Int) 0 ([] : zL5) 0 0 0 0 (⟨#[]⟩ : ByteArray) ([] : List Int) ([] : zL5) 0 0 0 0 r1_6 ([] : List Int)) else (bif (decide ((a8.length : Int) > 20000) == false) then (bif decide ((a9.length : Int) > 20000) then (K 0 0 (⟨#[]⟩ : ByteArray) ([] : List Int) 0 ([] : zL5) 0 0 0 0 (⟨#[]⟩ : ByteArray) ([] : List Int) ([] : zL5) 0 0 0 0 2 ([] : List Int)) else (f26 k a10 0 1000000 (fun r2_0 => (bif (!r2_0) then (K 0 0 (⟨#[]⟩ : ByteArray) ([] : List Int) 0 ([] : zL5) 0 0 0 0 (⟨#[]⟩ : ByteArray) ([] : List Int) ([] : zL5) 0 0 0 0 1 ([] : List Int)) else (f27 k a5 (fun r3_0 r3_1 r3_2 r3_3 r3_4 r3_5 r3_6 r3_7 => (f8_0 k K (fun p13 p14 p15 p16 p17 p18 p19 p20 p21 p22 p23 p24 p25 p26 p27 p28 p29 p30 p31 p32 p33 p34 p35 p36 p37 p38 p39 p40 p41 => (K p18 p19 p20 p21 p22 p23 p24 p25 p26 p27 p28 p29 p30 p31 p32 p33 p34 0 ([p36, p38, p39] : List Int))) a10 0 0 (⟨#[]⟩ : ByteArray) 0 0 0 0 0 (⟨#[]⟩ : ByteArray) 0 0 0 0 k 0 a0 a1 a2 a3 a4 r1_0 r1_1 r1_2 r1_7 r1_3 ([] : zL5) r1_4 r1_5 r3_0 r3_1 r3_2 ([] : List Int) ([] : zL5) r3_3 r3_4 r3_5 r3_6 a8 0 a9 0 (-1) ([] : List ((Int × ((Int × (Int × (ByteArray × (Int × (Int × (Int × (List Int × (zL5 × (Bool × Unit))))))))) × Unit)))) ([] : List ((Int × ((Int × (Int × (ByteArray × (Int × (Int × (Int × (List Int × (zL5 × (Bool × Unit))))))))) × Unit))))))))))) else (K 0 0 (⟨#[]⟩ : ByteArray) ([] : List Int) 0 ([] : zL5) 0 0 0 0 (⟨#[]⟩ : ByteArray) ([] : List Int) ([] : zL5) 0 0 0 0 2 ([] : List Int)))))))))
def f8 := hid (@f8d R)
theorem f8_def : @f8 R = @f8d R := hid_eq
def f71d (k : Nat) (a0 : Int) (K : Bool → Option R) : Option R := match k with
  | 0 => none
  | k + 1 => (bif ((bits .and .i64 a0 (IntKind.i64.wrap (a0 - 1)) == 0) == false) then (K (a0 == 22)) else (K true))
def f71 := hid (@f71d R)
theorem f71_def : @f71 R = @f71d R := hid_eq
def f72d (k : Nat) (a0 : Int) (K : Int → Option R) : Option R := match k with
  | 0 => none
  | k + 1 => (bif decide (0 ≤ IntKind.i64.wrap (a0 - 1)) then (K (IntKind.i64.wrap (1 * 2 ^ min (Int.toNat (IntKind.i64.wrap (a0 - 1))) 64))) else none)
def f72 := hid (@f72d R)
theorem f72_def : @f72 R = @f72d R := hid_eq
def f73_1000006d (k : Nat) (xN : Int → Option R) (c1 c2 : Int) (c3 : Bool) : Option R :=
  (bif c3 then (xN (bits .xor .i64 c1 c2)) else (xN c1))
def f73_1000006 := hid (@f73_1000006d R)
theorem f73_1000006_def : @f73_1000006 R = @f73_1000006d R := hid_eq
def f73_0b (k : Nat) (rec : Int → Int → Option R) (x0 : Int → Option R) (c0 c1 c2 : Int) : Option R :=
  (bif decide (c2 < 22) then (f72 k c2 (fun r0_0 => (f73_1000006 k (fun p1 => (rec p1 (IntKind.i64.wrap (c2 + 1)))) c1 c2 (bits .and .i64 c0 r0_0 != 0)))) else (x0 c1))
def f73_0d (k : Nat) (x0 : Int → Option R) (c0 : Int) : Nat → Int → Int → Option R
  | 0, _, _ => none
  | m + 1, c1, c2 => f73_0b k (f73_0d k x0 c0 m) x0 c0 c1 c2
def f73_0 := hid (@f73_0d R)
theorem f73_0_def : @f73_0 R = @f73_0d R := hid_eq
def f73d (k : Nat) (a0 : Int) (K : Int → Option R) : Option R := match k with
  | 0 => none
  | k + 1 => (f73_0 k (fun p0 => (K p0)) a0 k 0 1)
def f73 := hid (@f73d R)
theorem f73_def : @f73 R = @f73d R := hid_eq
def f137d (k : Nat) (a0 : Int) (K : Int → Option R) : Option R := match k with
  | 0 => none
  | k + 1 => (K (bits .and .i64 (IntKind.i64.wrap (IntKind.u64.wrap ((IntKind.u64.wrap ((IntKind.u64.wrap ((bits .and .u64 (IntKind.u64.wrap ((Int.fdiv (IntKind.u64.wrap ((bits .and .u64 (Int.fdiv (IntKind.u64.wrap ((bits .and .u64 (Int.fdiv a0 (2 ^ 1)) 6148914691236517205) + (bits .and .u64 a0 6148914691236517205))) (2 ^ 2)) 3689348814741910323) + (bits .and .u64 (IntKind.u64.wrap ((bits .and .u64 (Int.fdiv a0 (2 ^ 1)) 6148914691236517205) + (bits .and .u64 a0 6148914691236517205))) 3689348814741910323))) (2 ^ 4)) + (IntKind.u64.wrap ((bits .and .u64 (Int.fdiv (IntKind.u64.wrap ((bits .and .u64 (Int.fdiv a0 (2 ^ 1)) 6148914691236517205) + (bits .and .u64 a0 6148914691236517205))) (2 ^ 2)) 3689348814741910323) + (bits .and .u64 (IntKind.u64.wrap ((bits .and .u64 (Int.fdiv a0 (2 ^ 1)) 6148914691236517205) + (bits .and .u64 a0 6148914691236517205))) 3689348814741910323))))) 1085102592571150095) + (Int.fdiv (bits .and .u64 (IntKind.u64.wrap ((Int.fdiv (IntKind.u64.wrap ((bits .and .u64 (Int.fdiv (IntKind.u64.wrap ((bits .and .u64 (Int.fdiv a0 (2 ^ 1)) 6148914691236517205) + (bits .and .u64 a0 6148914691236517205))) (2 ^ 2)) 3689348814741910323) + (bits .and .u64 (IntKind.u64.wrap ((bits .and .u64 (Int.fdiv a0 (2 ^ 1)) 6148914691236517205) + (bits .and .u64 a0 6148914691236517205))) 3689348814741910323))) (2 ^ 4)) + (IntKind.u64.wrap ((bits .and .u64 (Int.fdiv (IntKind.u64.wrap ((bits .and .u64 (Int.fdiv a0 (2 ^ 1)) 6148914691236517205) + (bits .and .u64 a0 6148914691236517205))) (2 ^ 2)) 3689348814741910323) + (bits .and .u64 (IntKind.u64.wrap ((bits .and .u64 (Int.fdiv a0 (2 ^ 1)) 6148914691236517205) + (bits .and .u64 a0 6148914691236517205))) 3689348814741910323))))) 1085102592571150095) (2 ^ 8)))) + (Int.fdiv (IntKind.u64.wrap ((bits .and .u64 (IntKind.u64.wrap ((Int.fdiv (IntKind.u64.wrap ((bits .and .u64 (Int.fdiv (IntKind.u64.wrap ((bits .and .u64 (Int.fdiv a0 (2 ^ 1)) 6148914691236517205) + (bits .and .u64 a0 6148914691236517205))) (2 ^ 2)) 3689348814741910323) + (bits .and .u64 (IntKind.u64.wrap ((bits .and .u64 (Int.fdiv a0 (2 ^ 1)) 6148914691236517205) + (bits .and .u64 a0 6148914691236517205))) 3689348814741910323))) (2 ^ 4)) + (IntKind.u64.wrap ((bits .and .u64 (Int.fdiv (IntKind.u64.wrap ((bits .and .u64 (Int.fdiv a0 (2 ^ 1)) 6148914691236517205) + (bits .and .u64 a0 6148914691236517205))) (2 ^ 2)) 3689348814741910323) + (bits .and .u64 (IntKind.u64.wrap ((bits .and .u64 (Int.fdiv a0 (2 ^ 1)) 6148914691236517205) + (bits .and .u64 a0 6148914691236517205))) 3689348814741910323))))) 1085102592571150095) + (Int.fdiv (bits .and .u64 (IntKind.u64.wrap ((Int.fdiv (IntKind.u64.wrap ((bits .and .u64 (Int.fdiv (IntKind.u64.wrap ((bits .and .u64 (Int.fdiv a0 (2 ^ 1)) 6148914691236517205) + (bits .and .u64 a0 6148914691236517205))) (2 ^ 2)) 3689348814741910323) + (bits .and .u64 (IntKind.u64.wrap ((bits .and .u64 (Int.fdiv a0 (2 ^ 1)) 6148914691236517205) + (bits .and .u64 a0 6148914691236517205))) 3689348814741910323))) (2 ^ 4)) + (IntKind.u64.wrap ((bits .and .u64 (Int.fdiv (IntKind.u64.wrap ((bits .and .u64 (Int.fdiv a0 (2 ^ 1)) 6148914691236517205) + (bits .and .u64 a0 6148914691236517205))) (2 ^ 2)) 3689348814741910323) + (bits .and .u64 (IntKind.u64.wrap ((bits .and .u64 (Int.fdiv a0 (2 ^ 1)) 6148914691236517205) + (bits .and .u64 a0 6148914691236517205))) 3689348814741910323))))) 1085102592571150095) (2 ^ 8)))) (2 ^ 16)))) + (Int.fdiv (IntKind.u64.wrap ((IntKind.u64.wrap ((bits .and .u64 (IntKind.u64.wrap ((Int.fdiv (IntKind.u64.wrap ((bits .and .u64 (Int.fdiv (IntKind.u64.wrap ((bits .and .u64 (Int.fdiv a0 (2 ^ 1)) 6148914691236517205) + (bits .and .u64 a0 6148914691236517205))) (2 ^ 2)) 3689348814741910323) + (bits .and .u64 (IntKind.u64.wrap ((bits .and .u64 (Int.fdiv a0 (2 ^ 1)) 6148914691236517205) + (bits .and .u64 a0 6148914691236517205))) 3689348814741910323))) (2 ^ 4)) + (IntKind.u64.wrap ((bits .and .u64 (Int.fdiv (IntKind.u64.wrap ((bits .and .u64 (Int.fdiv a0 (2 ^ 1)) 6148914691236517205) + (bits .and .u64 a0 6148914691236517205))) (2 ^ 2)) 3689348814741910323) + (bits .and .u64 (IntKind.u64.wrap ((bits .and .u64 (Int.fdiv a0 (2 ^ 1)) 6148914691236517205) + (bits .and .u64 a0 6148914691236517205))) 3689348814741910323))))) 1085102592571150095) + (Int.fdiv (bits .and .u64 (IntKind.u64.wrap ((Int.fdiv (IntKind.u64.wrap ((bits .and .u64 (Int.fdiv (IntKind.u64.wrap ((bits .and .u64 (Int.fdiv a0 (2 ^ 1)) 6148914691236517205) + (bits .and .u64 a0 6148914691236517205))) (2 ^ 2)) 3689348814741910323) + (bits .and .u64 (IntKind.u64.wrap ((bits .and .u64 (Int.fdiv a0 (2 ^ 1)) 6148914691236517205) + (bits .and .u64 a0 6148914691236517205))) 3689348814741910323))) (2 ^ 4)) + (IntKind.u64.wrap ((bits .and .u64 (Int.fdiv (IntKind.u64.wrap ((bits .and .u64 (Int.fdiv a0 (2 ^ 1)) 6148914691236517205) + (bits .and .u64 a0 6148914691236517205))) (2 ^ 2)) 3689348814741910323) + (bits .and .u64 (IntKind.u64.wrap ((bits .and .u64 (Int.fdiv a0 (2 ^ 1)) 6148914691236517205) + (bits .and .u64 a0 6148914691236517205))) 3689348814741910323))))) 1085102592571150095) (2 ^ 8)))) + (Int.fdiv (IntKind.u64.wrap ((bits .and .u64 (IntKind.u64.wrap ((Int.fdiv (IntKind.u64.wrap ((bits .and .u64 (Int.fdiv (IntKind.u64.wrap ((bits .and .u64 (Int.fdiv a0 (2 ^ 1)) 6148914691236517205) + (bits .and .u64 a0 6148914691236517205))) (2 ^ 2)) 3689348814741910323) + (bits .and .u64 (IntKind.u64.wrap ((bits .and .u64 (Int.fdiv a0 (2 ^ 1)) 6148914691236517205) + (bits .and .u64 a0 6148914691236517205))) 3689348814741910323))) (2 ^ 4)) + (IntKind.u64.wrap ((bits .and .u64 (Int.fdiv (IntKind.u64.wrap ((bits .and .u64 (Int.fdiv a0 (2 ^ 1)) 6148914691236517205) + (bits .and .u64 a0 6148914691236517205))) (2 ^ 2)) 3689348814741910323) + (bits .and .u64 (IntKind.u64.wrap ((bits .and .u64 (Int.fdiv a0 (2 ^ 1)) 6148914691236517205) + (bits .and .u64 a0 6148914691236517205))) 3689348814741910323))))) 1085102592571150095) + (Int.fdiv (bits .and .u64 (IntKind.u64.wrap ((Int.fdiv (IntKind.u64.wrap ((bits .and .u64 (Int.fdiv (IntKind.u64.wrap ((bits .and .u64 (Int.fdiv a0 (2 ^ 1)) 6148914691236517205) + (bits .and .u64 a0 6148914691236517205))) (2 ^ 2)) 3689348814741910323) + (bits .and .u64 (IntKind.u64.wrap ((bits .and .u64 (Int.fdiv a0 (2 ^ 1)) 6148914691236517205) + (bits .and .u64 a0 6148914691236517205))) 3689348814741910323))) (2 ^ 4)) + (IntKind.u64.wrap ((bits .and .u64 (Int.fdiv (IntKind.u64.wrap ((bits .and .u64 (Int.fdiv a0 (2 ^ 1)) 6148914691236517205) + (bits .and .u64 a0 6148914691236517205))) (2 ^ 2)) 3689348814741910323) + (bits .and .u64 (IntKind.u64.wrap ((bits .and .u64 (Int.fdiv a0 (2 ^ 1)) 6148914691236517205) + (bits .and .u64 a0 6148914691236517205))) 3689348814741910323))))) 1085102592571150095) (2 ^ 8)))) (2 ^ 16)))) (2 ^ 32))))) 127))
def f137 := hid (@f137d R)
theorem f137_def : @f137 R = @f137d R := hid_eq
def f107d (k : Nat) (a0 : Int) (K : Int → Option R) : Option R := match k with
  | 0 => none
  | k + 1 => (f137 k a0 (fun r0_0 => (K r0_0)))
def f107 := hid (@f107d R)
theorem f107_def : @f107 R = @f107d R := hid_eq
def f74d (k : Nat) (a0 : Int) (K : Bool → Option R) : Option R := match k with
  | 0 => none
  | k + 1 => (f107 k (IntKind.u64.wrap a0) (fun r0_0 => (K (Int.tmod r0_0 2 == 1))))
def f74 := hid (@f74d R)
theorem f74_def : @f74 R = @f74d R := hid_eq
def f36_1000009d (k : Nat) (xN : Int → Option R) (c1 c2 : Int) (c3 : Bool) : Option R :=
  (bif c3 then (f72 k c2 (fun r0_0 => (xN (bits .or .i64 c1 r0_0)))) else (xN c1))
def f36_1000009 := hid (@f36_1000009d R)
theorem f36_1000009_def : @f36_1000009 R = @f36_1000009d R := hid_eq
def f36_1000008d (k : Nat) (xN : Int → Int → Option R) (c0 c1 c2 : Int) (c3 : Bool) : Option R :=
  (bif c3 then (f36_1000009 k (fun p1 => (xN (Int.fdiv c0 (2 ^ 1)) p1)) c1 c2 (bits .and .i64 c0 1 != 0)) else (xN c0 c1))
def f36_1000008 := hid (@f36_1000008d R)
theorem f36_1000008_def : @f36_1000008 R = @f36_1000008d R := hid_eq
def f36_0b (k : Nat) (rec : Int → Int → Int → Option R) (x0 : Int → Option R) (c0 c1 c2 : Int) : Option R :=
  (bif decide (c2 < 22) then (f71 k c2 (fun r0_0 => (f36_1000008 k (fun p0 p1 => (rec p0 p1 (IntKind.i64.wrap (c2 + 1)))) c0 c1 c2 (!r0_0)))) else (x0 c1))
def f36_0d (k : Nat) (x0 : Int → Option R) : Nat → Int → Int → Int → Option R
  | 0, _, _, _ => none
  | m + 1, c0, c1, c2 => f36_0b k (f36_0d k x0 m) x0 c0 c1 c2
def f36_0 := hid (@f36_0d R)
theorem f36_0_def : @f36_0 R = @f36_0d R := hid_eq
def f36_1000016d (k : Nat) (xN : Int → Option R) (c0 c2 : Int) (c3 : Bool) : Option R :=
  (bif c3 then (f72 k c2 (fun r0_0 => (xN (bits .or .i64 c0 r0_0)))) else (xN c0))
def f36_1000016 := hid (@f36_1000016d R)
theorem f36_1000016_def : @f36_1000016 R = @f36_1000016d R := hid_eq
def f36_2b (k : Nat) (rec : Int → Int → Option R) (x2 : Int → Option R) (c1 c0 c2 : Int) : Option R :=
  (bif decide (c2 < 22) then (f36_1000016 k (fun p0 => (rec p0 (IntKind.i64.wrap (c2 * 2)))) c0 c2 (bits .and .i64 c1 c2 != 0)) else (x2 c0))
def f36_2d (k : Nat) (x2 : Int → Option R) (c1 : Int) : Nat → Int → Int → Option R
  | 0, _, _ => none
  | m + 1, c0, c2 => f36_2b k (f36_2d k x2 c1 m) x2 c1 c0 c2
def f36_2 := hid (@f36_2d R)
theorem f36_2_def : @f36_2 R = @f36_2d R := hid_eq
def f36_1000018d (k : Nat) (xN : Int → Option R) (c0 : Int) (c1 : Bool) : Option R :=
  (bif c1 then (f72 k 22 (fun r0_0 => (xN (bits .or .i64 c0 r0_0)))) else (xN c0))
def f36_1000018 := hid (@f36_1000018d R)
theorem f36_1000018_def : @f36_1000018 R = @f36_1000018d R := hid_eq
def f36d (k : Nat) (a0 : Int) (K : Int → Int → Option R) : Option R := match k with
  | 0 => none
  | k + 1 => (f26 k a0 0 65535 (fun r0_0 => (bif (!r0_0) then (K 0 1) else (f36_0 k (fun y0_0_0 => (f73 k y0_0_0 (fun r1_0 => (f36_2 k (fun y2_2_0 => (f74 k y2_2_0 (fun r2_0 => (f36_1000018 k (fun y18_N_0 => (K y18_N_0 0)) y2_2_0 r2_0)))) r1_0 k y0_0_0 1)))) k a0 0 1))))
def f36 := hid (@f36d R)
theorem f36_def : @f36 R = @f36d R := hid_eq
def f75_1000011d (k : Nat) (xN : Int → Option R) (c0 : Int) (c5 : Bool) : Option R :=
  (bif c5 then (xN (bits .xor .i64 c0 4129)) else (xN c0))
def f75_1000011 := hid (@f75_1000011d R)
theorem f75_1000011_def : @f75_1000011 R = @f75_1000011d R := hid_eq
def f75_2b (k : Nat) (rec : Int → Int → Option R) (x2 : Int → Option R) (c1 : List Int) (c2 c3 c0 c4 : Int) : Option R :=
  (bif decide (c4 < 8) then (f75_1000011 k (fun p0 => (rec p0 (IntKind.i64.wrap (c4 + 1)))) (Int.tmod (IntKind.i64.wrap (c0 * 2)) 65536) (decide (c0 ≥ 32768))) else (x2 c0))
def f75_2d (k : Nat) (x2 : Int → Option R) (c1 : List Int) (c2 c3 : Int) : Nat → Int → Int → Option R
  | 0, _, _ => none
  | m + 1, c0, c4 => f75_2b k (f75_2d k x2 c1 c2 c3 m) x2 c1 c2 c3 c0 c4
def f75_2 := hid (@f75_2d R)
theorem f75_2_def : @f75_2 R = @f75_2d R := hid_eq
def f75_0b (k : Nat) (rec : Int → Int → Option R) (x0 : Int → Option R) (c1 : List Int) (c2 c0 c3 : Int) : Option R :=
  (bif decide (c3 < c2) then (bif (decide (0 ≤ c3) && decide (c3 < (c1.length : Int))) then (f75_2 k (fun p0 => (rec p0 (IntKind.i64.wrap (c3 + 1)))) c1 c2 c3 k (bits .xor .i64 c0 (IntKind.i64.wrap ((IntKind.i64.wrap (c1.getD (Int.toNat c3) 0)) * 256))) 0) else none) else (x0 c0))
def f75_0d (k : Nat) (x0 : Int → Option R) (c1 : List Int) (c2 : Int) : Nat → Int → Int → Option R
  | 0, _, _ => none
  | m + 1, c0, c3 => f75_0b k (f75_0d k x0 c1 c2 m) x0 c1 c2 c0 c3
def f75_0 := hid (@f75_0d R)
theorem f75_0_def : @f75_0 R = @f75_0d R := hid_eq
def f75d (k : Nat) (a0 : List Int) (K : Int → Option R) : Option R := match k with
  | 0 => none
  | k + 1 => (f75_0 k (fun p0 => (K p0)) a0 (a0.length : Int) k 65535 0)
def f75 := hid (@f75d R)
theorem f75_def : @f75 R = @f75d R := hid_eq
def f37d (k : Nat) (a0 : List Int) (K : Int → Int → Option R) : Option R := match k with
  | 0 => none
  | k + 1 => (bif decide ((a0.length : Int) > 262144) then (K 0 2) else (f75 k a0 (fun r0_0 => (K r0_0 0))))
def f37 := hid (@f37d R)
theorem f37_def : @f37 R = @f37d R := hid_eq
def f38_1000010d (k : Nat) (xN : Int → Option R) (c0 : Int) (c5 : Bool) : Option R :=
  (bif c5 then (xN (bits .xor .i64 c0 69665)) else (xN c0))
def f38_1000010 := hid (@f38_1000010d R)
theorem f38_1000010_def : @f38_1000010 R = @f38_1000010d R := hid_eq
def f38_2b (k : Nat) (rec : Int → Int → Option R) (x2 : Int → Option R) (c1 : List Int) (c2 c3 c0 c4 : Int) : Option R :=
  (bif decide (c4 < 8) then (f38_1000010 k (fun p0 => (rec p0 (IntKind.i64.wrap (c4 + 1)))) (IntKind.i64.wrap (c0 * 2 ^ 1)) (bits .and .i64 (IntKind.i64.wrap (c0 * 2 ^ 1)) 65536 != 0)) else (x2 c0))
def f38_2d (k : Nat) (x2 : Int → Option R) (c1 : List Int) (c2 c3 : Int) : Nat → Int → Int → Option R
  | 0, _, _ => none
  | m + 1, c0, c4 => f38_2b k (f38_2d k x2 c1 c2 c3 m) x2 c1 c2 c3 c0 c4
def f38_2 := hid (@f38_2d R)
theorem f38_2_def : @f38_2 R = @f38_2d R := hid_eq
def f38_0b (k : Nat) (rec : Int → Int → Option R) (x0 : Int → Option R) (c1 : List Int) (c2 c0 c3 : Int) : Option R :=
  (bif decide (c3 < c2) then (bif (decide (0 ≤ c3) && decide (c3 < (c1.length : Int))) then (f38_2 k (fun p0 => (rec p0 (IntKind.i64.wrap (c3 + 1)))) c1 c2 c3 k (bits .xor .i64 c0 (IntKind.i64.wrap ((IntKind.i64.wrap (c1.getD (Int.toNat c3) 0)) * 2 ^ 8))) 0) else none) else (x0 c0))
def f38_0d (k : Nat) (x0 : Int → Option R) (c1 : List Int) (c2 : Int) : Nat → Int → Int → Option R
  | 0, _, _ => none
  | m + 1, c0, c3 => f38_0b k (f38_0d k x0 c1 c2 m) x0 c1 c2 c0 c3
def f38_0 := hid (@f38_0d R)
theorem f38_0_def : @f38_0 R = @f38_0d R := hid_eq
def f38d (k : Nat) (a0 : List Int) (K : Int → Option R) : Option R := match k with
  | 0 => none
  | k + 1 => (f38_0 k (fun p0 => (K p0)) a0 (a0.length : Int) k 65535 0)
def f38 := hid (@f38d R)
theorem f38_def : @f38 R = @f38d R := hid_eq
def f13d (k : Nat) (K : Bool → Option R) : Option R := match k with
  | 0 => none
  | k + 1 => (f36 k 1 (fun r0_0 r0_1 => (bif decide (0 < ([(49 : Int), (50 : Int), (51 : Int), (52 : Int), (53 : Int), (54 : Int), (55 : Int), (56 : Int), 57] : List Int).length) then (f37 k ([(49 : Int), (50 : Int), (51 : Int), (52 : Int), (53 : Int), (54 : Int), (55 : Int), (56 : Int), 57] : List Int) (fun r1_0 r1_1 => (bif ((r0_1 == 0) == true) then (bif ((r1_1 == 0) == true) then (bif ((r0_0 == 2097159) == true) then (bif decide (0 < ([(49 : Int), (50 : Int), (51 : Int), (52 : Int), (53 : Int), (54 : Int), (55 : Int), (56 : Int), 57] : List Int).length) then (f38 k ([(49 : Int), (50 : Int), (51 : Int), (52 : Int), (53 : Int), (54 : Int), (55 : Int), (56 : Int), 57] : List Int) (fun r2_0 => (K (r1_0 == r2_0)))) else none) else (K false)) else (K false)) else (K false)))) else none)))
def f13 := hid (@f13d R)
theorem f13_def : @f13 R = @f13d R := hid_eq
def f14_0b (k : Nat) (rec : Int → Option R) (K : Bool → Option R) (x0 : Option R) (c0 c1 : List Int) (c2 c3 : Int) : Option R :=
  (bif decide (c3 < c2) then (bif (decide (0 ≤ c3) && decide (c3 < (c0.length : Int))) then (bif (decide (0 ≤ c3) && decide (c3 < (c1.length : Int))) then (bif ((c0.getD (Int.toNat c3) 0) != (c1.getD (Int.toNat c3) 0)) then (K false) else (rec (IntKind.i64.wrap (c3 + 1)))) else none) else none) else x0)
def f14_0d (k : Nat) (K : Bool → Option R) (x0 : Option R) (c0 c1 : List Int) (c2 : Int) : Nat → Int → Option R
  | 0, _ => none
  | m + 1, c3 => f14_0b k (f14_0d k K x0 c0 c1 c2 m) K x0 c0 c1 c2 c3
def f14_0 := hid (@f14_0d R)
theorem f14_0_def : @f14_0 R = @f14_0d R := hid_eq
def f14d (k : Nat) (a0 a1 : List Int) (K : Bool → Option R) : Option R := match k with
  | 0 => none
  | k + 1 => (bif ((a0.length : Int) != (a1.length : Int)) then (K false) else (f14_0 k K (K true) a0 a1 (a0.length : Int) k 0))
def f14 := hid (@f14d R)
theorem f14_def : @f14 R = @f14d R := hid_eq
def f39_1b (k : Nat) (rec K : Int → Option R) (x1 : Option R) (c0 : List Int) (c1 c3 c4 : Int) (c5 : List Int) (c2 : Int) : Option R :=
  (bif decide (c2 < c1) then (bif (decide (0 ≤ c2) && decide (c2 < (c0.length : Int))) then (f26 k (c0.getD (Int.toNat c2) 0) (IntKind.i64.wrap (c4 + 1)) (if 1000000000 < IntKind.i64.wrap (c4 + 64) then 1000000000 else IntKind.i64.wrap (c4 + 64)) (fun r0_0 => (bif (!r0_0) then (K 1) else (bif (decide (c2 > 0) == true) then (bif (decide (0 ≤ IntKind.i64.wrap (c2 - 1)) && decide (IntKind.i64.wrap (c2 - 1) < (c5.length : Int))) then (bif decide ((c0.getD (Int.toNat c2) 0) ≤ (c5.getD (Int.toNat (IntKind.i64.wrap (c2 - 1))) 0)) then (K 8) else (rec (IntKind.i64.wrap (c2 + 1)))) else none) else (rec (IntKind.i64.wrap (c2 + 1))))))) else none) else x1)
def f39_1d (k : Nat) (K : Int → Option R) (x1 : Option R) (c0 : List Int) (c1 c3 c4 : Int) (c5 : List Int) : Nat → Int → Option R
  | 0, _ => none
  | m + 1, c2 => f39_1b k (f39_1d k K x1 c0 c1 c3 c4 c5 m) K x1 c0 c1 c3 c4 c5 c2
def f39_1 := hid (@f39_1d R)
theorem f39_1_def : @f39_1 R = @f39_1d R := hid_eq
def f39d (k : Nat) (a0 a1 : Int) (a2 : List Int) (K : Int → Option R) : Option R := match k with
  | 0 => none
  | k + 1 => (f26 k a0 0 1000000000000000 (fun r0_0 => (bif ((!r0_0) == false) then (f26 k a1 0 1000000001 (fun r1_0 => (bif (!r1_0) then (K 1) else (bif decide ((a2.length : Int) > 64) then (K 2) else (f39_1 k K (K 0) a2 (a2.length : Int) a0 a1 a2 k 0))))) else (K 1))))
def f39 := hid (@f39d R)
theorem f39_def : @f39 R = @f39d R := hid_eq
def f40d (k : Nat) (a0 : List Int) (K : List Int → Option R) : Option R := match k with
  | 0 => none
  | _ + 1 => bif decide (a0.length ≤ LIM 8) then K a0 else none
def f40 := hid (@f40d R)
theorem f40_def : @f40 R = @f40d R := hid_eq
def f76_0b (k : Nat) (rec : Int → Int → Option R) (x0 : Int → Option R) (c1 : List Int) (c2 c0 c3 : Int) : Option R :=
  (bif decide (c3 < c2) then (bif (decide (0 ≤ c3) && decide (c3 < (c1.length : Int))) then (rec (bits .or .u64 (IntKind.u64.wrap (c0 * 2 ^ 8)) (IntKind.u64.wrap (c1.getD (Int.toNat c3) 0))) (IntKind.i64.wrap (c3 + 1))) else none) else (x0 c0))
def f76_0d (k : Nat) (x0 : Int → Option R) (c1 : List Int) (c2 : Int) : Nat → Int → Int → Option R
  | 0, _, _ => none
  | m + 1, c0, c3 => f76_0b k (f76_0d k x0 c1 c2 m) x0 c1 c2 c0 c3
def f76_0 := hid (@f76_0d R)
theorem f76_0_def : @f76_0 R = @f76_0d R := hid_eq
def f76d (k : Nat) (a0 : List Int) (K : Int → Option R) : Option R := match k with
  | 0 => none
  | k + 1 => (bif decide (8 ≤ (a0.length : Int)) then (f76_0 k (fun p0 => (K p0)) (a0.take 8) ((a0.take 8).length : Int) k 0 0) else none)
def f76 := hid (@f76d R)
theorem f76_def : @f76 R = @f76d R := hid_eq
def f85_0b (k : Nat) (rec K : Int → Option R) (x0 : Option R) (c0 : List Int) (c1 c2 c3 : Int) : Option R :=
  (bif decide (c3 < c2) then (bif (decide (0 ≤ c3) && decide (c3 < (c0.length : Int))) then (bif (c1 == (c0.getD (Int.toNat c3) 0)) then (K c3) else (rec (IntKind.i64.wrap (c3 + 1)))) else none) else x0)
def f85_0d (k : Nat) (K : Int → Option R) (x0 : Option R) (c0 : List Int) (c1 c2 : Int) : Nat → Int → Option R
  | 0, _ => none
  | m + 1, c3 => f85_0b k (f85_0d k K x0 c0 c1 c2 m) K x0 c0 c1 c2 c3
def f85_0 := hid (@f85_0d R)
theorem f85_0_def : @f85_0 R = @f85_0d R := hid_eq
def f85d (k : Nat) (a0 : List Int) (a1 : Int) (K : Int → Option R) : Option R := match k with
  | 0 => none
  | k + 1 => (f85_0 k K (K (-1)) a0 a1 (a0.length : Int) k 0)
def f85 := hid (@f85d R)
theorem f85_def : @f85 R = @f85d R := hid_eq
def f52d (k : Nat) (a0 : List Int) (a1 : Int) (K : Bool → Option R) : Option R := match k with
  | 0 => none
  | k + 1 => (f85 k a0 a1 (fun r0_0 => (K (decide (r0_0 ≥ 0)))))
def f52 := hid (@f52d R)
theorem f52_def : @f52 R = @f52d R := hid_eq
def f49d (k : Nat) (a0 : List Int) (K : List Int → Option R) : Option R := match k with
  | 0 => none
  | _ + 1 => bif sortIOk a0 then K (sortI a0) else none
def f49 := hid (@f49d R)
theorem f49_def : @f49 R = @f49d R := hid_eq
def f77_0b (k : Nat) (rec x0 : Int → List Int → Option R) (c0 : Int) (c2 : List Int) (c3 c4 c1 : Int) (c5 : List Int) : Option R :=
  (bif (decide ((c5.length : Int) > 0) == true) then (bif decide (0 < (c5.length : Int)) then (bif ((c5.getD 0 0) == c1) then (bif decide (1 ≤ (c5.length : Int)) then (rec (IntKind.i64.wrap (c1 + 1)) ((c5.drop 1).take (c5.length - 1))) else none) else (x0 c1 c5)) else none) else (x0 c1 c5))
def f77_0d (k : Nat) (x0 : Int → List Int → Option R) (c0 : Int) (c2 : List Int) (c3 c4 : Int) : Nat → Int → List Int → Option R
  | 0, _, _ => none
  | m + 1, c1, c5 => f77_0b k (f77_0d k x0 c0 c2 c3 c4 m) x0 c0 c2 c3 c4 c1 c5
def f77_0 := hid (@f77_0d R)
theorem f77_0_def : @f77_0 R = @f77_0d R := hid_eq
def f77d (k : Nat) (a0 a1 : Int) (a2 : List Int) (a3 : Int) (K : Int → Int → List Int → Option R) : Option R := match k with
  | 0 => none
  | k + 1 => (f40 k a2 (fun r0_0 => (bif decide (r0_0.length + ([a3] : List Int).length ≤ LIM 8) then (f49 k (r0_0 ++ ([a3] : List Int)) (fun r1_0 => (bif (decide (r1_0.length = (r0_0 ++ ([a3] : List Int)).length) && true) then (f77_0 k (fun p1 p5 => (f40 k p5 (fun r2_0 => (K a0 p1 r2_0)))) a0 a2 0 0 k a1 r1_0) else none))) else none)))
def f77 := hid (@f77d R)
theorem f77_def : @f77 R = @f77d R := hid_eq
def f41d (k : Nat) (a0 a1 : Int) (a2 a3 : List Int) (K : Int → Int → Int → Int → List Int → List Int → Option R) : Option R := match k with
  | 0 => none
  | k + 1 => (bif decide ((a3.length : Int) ≤ 16) then (K 0 0 0 9 ([] : List Int) ([] : List Int)) else (bif decide ((a3.length : Int) > 216) then (K 0 0 0 2 ([] : List Int) ([] : List Int)) else (bif (decide (0 ≤ IntKind.i64.wrap ((a3.length : Int) - 8)) && decide (IntKind.i64.wrap ((a3.length : Int) - 8) ≤ (a3.length : Int))) then (f35 k a0 (a3.take (Int.toNat (IntKind.i64.wrap ((a3.length : Int) - 8)))) (fun r0_0 => (bif (decide (0 ≤ IntKind.i64.wrap ((a3.length : Int) - 8)) && decide (IntKind.i64.wrap ((a3.length : Int) - 8) ≤ (a3.length : Int))) then (f76 k (a3.drop (Int.toNat (IntKind.i64.wrap ((a3.length : Int) - 8)))) (fun r1_0 => (bif (r0_0 != r1_0) then (K 0 0 0 15 ([] : List Int) ([] : List Int)) else (f76 k a3 (fun r2_0 => (bif decide (r2_0 > 1000000000) then (K 0 0 0 1 ([] : List Int) ([] : List Int)) else (bif (decide (IntKind.i64.wrap r2_0 < a1) == false) then (f52 k a2 (IntKind.i64.wrap r2_0) (fun r3_0 => (bif r3_0 then (K 0 0 0 7 ([] : List Int) ([] : List Int)) else (bif decide (IntKind.i64.wrap r2_0 > IntKind.i64.wrap (a1 + 64)) then (K 0 0 0 11 ([] : List Int) ([] : List Int)) else (f77 k a0 a1 a2 (IntKind.i64.wrap r2_0) (fun r4_0 r4_1 r4_2 => (bif (decide (8 ≤ IntKind.i64.wrap ((a3.length : Int) - 8)) && decide (IntKind.i64.wrap ((a3.length : Int) - 8) ≤ (a3.length : Int))) then (f43 k ((a3.take (Int.toNat (IntKind.i64.wrap ((a3.length : Int) - 8)))).drop 8) (fun r5_0 => (K r4_0 r4_1 (IntKind.i64.wrap r2_0) 0 r4_2 r5_0))) else none))))))) else (K 0 0 0 7 ([] : List Int) ([] : List Int))))))))) else none))) else none)))
def f41 := hid (@f41d R)
theorem f41_def : @f41 R = @f41d R := hid_eq
def f15_1000014d (k : Nat) (xN : Int → Int → List Int → List (List Int) → Option R) (c4 : Bool) (c5 c6 : Int) (c7 : List Int) (c10 : List (List Int)) (c12 c13 : Int) (c14 c15 : List Int) : Option R :=
  (bif c4 then (bif decide (c10.length + ([c15] : List (List Int)).length ≤ LIM 24) then (xN c12 c13 c14 (c10 ++ ([c15] : List (List Int)))) else none) else (xN c5 c6 c7 c10))
def f15_1000014 := hid (@f15_1000014d R)
theorem f15_1000014_def : @f15_1000014 R = @f15_1000014d R := hid_eq
def f15_0b (k : Nat) (rec : zK11 R) (x0 : Int → Int → List Int → List (List Int) → List Int → Option R) (c0 : List (List Int)) (c1 c6 c7 c2 c3 c4 : Int) (c5 : List Int) (c8 : List (List Int)) (c9 : List Int) : Option R :=
  (bif decide (c2 < c1) then (bif (decide (0 ≤ c2) && decide (c2 < (c0.length : Int))) then (f41 k c3 c4 c5 (c0.getD (Int.toNat c2) ([] : List Int)) (fun r0_0 r0_1 r0_2 r0_3 r0_4 r0_5 => (f15_1000014 k (fun p4 p5 p6 p9 => (bif decide (c9.length + ([r0_3] : List Int).length ≤ LIM 8) then (rec (IntKind.i64.wrap (c2 + 1)) p4 p5 p6 p9 (c9 ++ ([r0_3] : List Int))) else none)) (r0_3 == 0) c3 c4 c5 c8 r0_0 r0_1 r0_4 r0_5))) else none) else (x0 c3 c4 c5 c8 c9))
def f15_0d (k : Nat) (x0 : Int → Int → List Int → List (List Int) → List Int → Option R) (c0 : List (List Int)) (c1 c6 c7 : Int) : Nat → Int → Int → Int → List Int → List (List Int) → List Int → Option R
  | 0, _, _, _, _, _, _ => none
  | m + 1, c2, c3, c4, c5, c8, c9 => f15_0b k (f15_0d k x0 c0 c1 c6 c7 m) x0 c0 c1 c6 c7 c2 c3 c4 c5 c8 c9
def f15_0 := hid (@f15_0d R)
theorem f15_0_def : @f15_0 R = @f15_0d R := hid_eq
def f15d (k : Nat) (a0 a1 : Int) (a2 : List Int) (a3 : List (List Int)) (K : zK11 R) : Option R := match k with
  | 0 => none
  | k + 1 => (f39 k a0 a1 a2 (fun r0_0 => (bif (r0_0 != 0) then (K 0 0 r0_0 ([] : List Int) ([] : List (List Int)) ([] : List Int)) else (bif decide ((a3.length : Int) > 2000) then (K 0 0 2 ([] : List Int) ([] : List (List Int)) ([] : List Int)) else (f40 k a2 (fun r1_0 => (f15_0 k (fun p0 p1 p2 p5 p6 => (K p0 p1 0 p2 p5 p6)) a3 (a3.length : Int) 0 0 k 0 a0 a1 r1_0 ([] : List (List Int)) ([] : List Int))))))))
def f15 := hid (@f15d R)
theorem f15_def : @f15 R = @f15d R := hid_eq
def f4_1000010d (k : Nat) (xN : Int → List Int → Option R) (c3 : Int) (c7 : Bool) (c13 c14 : List Int) : Option R :=
  (bif c7 then (bif decide (c13.length + c14.length ≤ LIM 1) then (xN (IntKind.i64.wrap (c3 + 1)) (c13 ++ c14)) else none) else (xN c3 c13))
def f4_1000010 := hid (@f4_1000010d R)
theorem f4_1000010_def : @f4_1000010 R = @f4_1000010d R := hid_eq
def f4_0b (k : Nat) (rec : Int → Int → List Int → Option R) (x0 : Int → List Int → Option R) (c0 : Int) (c1 c2 : List Bool) (c4 : List Int) (c5 c7 c8 c9 c10 c11 c3 c6 : Int) (c12 : List Int) : Option R :=
  (bif decide (c6 < c5) then (bif (decide (0 ≤ c6) && decide (c6 < (c4.length : Int))) then (bif decide (c6 ≥ 20) then (x0 c3 c12) else (f11 k (c4.getD (Int.toNat c6) 0) 40 (fun r0_0 => (f12 k c0 r0_0 ([(1 : Int), IntKind.u8.wrap c6] : List Int) (fun r1_0 r1_1 => (f4_1000010 k (fun p3 p12 => (rec p3 (IntKind.i64.wrap (c6 + 1)) p12)) c3 (r1_0 == 0) c12 r1_1)))))) else none) else (x0 c3 c12))
def f4_0d (k : Nat) (x0 : Int → List Int → Option R) (c0 : Int) (c1 c2 : List Bool) (c4 : List Int) (c5 c7 c8 c9 c10 c11 : Int) : Nat → Int → Int → List Int → Option R
  | 0, _, _, _ => none
  | m + 1, c3, c6, c12 => f4_0b k (f4_0d k x0 c0 c1 c2 c4 c5 c7 c8 c9 c10 c11 m) x0 c0 c1 c2 c4 c5 c7 c8 c9 c10 c11 c3 c6 c12
def f4_0 := hid (@f4_0d R)
theorem f4_0_def : @f4_0 R = @f4_0d R := hid_eq
def f4_2b (k : Nat) (rec : Int → List (List Int) → Option R) (x2 : List (List Int) → Option R) (c0 c1 c3 c4 : Int) (c5 : ByteArray) (c6 : List Int) (c7 : zL5) (c8 c9 c10 c11 c2 : Int) (c12 : List (List Int)) : Option R :=
  (bif decide (c2 < (c6.length : Int)) then (bif (decide (0 ≤ c2) && (decide (c2 ≤ IntKind.i64.wrap (c2 + 18)) && decide (IntKind.i64.wrap (c2 + 18) ≤ (c6.length : Int)))) then (bif decide (c12.length + ([((c6.take (Int.toNat (IntKind.i64.wrap (c2 + 18)))).drop (Int.toNat c2))] : List (List Int)).length ≤ LIM 24) then (rec (IntKind.i64.wrap (c2 + 18)) (c12 ++ ([((c6.take (Int.toNat (IntKind.i64.wrap (c2 + 18)))).drop (Int.toNat c2))] : List (List Int)))) else none) else none) else (x2 c12))
def f4_2d (k : Nat) (x2 : List (List Int) → Option R) (c0 c1 c3 c4 : Int) (c5 : ByteArray) (c6 : List Int) (c7 : zL5) (c8 c9 c10 c11 : Int) : Nat → Int → List (List Int) → Option R
  | 0, _, _ => none
  | m + 1, c2, c12 => f4_2b k (f4_2d k x2 c0 c1 c3 c4 c5 c6 c7 c8 c9 c10 c11 m) x2 c0 c1 c3 c4 c5 c6 c7 c8 c9 c10 c11 c2 c12
def f4_2 := hid (@f4_2d R)
theorem f4_2_def : @f4_2 R = @f4_2d R := hid_eq
def f4d (k : Nat) (a0 a1 a2 a3 a4 a5 : Int) (a6 : List Int) (a7 a8 : List Bool) (K : Bool → Option R) : Option R := match k with
  | 0 => none
  | k + 1 => (f11 k a5 1000000000000001 (fun r0_0 => (f4_0 k (fun y0_0_3 y0_0_9 => (f8 k a0 a1 a2 a3 a4 3 (⟨#[99, 111, 109, 109, 97, 110, 100, 115]⟩ : ByteArray) y0_0_9 a7 a8 3000 (fun r1_0 r1_1 r1_2 r1_3 r1_4 r1_5 r1_6 r1_7 r1_8 r1_9 r1_10 r1_11 r1_12 r1_13 r1_14 r1_15 r1_16 r1_17 r1_18 => (bif ((r1_17 != 0) == false) then (bif (r1_0 != 3) then (bif ((r1_17 != 0) == false) then (bif (((r1_18.length : Int) == 3) == true) then (bif decide (2 < (r1_18.length : Int)) then (bif (decide ((r1_18.getD 2 0) < 0) == true) then (f13 k (fun r2_0 => (K r2_0))) else (K false)) else none) else (K false)) else (f13 k (fun r2_0 => (K r2_0)))) else (f14 k r1_11 y0_0_9 (fun r3_0 => (bif ((!r3_0) == false) then (bif (r1_8 != 3) then (K false) else (f4_2 k (fun y2_2_2 => (f15 k r0_0 0 ([] : List Int) y2_2_2 (fun r4_0 r4_1 r4_2 r4_3 r4_4 r4_5 => (bif ((r4_2 != 0) == false) then (bif ((r4_5.length : Int) != y0_0_3) then (K false) else (f15 k r4_0 r4_1 r4_3 y2_2_2 (fun r5_0 r5_1 r5_2 r5_3 r5_4 r5_5 => (bif ((r5_2 == 0) == true) then (bif (((r5_4.length : Int) == 0) == true) then (bif ((r5_1 == r4_1) == true) then (bif (decide ((r4_4.length : Int) ≤ y0_0_3) == true) then (f13 k (fun r6_0 => (K r6_0))) else (K false)) else (K false)) else (K false)) else (K false))))) else (K false))))) r0_0 y0_0_3 r1_8 r1_9 r1_10 r1_11 r1_12 r1_13 r1_14 r1_15 r1_16 k 0 ([] : List (List Int)))) else (K false))))) else (bif ((r1_17 != 0) == false) then (bif (((r1_18.length : Int) == 3) == true) then (bif decide (2 < (r1_18.length : Int)) then (bif (decide ((r1_18.getD 2 0) < 0) == true) then (f13 k (fun r2_0 => (K r2_0))) else (K false)) else none) else (K false)) else (f13 k (fun r2_0 => (K r2_0)))))))) r0_0 a7 a8 a6 (a6.length : Int) a0 a1 a2 a3 a4 k 0 0 ([] : List Int))))
def f4 := hid (@f4d R)
theorem f4_def : @f4 R = @f4d R := hid_eq
end
end Go.Proofs.YtoepnomdklhhlaaGreat.PM
