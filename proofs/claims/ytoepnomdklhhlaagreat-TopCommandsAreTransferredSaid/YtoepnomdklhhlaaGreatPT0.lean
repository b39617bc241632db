/- Functions of the program in typed form (printed by a program of this work). -/
import Derived.Test.YtoepnomdklhhlaaGreatPmE
import Derived.Test.YtoepnomdklhhlaaGreatSrtD
import Derived.Test.YtoepnomdklhhlaaGreatSoD
import Derived.Test.YtoepnomdklhhlaaGreatRpD
set_option linter.unusedVariables false
set_option linter.unusedSimpArgs false
set_option maxRecDepth 100000
namespace Go.Proofs.YtoepnomdklhhlaaGreat.PM
open Go
noncomputable section
variable {R : Type}
abbrev zL1 := List (Int × ((Int × (Int × (ByteArray × (Int × (Int × (Int × (List Int × (List ((Int × (Int × Unit))) × (Bool × Unit))))))))) × Unit))
abbrev zL2 := List ((Int × (Int × (ByteArray × (Int × (Int × (Int × (List Int × (List ((Int × (Int × Unit))) × (Bool × Unit))))))))))
abbrev zL3 := List (Int × (Int × (ByteArray × (Int × (Int × (Int × (List Int × (List ((Int × (Int × Unit))) × (Bool × Unit)))))))))
abbrev zL5 := List ((Int × (Int × Unit)))
abbrev zL6 := List (Int × (Int × Unit))
abbrev zP1 : Ty := .prod (.int .i64) (.prod (.int .i64) .unit)
abbrev zT1 : Ty := .slice zP1
abbrev zT2 : Ty := .slice (.int .u8)
abbrev zT3 : Ty := .slice .bool
abbrev zD0 : (Int × (Int × (ByteArray × (Int × (Int × (Int × (List Int × (zL5 × (Bool × Unit))))))))) := ((0 : Int), ((0 : Int), ((⟨#[]⟩ : ByteArray), ((0 : Int), ((0 : Int), ((0 : Int), (([] : List Int), (([] : zL5), (false, ())))))))))
abbrev zi (x : Int) : PV := .val [] (.int .i64) x
abbrev zP0 : Ty := .prod (.int .i64) (.prod (.int .i64) (.prod .str (.prod (.int .i64) (.prod (.int .i64) (.prod (.int .i64) (.prod zT2 (.prod zT1 (.prod .bool .unit))))))))
abbrev zP2 : Ty := .prod (.int .i64) (.prod zP0 .unit)
abbrev zP3 : Ty := .slice (.int .i64)
theorem hidx {α : Sort _} (x : α) : ∃ y, y = x := ⟨x, rfl⟩
def hid {α : Sort _} (x : α) : α := Classical.choose (hidx x)
theorem hid_eq {α : Sort _} {x : α} : hid x = x := Classical.choose_spec (hidx x)
abbrev zK0 (R : Type) := Int → Int → ByteArray → Int → Int → Int → Int → List Int → Option R
abbrev zK1 (R : Type) := Int → Int → Int → Int → Int → Int → Int → ByteArray → List Int → Int → zL5 → Int → Int → Int → Int → ByteArray → List Int → zL5 → Int → Int → Int → Int → List Bool → Int → List Bool → Int → Int → zL1 → zL1 → zL3 → Option R
abbrev zK10 (R : Type) := Int → Int → ByteArray → List Int → Int → zL5 → Int → Int → Int → Int → ByteArray → List Int → zL5 → Int → Int → Int → Int → Int → List Int → Option R
abbrev zK11 (R : Type) := Int → Int → Int → List Int → List (List Int) → List Int → Option R
abbrev zK2 (R : Type) := Int → Int → ByteArray → List Int → zL5 → Int → Int → Int → Int → Int → zL3 → Option R
abbrev zK3 (R : Type) := Int → Int → Int → Int → Int → Int → Int → ByteArray → List Int → Int → zL5 → Int → Int → Int → Int → ByteArray → List Int → zL5 → Int → Int → Int → Int → List Bool → Int → List Bool → Int → Int → zL1 → zL1 → Option R
abbrev zK4 (R : Type) := Int → Int → ByteArray → List Int → Int → zL5 → Int → Int → Int → Option R
abbrev zK5 (R : Type) := Int → Int → ByteArray → Int → Int → Int → Bool → List Int → Option R
abbrev zK6 (R : Type) := Int → Int → ByteArray → List Int → Int → zL5 → Int → Int → Int → Int → ByteArray → Int → Int → Int → Bool → List Int → Option R
abbrev zK7 (R : Type) := Int → Int → ByteArray → List Int → Int → zL5 → Int → Int → zL3 → Option R
abbrev zK8 (R : Type) := Int → Int → Int → Int → Int → Int → Int → Int → ByteArray → List Int → Int → zL5 → Int → Int → Int → Int → ByteArray → List Int → zL5 → Int → Int → Int → Int → List Bool → Int → List Bool → Int → Int → zL1 → zL1 → Option R
abbrev zK9 (R : Type) := Int → Int → ByteArray → List Int → Int → zL5 → Int → Int → Option R
def f11_1000003d (k : Nat) (xN : Int → Option R) (c0 c1 : Int) (c2 : Bool) : Option R :=
  (bif c2 then (xN (IntKind.i64.wrap (c0 + c1))) else (xN c0))
def f11_1000003 := hid (@f11_1000003d R)
theorem f11_1000003_def : @f11_1000003 R = @f11_1000003d R := hid_eq
def f11d (k : Nat) (a0 a1 : Int) (K : Int → Option R) : Option R := match k with
  | 0 => none
  | k + 1 => (bif (!(a1 == 0)) then (f11_1000003 k (fun p0 => (K p0)) (Int.tmod a0 a1) a1 (decide (Int.tmod a0 a1 < 0))) else none)
def f11 := hid (@f11d R)
theorem f11_def : @f11 R = @f11d R := hid_eq
def f26d (k : Nat) (a0 a1 a2 : Int) (K : Bool → Option R) : Option R := match k with
  | 0 => none
  | k + 1 => (bif (decide (a1 ≤ a0) == true) then (K (decide (a0 ≤ a2))) else (K false))
def f26 := hid (@f26d R)
theorem f26_def : @f26 R = @f26d R := hid_eq
def f32d (k : Nat) (a0 a1 a2 : Int) (K : Int → Option R) : Option R := match k with
  | 0 => none
  | k + 1 => (f26 k a0 a1 a2 (fun r0_0 => (bif (!r0_0) then (K 1) else (K 0))))
def f32 := hid (@f32d R)
theorem f32_def : @f32 R = @f32d R := hid_eq
def f33d (k : Nat) (a0 : List Int) (K : Int → Option R) : Option R := match k with
  | 0 => none
  | k + 1 => (bif ((a0.length : Int) == 0) then (K 9) else (bif decide ((a0.length : Int) > 200) then (K 2) else (K 0)))
def f33 := hid (@f33d R)
theorem f33_def : @f33 R = @f33d R := hid_eq
def f31_0b (k : Nat) (rec K : Int → Option R) (x0 : Option R) (c0 : List Int) (c1 c2 : Int) : Option R :=
  (bif decide (c2 < c1) then (bif (decide (0 ≤ c2) && decide (c2 < (c0.length : Int))) then (bif ((c0.getD (Int.toNat c2) 0) != 0) then (K (c0.getD (Int.toNat c2) 0)) else (rec (IntKind.i64.wrap (c2 + 1)))) else none) else x0)
def f31_0d (k : Nat) (K : Int → Option R) (x0 : Option R) (c0 : List Int) (c1 : Int) : Nat → Int → Option R
  | 0, _ => none
  | m + 1, c2 => f31_0b k (f31_0d k K x0 c0 c1 m) K x0 c0 c1 c2
def f31_0 := hid (@f31_0d R)
theorem f31_0_def : @f31_0 R = @f31_0d R := hid_eq
def f31d (k : Nat) (a0 : List Int) (K : Int → Option R) : Option R := match k with
  | 0 => none
  | k + 1 => (f31_0 k K (K 0) a0 (a0.length : Int) k 0)
def f31 := hid (@f31d R)
theorem f31_def : @f31 R = @f31d R := hid_eq
def f34_0b (k : Nat) (rec : Int → List Int → Option R) (x0 : List Int → Option R) (c0 c1 : Int) (c2 : List Int) : Option R :=
  (bif decide (c1 ≥ 0) then (bif decide (0 ≤ c1) then (bif decide (c2.length + ([IntKind.u8.wrap (Int.fdiv c0 (2 ^ min (Int.toNat c1) 64))] : List Int).length ≤ LIM 1) then (rec (IntKind.i64.wrap (c1 - 8)) (c2 ++ ([IntKind.u8.wrap (Int.fdiv c0 (2 ^ min (Int.toNat c1) 64))] : List Int))) else none) else none) else (x0 c2))
def f34_0d (k : Nat) (x0 : List Int → Option R) (c0 : Int) : Nat → Int → List Int → Option R
  | 0, _, _ => none
  | m + 1, c1, c2 => f34_0b k (f34_0d k x0 c0 m) x0 c0 c1 c2
def f34_0 := hid (@f34_0d R)
theorem f34_0_def : @f34_0 R = @f34_0d R := hid_eq
def f34d (k : Nat) (a0 : Int) (K : List Int → Option R) : Option R := match k with
  | 0 => none
  | k + 1 => (f34_0 k (fun p0 => (K p0)) a0 k 56 ([] : List Int))
def f34 := hid (@f34d R)
theorem f34_def : @f34 R = @f34d R := hid_eq
def f106_1000002d (k : Nat) (xN : Option R) (c1 : Bool) : Option R :=
  (bif c1 then none else xN)
def f106_1000002 := hid (@f106_1000002d R)
theorem f106_1000002_def : @f106_1000002 R = @f106_1000002d R := hid_eq
def f106_1000005d (k : Nat) (xN : List Int → Option R) (c0 : Int) (c1 : Bool) : Option R :=
  (bif c1 then (bif (decide (0 ≤ c0) && decide ((List.replicate (Int.toNat c0) (0 : Int)).length ≤ LIM 1)) then (bif decide (0 ≤ ((List.replicate (Int.toNat c0) (0 : Int)).length : Int)) then (xN (((List.replicate (Int.toNat c0) (0 : Int)).drop 0).take 0)) else none) else none) else (xN ([] : List Int)))
def f106_1000005 := hid (@f106_1000005d R)
theorem f106_1000005_def : @f106_1000005 R = @f106_1000005d R := hid_eq
def f106d (k : Nat) (a0 : Int) (K : List Int → Option R) : Option R := match k with
  | 0 => none
  | k + 1 => (f106_1000002 k (f106_1000005 k (fun p0 => (K p0)) (IntKind.i64.wrap (a0 - 0)) (decide (IntKind.i64.wrap (a0 - 0) > 0))) (decide (a0 < 0)))
def f106 := hid (@f106d R)
theorem f106_def : @f106 R = @f106d R := hid_eq
def f70_1000007d (k : Nat) (xN : Option R) (c5 : Bool) : Option R :=
  (bif c5 then none else xN)
def f70_1000007 := hid (@f70_1000007d R)
theorem f70_1000007_def : @f70_1000007 R = @f70_1000007d R := hid_eq
def f70_0b (k : Nat) (rec : Int → Int → Option R) (x0 : Int → Option R) (c0 c2 : List (List Int)) (c3 c1 c4 : Int) : Option R :=
  (bif decide (c4 < c3) then (bif (decide (0 ≤ c4) && decide (c4 < (c2.length : Int))) then (f70_1000007 k (rec (IntKind.i64.wrap (c1 + ((c2.getD (Int.toNat c4) ([] : List Int)).length : Int))) (IntKind.i64.wrap (c4 + 1))) (decide (IntKind.i64.wrap (c1 + ((c2.getD (Int.toNat c4) ([] : List Int)).length : Int)) < 0))) else none) else (x0 c1))
def f70_0d (k : Nat) (x0 : Int → Option R) (c0 c2 : List (List Int)) (c3 : Int) : Nat → Int → Int → Option R
  | 0, _, _ => none
  | m + 1, c1, c4 => f70_0b k (f70_0d k x0 c0 c2 c3 m) x0 c0 c2 c3 c1 c4
def f70_0 := hid (@f70_0d R)
theorem f70_0_def : @f70_0 R = @f70_0d R := hid_eq
def f70_2b (k : Nat) (rec : Int → List Int → Option R) (x2 : List Int → Option R) (c0 : List (List Int)) (c1 c2 : Int) (c3 : List Int) : Option R :=
  (bif decide (c2 < c1) then (bif (decide (0 ≤ c2) && decide (c2 < (c0.length : Int))) then (bif decide (c3.length + (c0.getD (Int.toNat c2) ([] : List Int)).length ≤ LIM 1) then (rec (IntKind.i64.wrap (c2 + 1)) (c3 ++ (c0.getD (Int.toNat c2) ([] : List Int)))) else none) else none) else (x2 c3))
def f70_2d (k : Nat) (x2 : List Int → Option R) (c0 : List (List Int)) (c1 : Int) : Nat → Int → List Int → Option R
  | 0, _, _ => none
  | m + 1, c2, c3 => f70_2b k (f70_2d k x2 c0 c1 m) x2 c0 c1 c2 c3
def f70_2 := hid (@f70_2d R)
theorem f70_2_def : @f70_2 R = @f70_2d R := hid_eq
def f70d (k : Nat) (a0 : List (List Int)) (K : List Int → Option R) : Option R := match k with
  | 0 => none
  | k + 1 => (f70_0 k (fun y0_0_1 => (f106 k y0_0_1 (fun r0_0 => (f70_2 k (fun y2_2_0 => (K y2_2_0)) a0 (a0.length : Int) k 0 r0_0)))) a0 a0 (a0.length : Int) k 0 0)
def f70 := hid (@f70d R)
theorem f70_def : @f70 R = @f70d R := hid_eq
def f35_0b (k : Nat) (rec : Int → Int → Option R) (x0 : Int → Option R) (c1 : Int) (c3 : List Int) (c0 c2 : Int) : Option R :=
  (bif decide (c2 < c1) then (bif (decide (0 ≤ c2) && decide (c2 < (c3.length : Int))) then (rec (IntKind.u64.wrap ((bits .xor .u64 c0 (IntKind.u64.wrap (c3.getD (Int.toNat c2) 0))) * 1099511628211)) (IntKind.i64.wrap (c2 + 1))) else none) else (x0 c0))
def f35_0d (k : Nat) (x0 : Int → Option R) (c1 : Int) (c3 : List Int) : Nat → Int → Int → Option R
  | 0, _, _ => none
  | m + 1, c0, c2 => f35_0b k (f35_0d k x0 c1 c3 m) x0 c1 c3 c0 c2
def f35_0 := hid (@f35_0d R)
theorem f35_0_def : @f35_0 R = @f35_0d R := hid_eq
def f35d (k : Nat) (a0 : Int) (a1 : List Int) (K : Int → Option R) : Option R := match k with
  | 0 => none
  | k + 1 => (f34 k (IntKind.u64.wrap a0) (fun r0_0 => (f70 k ([r0_0, a1, r0_0] : List (List Int)) (fun r1_0 => (f35_0 k (fun p0 => (K p0)) (r1_0.length : Int) r1_0 k 14695981039346656037 0)))))
def f35 := hid (@f35d R)
theorem f35_def : @f35 R = @f35d R := hid_eq
def f12d (k : Nat) (a0 a1 : Int) (a2 : List Int) (K : Int → List Int → Option R) : Option R := match k with
  | 0 => none
  | k + 1 => (f32 k a0 0 1000000000000000 (fun r0_0 => (f32 k a1 0 1000000000 (fun r1_0 => (f33 k a2 (fun r2_0 => (f31 k ([r0_0, r1_0, r2_0] : List Int) (fun r3_0 => (bif (r3_0 != 0) then (K r3_0 ([] : List Int)) else (f34 k (IntKind.u64.wrap a1) (fun r4_0 => (bif decide (r4_0.length + a2.length ≤ LIM 1) then (f35 k a0 (r4_0 ++ a2) (fun r5_0 => (f34 k r5_0 (fun r6_0 => (bif decide ((r4_0 ++ a2).length + r6_0.length ≤ LIM 1) then (K 0 ((r4_0 ++ a2) ++ r6_0)) else none))))) else none))))))))))))
def f12 := hid (@f12d R)
theorem f12_def : @f12 R = @f12d R := hid_eq
def f24d (k : Nat) (a0 a1 a2 a3 a4 : Int) (K : Int → Option R) : Option R := match k with
  | 0 => none
  | k + 1 => (f26 k a0 1 4096 (fun r0_0 => (bif ((!r0_0) == false) then (f26 k a1 1 1000000 (fun r1_0 => (bif ((!r1_0) == false) then (f26 k a2 1 100 (fun r2_0 => (bif ((!r2_0) == false) then (f26 k a3 1 1000000 (fun r3_0 => (bif ((!r3_0) == false) then (f26 k a4 0 50 (fun r4_0 => (bif (!r4_0) then (K 1) else (K 0)))) else (K 1)))) else (K 1)))) else (K 1)))) else (K 1))))
def f24 := hid (@f24d R)
theorem f24_def : @f24 R = @f24d R := hid_eq
def f92_0b (k : Nat) (rec : Int → Option R) (K : Bool → Option R) (x0 : Option R) (c0 : ByteArray) (c1 c2 : Int) : Option R :=
  (bif decide (c2 < c1) then (bif (decide (0 ≤ c2) && decide (c2 < (c0.size : Int))) then (bif (decide (((bytesOf c0).getD (Int.toNat c2) 0) < 97) == false) then (bif (decide (((bytesOf c0).getD (Int.toNat c2) 0) > 122) == true) then (bif ((c2 == 0) == false) then (bif ((((bytesOf c0).getD (Int.toNat c2) 0) != 45) == true) then (bif ((((bytesOf c0).getD (Int.toNat c2) 0) != 95) == true) then (bif (decide (((bytesOf c0).getD (Int.toNat c2) 0) < 48) == false) then (bif decide (((bytesOf c0).getD (Int.toNat c2) 0) > 57) then (K false) else (rec (IntKind.i64.wrap (c2 + 1)))) else (K false)) else (rec (IntKind.i64.wrap (c2 + 1)))) else (rec (IntKind.i64.wrap (c2 + 1)))) else (K false)) else (rec (IntKind.i64.wrap (c2 + 1)))) else (bif ((c2 == 0) == false) then (bif ((((bytesOf c0).getD (Int.toNat c2) 0) != 45) == true) then (bif ((((bytesOf c0).getD (Int.toNat c2) 0) != 95) == true) then (bif (decide (((bytesOf c0).getD (Int.toNat c2) 0) < 48) == false) then (bif decide (((bytesOf c0).getD (Int.toNat c2) 0) > 57) then (K false) else (rec (IntKind.i64.wrap (c2 + 1)))) else (K false)) else (rec (IntKind.i64.wrap (c2 + 1)))) else (rec (IntKind.i64.wrap (c2 + 1)))) else (K false))) else none) else x0)
def f92_0d (k : Nat) (K : Bool → Option R) (x0 : Option R) (c0 : ByteArray) (c1 : Int) : Nat → Int → Option R
  | 0, _ => none
  | m + 1, c2 => f92_0b k (f92_0d k K x0 c0 c1 m) K x0 c0 c1 c2
def f92_0 := hid (@f92_0d R)
theorem f92_0_def : @f92_0 R = @f92_0d R := hid_eq
def f92d (k : Nat) (a0 : ByteArray) (K : Bool → Option R) : Option R := match k with
  | 0 => none
  | k + 1 => (bif ((a0.toList == (⟨#[]⟩ : ByteArray).toList) == false) then (bif decide ((a0.size : Int) > 40) then (K false) else (f92_0 k K (K true) a0 (a0.size : Int) k 0)) else (K false))
def f92 := hid (@f92d R)
theorem f92_def : @f92 R = @f92d R := hid_eq
def f59d (k : Nat) (a0 : Int) (a1 : ByteArray) (a2 : List Int) (K : Int → Option R) : Option R := match k with
  | 0 => none
  | k + 1 => (f26 k a0 0 65535 (fun r0_0 => (bif (!r0_0) then (K 1) else (f92 k a1 (fun r1_0 => (bif (!r1_0) then (K 5) else (bif decide ((a2.length : Int) > 100000) then (K 2) else (K 0))))))))
def f59 := hid (@f59d R)
theorem f59_def : @f59 R = @f59d R := hid_eq
def f43d (k : Nat) (a0 : List Int) (K : List Int → Option R) : Option R := match k with
  | 0 => none
  | _ + 1 => bif decide (a0.length ≤ LIM 1) then K a0 else none
def f43 := hid (@f43d R)
theorem f43_def : @f43 R = @f43d R := hid_eq
def f25d (k : Nat) (a0 : Int) (a1 : ByteArray) (a2 : List Int) (K : zK0 R) : Option R := match k with
  | 0 => none
  | k + 1 => (f59 k a0 a1 a2 (fun r0_0 => (bif (r0_0 != 0) then (K 0 0 (⟨#[]⟩ : ByteArray) 0 0 0 r0_0 ([] : List Int)) else (f43 k a2 (fun r1_0 => (K 1 a0 a1 (-1) 0 0 0 r1_0))))))
def f25 := hid (@f25d R)
theorem f25_def : @f25 R = @f25d R := hid_eq
def f27d (k : Nat) (a0 : Int) (K : Int → Int → ByteArray → Int → Int → Int → Int → Int → Option R) : Option R := match k with
  | 0 => none
  | k + 1 => (f26 k a0 0 65535 (fun r0_0 => (bif (!r0_0) then (K 0 0 (⟨#[]⟩ : ByteArray) 0 0 0 0 1) else (K 0 a0 (⟨#[]⟩ : ByteArray) (-1) 0 0 0 0))))
def f27 := hid (@f27d R)
theorem f27_def : @f27 R = @f27d R := hid_eq
def f60_0b (k : Nat) (rec x0 : zL1 → zL3 → Option R) (c0 c1 c2 c3 c4 c5 c6 c7 : Int) (c8 : ByteArray) (c9 : List Int) (c10 : Int) (c11 : zL5) (c12 c13 c14 c15 : Int) (c16 : ByteArray) (c17 : List Int) (c18 : zL5) (c19 c20 c21 c22 : Int) (c23 : List Bool) (c24 : Int) (c25 : List Bool) (c26 c27 : Int) (c29 c28 : zL1) (c30 : zL3) : Option R :=
  (bif (decide ((c28.length : Int) > 0) == true) then (bif decide (0 < (c28.length : Int)) then (bif decide ((c28.getD 0 ((0 : Int), (zD0, ()))).1 ≤ c0) then (bif decide (0 < (c28.length : Int)) then (bif decide (c30.length + ([((((c28.getD 0 ((0 : Int), (zD0, ()))).2).1).1, (((((c28.getD 0 ((0 : Int), (zD0, ()))).2).1).2).1, ((((((c28.getD 0 ((0 : Int), (zD0, ()))).2).1).2).2).1, (((((((c28.getD 0 ((0 : Int), (zD0, ()))).2).1).2).2).2).1, ((((((((c28.getD 0 ((0 : Int), (zD0, ()))).2).1).2).2).2).2).1, (((((((((c28.getD 0 ((0 : Int), (zD0, ()))).2).1).2).2).2).2).2).1, ((((((((((c28.getD 0 ((0 : Int), (zD0, ()))).2).1).2).2).2).2).2).2).1, (((((((((((c28.getD 0 ((0 : Int), (zD0, ()))).2).1).2).2).2).2).2).2).2).1, ((((((((((((c28.getD 0 ((0 : Int), (zD0, ()))).2).1).2).2).2).2).2).2).2).2).1, ())))))))))] : zL3).length ≤ LIM 112) then (bif decide (1 ≤ (c28.length : Int)) then (rec ((c28.drop 1).take (c28.length - 1)) (c30 ++ ([((((c28.getD 0 ((0 : Int), (zD0, ()))).2).1).1, (((((c28.getD 0 ((0 : Int), (zD0, ()))).2).1).2).1, ((((((c28.getD 0 ((0 : Int), (zD0, ()))).2).1).2).2).1, (((((((c28.getD 0 ((0 : Int), (zD0, ()))).2).1).2).2).2).1, ((((((((c28.getD 0 ((0 : Int), (zD0, ()))).2).1).2).2).2).2).1, (((((((((c28.getD 0 ((0 : Int), (zD0, ()))).2).1).2).2).2).2).2).1, ((((((((((c28.getD 0 ((0 : Int), (zD0, ()))).2).1).2).2).2).2).2).2).1, (((((((((((c28.getD 0 ((0 : Int), (zD0, ()))).2).1).2).2).2).2).2).2).2).1, ((((((((((((c28.getD 0 ((0 : Int), (zD0, ()))).2).1).2).2).2).2).2).2).2).2).1, ())))))))))] : zL3))) else none) else none) else none) else (x0 c28 c30)) else none) else (x0 c28 c30))
def f60_0d (k : Nat) (x0 : zL1 → zL3 → Option R) (c0 c1 c2 c3 c4 c5 c6 c7 : Int) (c8 : ByteArray) (c9 : List Int) (c10 : Int) (c11 : zL5) (c12 c13 c14 c15 : Int) (c16 : ByteArray) (c17 : List Int) (c18 : zL5) (c19 c20 c21 c22 : Int) (c23 : List Bool) (c24 : Int) (c25 : List Bool) (c26 c27 : Int) (c29 : zL1) : Nat → zL1 → zL3 → Option R
  | 0, _, _ => none
  | m + 1, c28, c30 => f60_0b k (f60_0d k x0 c0 c1 c2 c3 c4 c5 c6 c7 c8 c9 c10 c11 c12 c13 c14 c15 c16 c17 c18 c19 c20 c21 c22 c23 c24 c25 c26 c27 c29 m) x0 c0 c1 c2 c3 c4 c5 c6 c7 c8 c9 c10 c11 c12 c13 c14 c15 c16 c17 c18 c19 c20 c21 c22 c23 c24 c25 c26 c27 c29 c28 c30
def f60_0 := hid (@f60_0d R)
theorem f60_0_def : @f60_0 R = @f60_0d R := hid_eq
def f60d (k : Nat) (a0 a1 a2 a3 a4 a5 a6 a7 : Int) (a8 : ByteArray) (a9 : List Int) (a10 : Int) (a11 : zL5) (a12 a13 a14 a15 : Int) (a16 : ByteArray) (a17 : List Int) (a18 : zL5) (a19 a20 a21 a22 : Int) (a23 : List Bool) (a24 : Int) (a25 : List Bool) (a26 a27 : Int) (a28 a29 : zL1) (K : zK1 R) : Option R := match k with
  | 0 => none
  | k + 1 => (f60_0 k (fun p27 p29 => (K a1 a2 a3 a4 a5 a6 a7 a8 a9 a10 a11 a12 a13 a14 a15 a16 a17 a18 a19 a20 a21 a22 a23 a24 a25 a26 a27 p27 a29 p29)) a0 a1 a2 a3 a4 a5 a6 a7 a8 a9 a10 a11 a12 a13 a14 a15 a16 a17 a18 a19 a20 a21 a22 a23 a24 a25 a26 a27 a29 k a28 ([] : zL2))
def f60 := hid (@f60d R)
theorem f60_def : @f60 R = @f60d R := hid_eq
def f93d (k : Nat) (a0 a1 : Int) (a2 : ByteArray) (a3 : List Int) (a4 : zL5) (a5 a6 a7 a8 a9 a10 : Int) (a11 : ByteArray) (a12 a13 a14 : Int) (a15 : List Int) (a16 : zL5) (a17 : Bool) (K : Bool → Option R) : Option R := match k with
  | 0 => none
  | k + 1 => (bif (a9 == 2) then (bif (decide (a5 ≥ 0) == true) then (K (decide (IntKind.i64.wrap (a14 + (a15.length : Int)) > a5))) else (K false)) else (bif (decide (a5 ≥ 0) == true) then (bif ((a12 != a5) == false) then (bif ((a13 != a6) == false) then (bif ((a9 == 1) == true) then (bif ((!(a2.toList == (⟨#[]⟩ : ByteArray).toList)) == true) then (bif ((!(a11.toList == a2.toList)) == false) then (K (decide (a12 < (a3.length : Int)))) else (K true)) else (K (decide (a12 < (a3.length : Int))))) else (K (decide (a12 < (a3.length : Int))))) else (K true)) else (K true)) else (bif ((a9 == 1) == true) then (bif ((!(a2.toList == (⟨#[]⟩ : ByteArray).toList)) == true) then (bif ((!(a11.toList == a2.toList)) == false) then (K (decide (a12 < (a3.length : Int)))) else (K true)) else (K (decide (a12 < (a3.length : Int))))) else (K (decide (a12 < (a3.length : Int)))))))
def f93 := hid (@f93d R)
theorem f93_def : @f93 R = @f93d R := hid_eq
def f125d (k : Nat) (a0 : List Int) (a1 : Int) (K : List Int → Option R) : Option R := match k with
  | 0 => none
  | _ + 1 => bif repOk a0 a1 then K (repL a0 a1) else none
def f125 := hid (@f125d R)
theorem f125_def : @f125 R = @f125d R := hid_eq
def f126_1000007d (k : Nat) (xN : zL6 → Option R) (c1 : Int) (c5 : Bool) (c6 : zL6) (c7 : Int) : Option R :=
  (bif c5 then (bif decide (c6.length + ([(c1, (c7, ()))] : zL6).length ≤ LIM 16) then (xN (c6 ++ ([(c1, (c7, ()))] : zL6))) else none) else (xN c6))
def f126_1000007 := hid (@f126_1000007d R)
theorem f126_1000007_def : @f126_1000007 R = @f126_1000007d R := hid_eq
def f126_0b (k : Nat) (rec : Int → Int → zL6 → Option R) (x0 : Int → zL6 → Option R) (c0 : Int) (c2 : zL5) (c3 c1 c4 : Int) (c5 : zL6) : Option R :=
  (bif decide (c4 < c3) then (bif (decide (0 ≤ c4) && decide (c4 < (c2.length : Int))) then (f126_1000007 k (fun p4 => (rec (((c2.getD (Int.toNat c4) ((0 : Int), ((0 : Int), ()))).2).1) (IntKind.i64.wrap (c4 + 1)) p4)) c1 (decide ((c2.getD (Int.toNat c4) ((0 : Int), ((0 : Int), ()))).1 > c1)) c5 ((c2.getD (Int.toNat c4) ((0 : Int), ((0 : Int), ()))).1)) else none) else (x0 c1 c5))
def f126_0d (k : Nat) (x0 : Int → zL6 → Option R) (c0 : Int) (c2 : zL5) (c3 : Int) : Nat → Int → Int → zL6 → Option R
  | 0, _, _, _ => none
  | m + 1, c1, c4, c5 => f126_0b k (f126_0d k x0 c0 c2 c3 m) x0 c0 c2 c3 c1 c4 c5
def f126_0 := hid (@f126_0d R)
theorem f126_0_def : @f126_0 R = @f126_0d R := hid_eq
def f126_1000011d (k : Nat) (xN : zL6 → Option R) (c0 c1 : Int) (c2 : Bool) (c3 : zL6) : Option R :=
  (bif c2 then (bif decide (c3.length + ([(c1, (c0, ()))] : zL6).length ≤ LIM 16) then (xN (c3 ++ ([(c1, (c0, ()))] : zL6))) else none) else (xN c3))
def f126_1000011 := hid (@f126_1000011d R)
theorem f126_1000011_def : @f126_1000011 R = @f126_1000011d R := hid_eq
def f126d (k : Nat) (a0 : zL5) (a1 : Int) (K : zL6 → Option R) : Option R := match k with
  | 0 => none
  | k + 1 => (f126_0 k (fun y0_0_1 y0_0_2 => (f126_1000011 k (fun y11_N_0 => (K y11_N_0)) a1 y0_0_1 (decide (y0_0_1 < a1)) y0_0_2)) a1 a0 (a0.length : Int) k 0 0 ([] : zL5))
def f126 := hid (@f126d R)
theorem f126_def : @f126 R = @f126d R := hid_eq
def f172_1000002d (k : Nat) (xN : Option R) (c1 : Bool) : Option R :=
  (bif c1 then none else xN)
def f172_1000002 := hid (@f172_1000002d R)
theorem f172_1000002_def : @f172_1000002 R = @f172_1000002d R := hid_eq
def f172_1000005d (k : Nat) (xN : zL6 → Option R) (c0 : Int) (c1 : Bool) : Option R :=
  (bif c1 then (bif (decide (0 ≤ c0) && decide ((List.replicate (Int.toNat c0) ((0 : Int), ((0 : Int), ()))).length ≤ LIM 16)) then (bif decide (0 ≤ ((List.replicate (Int.toNat c0) ((0 : Int), ((0 : Int), ()))).length : Int)) then (xN (((List.replicate (Int.toNat c0) ((0 : Int), ((0 : Int), ()))).drop 0).take 0)) else none) else none) else (xN ([] : zL5)))
def f172_1000005 := hid (@f172_1000005d R)
theorem f172_1000005_def : @f172_1000005 R = @f172_1000005d R := hid_eq
def f172d (k : Nat) (a0 : Int) (K : zL6 → Option R) : Option R := match k with
  | 0 => none
  | k + 1 => (f172_1000002 k (f172_1000005 k (fun p0 => (K p0)) (IntKind.i64.wrap (a0 - 0)) (decide (IntKind.i64.wrap (a0 - 0) > 0))) (decide (a0 < 0)))
def f172 := hid (@f172d R)
theorem f172_def : @f172 R = @f172d R := hid_eq
def f153_1000007d (k : Nat) (xN : Option R) (c5 : Bool) : Option R :=
  (bif c5 then none else xN)
def f153_1000007 := hid (@f153_1000007d R)
theorem f153_1000007_def : @f153_1000007 R = @f153_1000007d R := hid_eq
def f153_0b (k : Nat) (rec : Int → Int → Option R) (x0 : Int → Option R) (c0 c2 : List (zL5)) (c3 c1 c4 : Int) : Option R :=
  (bif decide (c4 < c3) then (bif (decide (0 ≤ c4) && decide (c4 < (c2.length : Int))) then (f153_1000007 k (rec (IntKind.i64.wrap (c1 + ((c2.getD (Int.toNat c4) ([] : zL5)).length : Int))) (IntKind.i64.wrap (c4 + 1))) (decide (IntKind.i64.wrap (c1 + ((c2.getD (Int.toNat c4) ([] : zL5)).length : Int)) < 0))) else none) else (x0 c1))
def f153_0d (k : Nat) (x0 : Int → Option R) (c0 c2 : List (zL5)) (c3 : Int) : Nat → Int → Int → Option R
  | 0, _, _ => none
  | m + 1, c1, c4 => f153_0b k (f153_0d k x0 c0 c2 c3 m) x0 c0 c2 c3 c1 c4
def f153_0 := hid (@f153_0d R)
theorem f153_0_def : @f153_0 R = @f153_0d R := hid_eq
def f153_2b (k : Nat) (rec : Int → zL6 → Option R) (x2 : zL6 → Option R) (c0 : List (zL5)) (c1 c2 : Int) (c3 : zL6) : Option R :=
  (bif decide (c2 < c1) then (bif (decide (0 ≤ c2) && decide (c2 < (c0.length : Int))) then (bif decide (c3.length + (c0.getD (Int.toNat c2) ([] : zL5)).length ≤ LIM 16) then (rec (IntKind.i64.wrap (c2 + 1)) (c3 ++ (c0.getD (Int.toNat c2) ([] : zL5)))) else none) else none) else (x2 c3))
def f153_2d (k : Nat) (x2 : zL6 → Option R) (c0 : List (zL5)) (c1 : Int) : Nat → Int → zL6 → Option R
  | 0, _, _ => none
  | m + 1, c2, c3 => f153_2b k (f153_2d k x2 c0 c1 m) x2 c0 c1 c2 c3
def f153_2 := hid (@f153_2d R)
theorem f153_2_def : @f153_2 R = @f153_2d R := hid_eq
def f153d (k : Nat) (a0 : List (zL5)) (K : zL6 → Option R) : Option R := match k with
  | 0 => none
  | k + 1 => (f153_0 k (fun y0_0_1 => (f172 k y0_0_1 (fun r0_0 => (f153_2 k (fun y2_2_0 => (K y2_2_0)) a0 (a0.length : Int) k 0 r0_0)))) a0 a0 (a0.length : Int) k 0 0)
def f153 := hid (@f153d R)
theorem f153_def : @f153 R = @f153d R := hid_eq
def f154d (k : Nat) (a0 : zL6) (K : zL6 → Option R) : Option R := match k with
  | 0 => none
  | _ + 1 => bif sortOk a0 then K (srtL a0) else none
def f154 := hid (@f154d R)
theorem f154_def : @f154 R = @f154d R := hid_eq
def f127_1000009d (k : Nat) (xN : zL6 → Option R) (c0 : Int) (c3 : Bool) (c4 : zL6) (c5 c6 : Int) : Option R :=
  (bif c3 then (bif (decide (0 ≤ IntKind.i64.wrap (c0 - 1)) && decide (IntKind.i64.wrap (c0 - 1) < (c4.length : Int))) then (bif (decide (0 ≤ IntKind.i64.wrap (c0 - 1)) && decide (IntKind.i64.wrap (c0 - 1) < (c4.length : Int))) then (xN (c4.set (Int.toNat (IntKind.i64.wrap (c0 - 1))) ((c4.getD (Int.toNat (IntKind.i64.wrap (c0 - 1))) ((0 : Int), ((0 : Int), ()))).1, ((if ((c4.getD (Int.toNat (IntKind.i64.wrap (c0 - 1))) ((0 : Int), ((0 : Int), ()))).2).1 < c6 then c6 else ((c4.getD (Int.toNat (IntKind.i64.wrap (c0 - 1))) ((0 : Int), ((0 : Int), ()))).2).1), ())))) else none) else none) else (bif decide (c4.length + ([(c5, (c6, ()))] : zL6).length ≤ LIM 16) then (xN (c4 ++ ([(c5, (c6, ()))] : zL6))) else none))
def f127_1000009 := hid (@f127_1000009d R)
theorem f127_1000009_def : @f127_1000009 R = @f127_1000009d R := hid_eq
def f127_0b (k : Nat) (rec : Int → zL6 → Option R) (x0 : zL6 → Option R) (c0 : Int) (c3 : zL6) (c1 : Int) (c2 : zL6) : Option R :=
  (bif decide (c1 < c0) then (bif (decide (0 ≤ c1) && decide (c1 < (c3.length : Int))) then (bif (decide ((c2.length : Int) > 0) == true) then (bif (decide (0 ≤ IntKind.i64.wrap ((c2.length : Int) - 1)) && decide (IntKind.i64.wrap ((c2.length : Int) - 1) < (c2.length : Int))) then (f127_1000009 k (fun p2 => (rec (IntKind.i64.wrap (c1 + 1)) p2)) (c2.length : Int) (decide ((c3.getD (Int.toNat c1) ((0 : Int), ((0 : Int), ()))).1 ≤ ((c2.getD (Int.toNat (IntKind.i64.wrap ((c2.length : Int) - 1))) ((0 : Int), ((0 : Int), ()))).2).1)) c2 ((c3.getD (Int.toNat c1) ((0 : Int), ((0 : Int), ()))).1) (((c3.getD (Int.toNat c1) ((0 : Int), ((0 : Int), ()))).2).1)) else none) else (f127_1000009 k (fun p2 => (rec (IntKind.i64.wrap (c1 + 1)) p2)) (c2.length : Int) false c2 ((c3.getD (Int.toNat c1) ((0 : Int), ((0 : Int), ()))).1) (((c3.getD (Int.toNat c1) ((0 : Int), ((0 : Int), ()))).2).1))) else none) else (x0 c2))
def f127_0d (k : Nat) (x0 : zL6 → Option R) (c0 : Int) (c3 : zL6) : Nat → Int → zL6 → Option R
  | 0, _, _ => none
  | m + 1, c1, c2 => f127_0b k (f127_0d k x0 c0 c3 m) x0 c0 c3 c1 c2
def f127_0 := hid (@f127_0d R)
theorem f127_0_def : @f127_0 R = @f127_0d R := hid_eq
def f127d (k : Nat) (a0 a1 : zL5) (K : zL6 → Option R) : Option R := match k with
  | 0 => none
  | k + 1 => (f153 k ([a0, a1] : List (zL5)) (fun r0_0 => (f154 k r0_0 (fun r1_0 => (bif (decide (r1_0.length = r0_0.length) && true) then (f127_0 k (fun p0 => (K p0)) (r1_0.length : Int) r1_0 k 0 ([] : zL5)) else none)))))
def f127 := hid (@f127d R)
theorem f127_def : @f127 R = @f127d R := hid_eq
def f94_1000004d (k : Nat) (xN : List Int → Option R) (c4 : Int) (c5 : Bool) (c6 : List Int) : Option R :=
  (bif c5 then (f125 k ([0] : List Int) (IntKind.i64.wrap (c4 - (c6.length : Int))) (fun r0_0 => (bif decide (c6.length + r0_0.length ≤ LIM 1) then (xN (c6 ++ r0_0)) else none))) else (xN c6))
def f94_1000004 := hid (@f94_1000004d R)
theorem f94_1000004_def : @f94_1000004 R = @f94_1000004d R := hid_eq
def f94_1000011d (k : Nat) (xN : Bool → List Int → Option R) (c1 : Int) (c2 : List Int) (c4 : Bool) (c5 c6 : Int) (c9 : Bool) (c10 : List Int) : Option R :=
  (bif c9 then (bif (decide (0 ≤ c5) && (decide (c5 ≤ c6) && decide (c6 ≤ (c10.length : Int)))) then (bif (decide (0 ≤ IntKind.i64.wrap (c5 - c1)) && (decide (IntKind.i64.wrap (c5 - c1) ≤ IntKind.i64.wrap (c6 - c1)) && decide (IntKind.i64.wrap (c6 - c1) ≤ (c2.length : Int)))) then (xN true (splice c10 (Int.toNat c5) (((c2.take (Int.toNat (IntKind.i64.wrap (c6 - c1)))).drop (Int.toNat (IntKind.i64.wrap (c5 - c1)))).take (min ((c2.take (Int.toNat (IntKind.i64.wrap (c6 - c1)))).drop (Int.toNat (IntKind.i64.wrap (c5 - c1)))).length ((Int.toNat c6) - (Int.toNat c5)))))) else none) else none) else (xN c4 c10))
def f94_1000011 := hid (@f94_1000011d R)
theorem f94_1000011_def : @f94_1000011 R = @f94_1000011d R := hid_eq
def f94_0b (k : Nat) (rec : Bool → Int → List Int → Option R) (x0 : Bool → List Int → Option R) (c0 : zL5) (c1 : Int) (c2 : List Int) (c3 c5 : Int) (c8 : zL6) (c4 : Bool) (c6 : Int) (c7 : List Int) : Option R :=
  (bif decide (c6 < c5) then (bif (decide (0 ≤ c6) && decide (c6 < (c8.length : Int))) then (f94_1000011 k (fun p4 p7 => (rec p4 (IntKind.i64.wrap (c6 + 1)) p7)) c1 c2 c4 (if (c8.getD (Int.toNat c6) ((0 : Int), ((0 : Int), ()))).1 < c1 then c1 else (c8.getD (Int.toNat c6) ((0 : Int), ((0 : Int), ()))).1) (if c3 < ((c8.getD (Int.toNat c6) ((0 : Int), ((0 : Int), ()))).2).1 then c3 else ((c8.getD (Int.toNat c6) ((0 : Int), ((0 : Int), ()))).2).1) (decide ((if (c8.getD (Int.toNat c6) ((0 : Int), ((0 : Int), ()))).1 < c1 then c1 else (c8.getD (Int.toNat c6) ((0 : Int), ((0 : Int), ()))).1) < (if c3 < ((c8.getD (Int.toNat c6) ((0 : Int), ((0 : Int), ()))).2).1 then c3 else ((c8.getD (Int.toNat c6) ((0 : Int), ((0 : Int), ()))).2).1))) c7) else none) else (x0 c4 c7))
def f94_0d (k : Nat) (x0 : Bool → List Int → Option R) (c0 : zL5) (c1 : Int) (c2 : List Int) (c3 c5 : Int) (c8 : zL6) : Nat → Bool → Int → List Int → Option R
  | 0, _, _, _ => none
  | m + 1, c4, c6, c7 => f94_0b k (f94_0d k x0 c0 c1 c2 c3 c5 c8 m) x0 c0 c1 c2 c3 c5 c8 c4 c6 c7
def f94_0 := hid (@f94_0d R)
theorem f94_0_def : @f94_0 R = @f94_0d R := hid_eq
def f94d (k : Nat) (a0 : List Int) (a1 : zL5) (a2 : Int) (a3 : List Int) (K : Bool → List Int → zL6 → Option R) : Option R := match k with
  | 0 => none
  | k + 1 => (f43 k a0 (fun r0_0 => (f94_1000004 k (fun y4_N_5 => (f126 k a1 (if IntKind.i64.wrap (a2 + (a3.length : Int)) < (a0.length : Int) then (a0.length : Int) else IntKind.i64.wrap (a2 + (a3.length : Int))) (fun r1_0 => (f94_0 k (fun y0_0_3 y0_0_4 => (f127 k a1 ([(a2, (IntKind.i64.wrap (a2 + (a3.length : Int)), ()))] : zL6) (fun r2_0 => (K y0_0_3 y0_0_4 r2_0)))) a1 a2 a3 (IntKind.i64.wrap (a2 + (a3.length : Int))) (r1_0.length : Int) r1_0 k false 0 y4_N_5)))) (IntKind.i64.wrap (a2 + (a3.length : Int))) (decide (IntKind.i64.wrap (a2 + (a3.length : Int)) > (r0_0.length : Int))) r0_0)))
def f94 := hid (@f94d R)
theorem f94_def : @f94 R = @f94d R := hid_eq
def f95d (k : Nat) (a0 a1 : Int) (a2 : ByteArray) (a3 : List Int) (a4 : zL5) (a5 a6 a7 a8 : Int) (K : zL6 → Option R) : Option R := match k with
  | 0 => none
  | k + 1 => (f126 k a4 a5 (fun r0_0 => (K r0_0)))
def f95 := hid (@f95d R)
theorem f95_def : @f95 R = @f95d R := hid_eq
def f96_0b (k : Nat) (rec : Int → Int → Option R) (x0 : Int → Option R) (c1 : List Int) (c2 c0 c3 : Int) : Option R :=
  (bif decide (c3 < c2) then (bif (decide (0 ≤ c3) && decide (c3 < (c1.length : Int))) then (bif decide (0 ≤ IntKind.i64.wrap (24 - (IntKind.i64.wrap (8 * (Int.tmod c3 4))))) then (rec (IntKind.i64.wrap (c0 + (IntKind.i64.wrap ((IntKind.i64.wrap (c1.getD (Int.toNat c3) 0)) * 2 ^ min (Int.toNat (IntKind.i64.wrap (24 - (IntKind.i64.wrap (8 * (Int.tmod c3 4)))))) 64)))) (IntKind.i64.wrap (c3 + 1))) else none) else none) else (x0 c0))
def f96_0d (k : Nat) (x0 : Int → Option R) (c1 : List Int) (c2 : Int) : Nat → Int → Int → Option R
  | 0, _, _ => none
  | m + 1, c0, c3 => f96_0b k (f96_0d k x0 c1 c2 m) x0 c1 c2 c0 c3
def f96_0 := hid (@f96_0d R)
theorem f96_0_def : @f96_0 R = @f96_0d R := hid_eq
def f96d (k : Nat) (a0 : List Int) (K : Int → Option R) : Option R := match k with
  | 0 => none
  | k + 1 => (f96_0 k (fun p0 => (K (bits .and .i64 p0 4294967295))) a0 (a0.length : Int) k 0 0)
def f96 := hid (@f96d R)
theorem f96_def : @f96 R = @f96d R := hid_eq
def f130d (k : Nat) (K : Int → Int → Option R) : Option R := match k with
  | 0 => none
  | k + 1 => (K (-1) 0)
def f130 := hid (@f130d R)
theorem f130_def : @f130 R = @f130d R := hid_eq
def f128d (k : Nat) (a0 : zL5) (a1 : Bool) (K : zL5 → Option R) : Option R := match k with
  | 0 => none
  | k + 1 => (bif a1 then (f130 k (fun r0_0 r0_1 => (f153 k ([([(r0_0, (r0_1, ()))] : zL6), a0] : List (zL5)) (fun r1_0 => (K r1_0))))) else (K a0))
def f128 := hid (@f128d R)
theorem f128_def : @f128 R = @f128d R := hid_eq
def f97d (k : Nat) (a0 a1 : Int) (a2 : ByteArray) (a3 : List Int) (a4 : zL5) (a5 a6 a7 a8 : Int) (K : zL5 → Int → Option R) : Option R := match k with
  | 0 => none
  | k + 1 => (f95 k a0 a1 a2 a3 a4 a5 a6 a7 a8 (fun r0_0 => (bif decide ((r0_0.length : Int) > 2000) then (K ([] : zL5) 2) else (f128 k r0_0 (a2.toList == (⟨#[]⟩ : ByteArray).toList) (fun r1_0 => (K r1_0 0))))))
def f97 := hid (@f97d R)
theorem f97_def : @f97 R = @f97d R := hid_eq
def f61_1000018d (k : Nat) (xN : Int → Option R) (c0 : Bool) (c12 : Int) : Option R :=
  (bif c0 then (xN 0) else (xN c12))
def f61_1000018 := hid (@f61_1000018d R)
theorem f61_1000018_def : @f61_1000018 R = @f61_1000018d R := hid_eq
def f61_1000023d (k : Nat) (xN : ByteArray → Option R) (c0 : Bool) (c8 c17 : ByteArray) : Option R :=
  (bif c0 then (xN c17) else (xN c8))
def f61_1000023 := hid (@f61_1000023d R)
theorem f61_1000023_def : @f61_1000023 R = @f61_1000023d R := hid_eq
def f61_1000015d (k : Nat) (K : zK2 R) (xN : ByteArray → List Int → zL5 → Int → Int → Int → Option R) (c0 : Bool) (c8 : ByteArray) (c9 : List Int) (c10 : zL5) (c11 c12 c14 c15 : Int) (c17 : ByteArray) (c18 c19 c20 : Int) (c21 : List Int) : Option R :=
  (bif c0 then (f94 k c9 c10 c20 c21 (fun r0_0 r0_1 r0_2 => (f61_1000018 k (fun y18_N_11 => (bif decide ((r0_2.length : Int) > 2000) then (K 0 0 (⟨#[]⟩ : ByteArray) ([] : List Int) ([] : zL5) 0 0 0 0 2 ([] : zL2)) else (xN c8 r0_1 r0_2 c11 c12 y18_N_11))) r0_0 c14))) else (f61_1000023 k (fun y23_N_7 => (xN y23_N_7 c9 c10 c18 c19 c14)) (c15 == 1) c8 c17))
def f61_1000015 := hid (@f61_1000015d R)
theorem f61_1000015_def : @f61_1000015 R = @f61_1000015d R := hid_eq
def f61_1000025d (k : Nat) (xN : Int → Option R) (c0 : Bool) (c6 : Int) : Option R :=
  (bif c0 then (xN 1) else (xN c6))
def f61_1000025 := hid (@f61_1000025d R)
theorem f61_1000025_def : @f61_1000025 R = @f61_1000025d R := hid_eq
def f61_1000030d (k : Nat) (xN : Int → Option R) (c1 : Bool) (c2 : Int) : Option R :=
  (bif c1 then (xN 3) else (xN c2))
def f61_1000030 := hid (@f61_1000030d R)
theorem f61_1000030_def : @f61_1000030 R = @f61_1000030d R := hid_eq
def f61d (k : Nat) (a0 a1 a2 a3 a4 a5 a6 : Int) (a7 : ByteArray) (a8 : List Int) (a9 : zL5) (a10 a11 a12 a13 a14 a15 : Int) (a16 : ByteArray) (a17 a18 a19 : Int) (a20 : List Int) (a21 : zL5) (a22 : Bool) (K : zK2 R) : Option R := match k with
  | 0 => none
  | k + 1 => (bif ((a14 == 1) == false) then (bif ((a14 == 2) == false) then (bif ((a14 == 3) == false) then (bif ((a15 != a6) == false) then (bif ((!(a14 == 6)) == false) then (bif (a5 == 4) then (K a5 a6 a7 a8 a9 a10 a11 a12 a13 0 ([] : zL2)) else (bif (a5 == 3) then (bif (a14 == 3) then (K a5 a6 a7 a8 a9 a10 a11 a12 a13 0 ([((5 : Int), (a6, ((⟨#[]⟩ : ByteArray), ((0 : Int), ((0 : Int), ((0 : Int), (([] : List Int), (([] : zL5), (true, ())))))))))] : zL3)) else (K a5 a6 a7 a8 a9 a10 a11 a12 a13 0 ([] : zL2))) else (bif (a14 == 6) then (K 4 a6 a7 a8 a9 a10 a11 0 a13 0 ([] : zL2)) else (f93 k a5 a6 a7 a8 a9 a10 a11 a12 a13 a14 a15 a16 a17 a18 a19 a20 a21 a22 (fun r0_0 => (bif r0_0 then (K 4 a6 a7 a8 a9 a10 a11 0 a13 0 ([((6 : Int), (a6, ((⟨#[]⟩ : ByteArray), ((0 : Int), ((0 : Int), ((0 : Int), (([] : List Int), (([] : zL5), (false, ())))))))))] : zL3)) else (f61_1000015 k K (fun y15_N_7 y15_N_8 y15_N_9 y15_N_10 y15_N_11 y15_N_13 => (f61_1000025 k (fun y25_N_5 => (bif ((!(y15_N_7.toList == (⟨#[]⟩ : ByteArray).toList)) == true) then (bif (decide (y15_N_10 ≥ 0) == true) then (f95 k y25_N_5 a6 y15_N_7 y15_N_8 y15_N_9 y15_N_10 y15_N_11 a12 y15_N_13 (fun r1_0 => (bif ((r1_0.length : Int) == 0) then (f96 k y15_N_8 (fun r2_0 => (f61_1000030 k (fun y30_N_1 => (K y30_N_1 a6 y15_N_7 y15_N_8 y15_N_9 y15_N_10 y15_N_11 0 y15_N_13 0 ([((5 : Int), (a6, ((⟨#[]⟩ : ByteArray), ((0 : Int), ((0 : Int), ((0 : Int), (([] : List Int), (([] : zL5), ((r2_0 == y15_N_11), ())))))))))] : zL3))) (r2_0 == y15_N_11) 4))) else (bif (a14 != 3) then (K y25_N_5 a6 y15_N_7 y15_N_8 y15_N_9 y15_N_10 y15_N_11 a12 y15_N_13 0 ([] : zL2)) else (f97 k 2 a6 y15_N_7 y15_N_8 y15_N_9 y15_N_10 y15_N_11 a3 y15_N_13 (fun r3_0 r3_1 => (bif (r3_1 != 0) then (K 0 0 (⟨#[]⟩ : ByteArray) ([] : List Int) ([] : zL5) 0 0 0 0 r3_1 ([] : zL2)) else (K 2 a6 y15_N_7 y15_N_8 y15_N_9 y15_N_10 y15_N_11 a3 y15_N_13 0 ([((4 : Int), (a6, ((⟨#[]⟩ : ByteArray), ((0 : Int), ((0 : Int), ((0 : Int), (([] : List Int), (r3_0, (false, ())))))))))] : zL3))))))))) else (bif (a14 != 3) then (K y25_N_5 a6 y15_N_7 y15_N_8 y15_N_9 y15_N_10 y15_N_11 a12 y15_N_13 0 ([] : zL2)) else (f97 k 2 a6 y15_N_7 y15_N_8 y15_N_9 y15_N_10 y15_N_11 a3 y15_N_13 (fun r3_0 r3_1 => (bif (r3_1 != 0) then (K 0 0 (⟨#[]⟩ : ByteArray) ([] : List Int) ([] : zL5) 0 0 0 0 r3_1 ([] : zL2)) else (K 2 a6 y15_N_7 y15_N_8 y15_N_9 y15_N_10 y15_N_11 a3 y15_N_13 0 ([((4 : Int), (a6, ((⟨#[]⟩ : ByteArray), ((0 : Int), ((0 : Int), ((0 : Int), (([] : List Int), (r3_0, (false, ())))))))))] : zL3))))))) else (bif (a14 != 3) then (K y25_N_5 a6 y15_N_7 y15_N_8 y15_N_9 y15_N_10 y15_N_11 a12 y15_N_13 0 ([] : zL2)) else (f97 k 2 a6 y15_N_7 y15_N_8 y15_N_9 y15_N_10 y15_N_11 a3 y15_N_13 (fun r3_0 r3_1 => (bif (r3_1 != 0) then (K 0 0 (⟨#[]⟩ : ByteArray) ([] : List Int) ([] : zL5) 0 0 0 0 r3_1 ([] : zL2)) else (K 2 a6 y15_N_7 y15_N_8 y15_N_9 y15_N_10 y15_N_11 a3 y15_N_13 0 ([((4 : Int), (a6, ((⟨#[]⟩ : ByteArray), ((0 : Int), ((0 : Int), ((0 : Int), (([] : List Int), (r3_0, (false, ())))))))))] : zL3)))))))) (a5 == 0) a5)) (a14 == 2) a7 a8 a9 a10 a11 a13 a14 a16 a17 a18 a19 a20))))))) else (K a5 a6 a7 a8 a9 a10 a11 a12 a13 0 ([] : zL2))) else (K a5 a6 a7 a8 a9 a10 a11 a12 a13 0 ([] : zL2))) else (bif ((a15 != a6) == false) then (bif (a5 == 4) then (K a5 a6 a7 a8 a9 a10 a11 a12 a13 0 ([] : zL2)) else (bif (a5 == 3) then (bif (a14 == 3) then (K a5 a6 a7 a8 a9 a10 a11 a12 a13 0 ([((5 : Int), (a6, ((⟨#[]⟩ : ByteArray), ((0 : Int), ((0 : Int), ((0 : Int), (([] : List Int), (([] : zL5), (true, ())))))))))] : zL3)) else (K a5 a6 a7 a8 a9 a10 a11 a12 a13 0 ([] : zL2))) else (bif (a14 == 6) then (K 4 a6 a7 a8 a9 a10 a11 0 a13 0 ([] : zL2)) else (f93 k a5 a6 a7 a8 a9 a10 a11 a12 a13 a14 a15 a16 a17 a18 a19 a20 a21 a22 (fun r0_0 => (bif r0_0 then (K 4 a6 a7 a8 a9 a10 a11 0 a13 0 ([((6 : Int), (a6, ((⟨#[]⟩ : ByteArray), ((0 : Int), ((0 : Int), ((0 : Int), (([] : List Int), (([] : zL5), (false, ())))))))))] : zL3)) else (f61_1000015 k K (fun y15_N_7 y15_N_8 y15_N_9 y15_N_10 y15_N_11 y15_N_13 => (f61_1000025 k (fun y25_N_5 => (bif ((!(y15_N_7.toList == (⟨#[]⟩ : ByteArray).toList)) == true) then (bif (decide (y15_N_10 ≥ 0) == true) then (f95 k y25_N_5 a6 y15_N_7 y15_N_8 y15_N_9 y15_N_10 y15_N_11 a12 y15_N_13 (fun r1_0 => (bif ((r1_0.length : Int) == 0) then (f96 k y15_N_8 (fun r2_0 => (f61_1000030 k (fun y30_N_1 => (K y30_N_1 a6 y15_N_7 y15_N_8 y15_N_9 y15_N_10 y15_N_11 0 y15_N_13 0 ([((5 : Int), (a6, ((⟨#[]⟩ : ByteArray), ((0 : Int), ((0 : Int), ((0 : Int), (([] : List Int), (([] : zL5), ((r2_0 == y15_N_11), ())))))))))] : zL3))) (r2_0 == y15_N_11) 4))) else (bif (a14 != 3) then (K y25_N_5 a6 y15_N_7 y15_N_8 y15_N_9 y15_N_10 y15_N_11 a12 y15_N_13 0 ([] : zL2)) else (f97 k 2 a6 y15_N_7 y15_N_8 y15_N_9 y15_N_10 y15_N_11 a3 y15_N_13 (fun r3_0 r3_1 => (bif (r3_1 != 0) then (K 0 0 (⟨#[]⟩ : ByteArray) ([] : List Int) ([] : zL5) 0 0 0 0 r3_1 ([] : zL2)) else (K 2 a6 y15_N_7 y15_N_8 y15_N_9 y15_N_10 y15_N_11 a3 y15_N_13 0 ([((4 : Int), (a6, ((⟨#[]⟩ : ByteArray), ((0 : Int), ((0 : Int), ((0 : Int), (([] : List Int), (r3_0, (false, ())))))))))] : zL3))))))))) else (bif (a14 != 3) then (K y25_N_5 a6 y15_N_7 y15_N_8 y15_N_9 y15_N_10 y15_N_11 a12 y15_N_13 0 ([] : zL2)) else (f97 k 2 a6 y15_N_7 y15_N_8 y15_N_9 y15_N_10 y15_N_11 a3 y15_N_13 (fun r3_0 r3_1 => (bif (r3_1 != 0) then (K 0 0 (⟨#[]⟩ : ByteArray) ([] : List Int) ([] : zL5) 0 0 0 0 r3_1 ([] : zL2)) else (K 2 a6 y15_N_7 y15_N_8 y15_N_9 y15_N_10 y15_N_11 a3 y15_N_13 0 ([((4 : Int), (a6, ((⟨#[]⟩ : ByteArray), ((0 : Int), ((0 : Int), ((0 : Int), (([] : List Int), (r3_0, (false, ())))))))))] : zL3))))))) else (bif (a14 != 3) then (K y25_N_5 a6 y15_N_7 y15_N_8 y15_N_9 y15_N_10 y15_N_11 a12 y15_N_13 0 ([] : zL2)) else (f97 k 2 a6 y15_N_7 y15_N_8 y15_N_9 y15_N_10 y15_N_11 a3 y15_N_13 (fun r3_0 r3_1 => (bif (r3_1 != 0) then (K 0 0 (⟨#[]⟩ : ByteArray) ([] : List Int) ([] : zL5) 0 0 0 0 r3_1 ([] : zL2)) else (K 2 a6 y15_N_7 y15_N_8 y15_N_9 y15_N_10 y15_N_11 a3 y15_N_13 0 ([((4 : Int), (a6, ((⟨#[]⟩ : ByteArray), ((0 : Int), ((0 : Int), ((0 : Int), (([] : List Int), (r3_0, (false, ())))))))))] : zL3)))))))) (a5 == 0) a5)) (a14 == 2) a7 a8 a9 a10 a11 a13 a14 a16 a17 a18 a19 a20))))))) else (K a5 a6 a7 a8 a9 a10 a11 a12 a13 0 ([] : zL2)))) else (bif ((a15 != a6) == false) then (bif (a5 == 4) then (K a5 a6 a7 a8 a9 a10 a11 a12 a13 0 ([] : zL2)) else (bif (a5 == 3) then (bif (a14 == 3) then (K a5 a6 a7 a8 a9 a10 a11 a12 a13 0 ([((5 : Int), (a6, ((⟨#[]⟩ : ByteArray), ((0 : Int), ((0 : Int), ((0 : Int), (([] : List Int), (([] : zL5), (true, ())))))))))] : zL3)) else (K a5 a6 a7 a8 a9 a10 a11 a12 a13 0 ([] : zL2))) else (bif (a14 == 6) then (K 4 a6 a7 a8 a9 a10 a11 0 a13 0 ([] : zL2)) else (f93 k a5 a6 a7 a8 a9 a10 a11 a12 a13 a14 a15 a16 a17 a18 a19 a20 a21 a22 (fun r0_0 => (bif r0_0 then (K 4 a6 a7 a8 a9 a10 a11 0 a13 0 ([((6 : Int), (a6, ((⟨#[]⟩ : ByteArray), ((0 : Int), ((0 : Int), ((0 : Int), (([] : List Int), (([] : zL5), (false, ())))))))))] : zL3)) else (f61_1000015 k K (fun y15_N_7 y15_N_8 y15_N_9 y15_N_10 y15_N_11 y15_N_13 => (f61_1000025 k (fun y25_N_5 => (bif ((!(y15_N_7.toList == (⟨#[]⟩ : ByteArray).toList)) == true) then (bif (decide (y15_N_10 ≥ 0) == true) then (f95 k y25_N_5 a6 y15_N_7 y15_N_8 y15_N_9 y15_N_10 y15_N_11 a12 y15_N_13 (fun r1_0 => (bif ((r1_0.length : Int) == 0) then (f96 k y15_N_8 (fun r2_0 => (f61_1000030 k (fun y30_N_1 => (K y30_N_1 a6 y15_N_7 y15_N_8 y15_N_9 y15_N_10 y15_N_11 0 y15_N_13 0 ([((5 : Int), (a6, ((⟨#[]⟩ : ByteArray), ((0 : Int), ((0 : Int), ((0 : Int), (([] : List Int), (([] : zL5), ((r2_0 == y15_N_11), ())))))))))] : zL3))) (r2_0 == y15_N_11) 4))) else (bif (a14 != 3) then (K y25_N_5 a6 y15_N_7 y15_N_8 y15_N_9 y15_N_10 y15_N_11 a12 y15_N_13 0 ([] : zL2)) else (f97 k 2 a6 y15_N_7 y15_N_8 y15_N_9 y15_N_10 y15_N_11 a3 y15_N_13 (fun r3_0 r3_1 => (bif (r3_1 != 0) then (K 0 0 (⟨#[]⟩ : ByteArray) ([] : List Int) ([] : zL5) 0 0 0 0 r3_1 ([] : zL2)) else (K 2 a6 y15_N_7 y15_N_8 y15_N_9 y15_N_10 y15_N_11 a3 y15_N_13 0 ([((4 : Int), (a6, ((⟨#[]⟩ : ByteArray), ((0 : Int), ((0 : Int), ((0 : Int), (([] : List Int), (r3_0, (false, ())))))))))] : zL3))))))))) else (bif (a14 != 3) then (K y25_N_5 a6 y15_N_7 y15_N_8 y15_N_9 y15_N_10 y15_N_11 a12 y15_N_13 0 ([] : zL2)) else (f97 k 2 a6 y15_N_7 y15_N_8 y15_N_9 y15_N_10 y15_N_11 a3 y15_N_13 (fun r3_0 r3_1 => (bif (r3_1 != 0) then (K 0 0 (⟨#[]⟩ : ByteArray) ([] : List Int) ([] : zL5) 0 0 0 0 r3_1 ([] : zL2)) else (K 2 a6 y15_N_7 y15_N_8 y15_N_9 y15_N_10 y15_N_11 a3 y15_N_13 0 ([((4 : Int), (a6, ((⟨#[]⟩ : ByteArray), ((0 : Int), ((0 : Int), ((0 : Int), (([] : List Int), (r3_0, (false, ())))))))))] : zL3))))))) else (bif (a14 != 3) then (K y25_N_5 a6 y15_N_7 y15_N_8 y15_N_9 y15_N_10 y15_N_11 a12 y15_N_13 0 ([] : zL2)) else (f97 k 2 a6 y15_N_7 y15_N_8 y15_N_9 y15_N_10 y15_N_11 a3 y15_N_13 (fun r3_0 r3_1 => (bif (r3_1 != 0) then (K 0 0 (⟨#[]⟩ : ByteArray) ([] : List Int) ([] : zL5) 0 0 0 0 r3_1 ([] : zL2)) else (K 2 a6 y15_N_7 y15_N_8 y15_N_9 y15_N_10 y15_N_11 a3 y15_N_13 0 ([((4 : Int), (a6, ((⟨#[]⟩ : ByteArray), ((0 : Int), ((0 : Int), ((0 : Int), (([] : List Int), (r3_0, (false, ())))))))))] : zL3)))))))) (a5 == 0) a5)) (a14 == 2) a7 a8 a9 a10 a11 a13 a14 a16 a17 a18 a19 a20))))))) else (K a5 a6 a7 a8 a9 a10 a11 a12 a13 0 ([] : zL2)))) else (bif ((a15 != a6) == false) then (bif (a5 == 4) then (K a5 a6 a7 a8 a9 a10 a11 a12 a13 0 ([] : zL2)) else (bif (a5 == 3) then (bif (a14 == 3) then (K a5 a6 a7 a8 a9 a10 a11 a12 a13 0 ([((5 : Int), (a6, ((⟨#[]⟩ : ByteArray), ((0 : Int), ((0 : Int), ((0 : Int), (([] : List Int), (([] : zL5), (true, ())))))))))] : zL3)) else (K a5 a6 a7 a8 a9 a10 a11 a12 a13 0 ([] : zL2))) else (bif (a14 == 6) then (K 4 a6 a7 a8 a9 a10 a11 0 a13 0 ([] : zL2)) else (f93 k a5 a6 a7 a8 a9 a10 a11 a12 a13 a14 a15 a16 a17 a18 a19 a20 a21 a22 (fun r0_0 => (bif r0_0 then (K 4 a6 a7 a8 a9 a10 a11 0 a13 0 ([((6 : Int), (a6, ((⟨#[]⟩ : ByteArray), ((0 : Int), ((0 : Int), ((0 : Int), (([] : List Int), (([] : zL5), (false, ())))))))))] : zL3)) else (f61_1000015 k K (fun y15_N_7 y15_N_8 y15_N_9 y15_N_10 y15_N_11 y15_N_13 => (f61_1000025 k (fun y25_N_5 => (bif ((!(y15_N_7.toList == (⟨#[]⟩ : ByteArray).toList)) == true) then (bif (decide (y15_N_10 ≥ 0) == true) then (f95 k y25_N_5 a6 y15_N_7 y15_N_8 y15_N_9 y15_N_10 y15_N_11 a12 y15_N_13 (fun r1_0 => (bif ((r1_0.length : Int) == 0) then (f96 k y15_N_8 (fun r2_0 => (f61_1000030 k (fun y30_N_1 => (K y30_N_1 a6 y15_N_7 y15_N_8 y15_N_9 y15_N_10 y15_N_11 0 y15_N_13 0 ([((5 : Int), (a6, ((⟨#[]⟩ : ByteArray), ((0 : Int), ((0 : Int), ((0 : Int), (([] : List Int), (([] : zL5), ((r2_0 == y15_N_11), ())))))))))] : zL3))) (r2_0 == y15_N_11) 4))) else (bif (a14 != 3) then (K y25_N_5 a6 y15_N_7 y15_N_8 y15_N_9 y15_N_10 y15_N_11 a12 y15_N_13 0 ([] : zL2)) else (f97 k 2 a6 y15_N_7 y15_N_8 y15_N_9 y15_N_10 y15_N_11 a3 y15_N_13 (fun r3_0 r3_1 => (bif (r3_1 != 0) then (K 0 0 (⟨#[]⟩ : ByteArray) ([] : List Int) ([] : zL5) 0 0 0 0 r3_1 ([] : zL2)) else (K 2 a6 y15_N_7 y15_N_8 y15_N_9 y15_N_10 y15_N_11 a3 y15_N_13 0 ([((4 : Int), (a6, ((⟨#[]⟩ : ByteArray), ((0 : Int), ((0 : Int), ((0 : Int), (([] : List Int), (r3_0, (false, ())))))))))] : zL3))))))))) else (bif (a14 != 3) then (K y25_N_5 a6 y15_N_7 y15_N_8 y15_N_9 y15_N_10 y15_N_11 a12 y15_N_13 0 ([] : zL2)) else (f97 k 2 a6 y15_N_7 y15_N_8 y15_N_9 y15_N_10 y15_N_11 a3 y15_N_13 (fun r3_0 r3_1 => (bif (r3_1 != 0) then (K 0 0 (⟨#[]⟩ : ByteArray) ([] : List Int) ([] : zL5) 0 0 0 0 r3_1 ([] : zL2)) else (K 2 a6 y15_N_7 y15_N_8 y15_N_9 y15_N_10 y15_N_11 a3 y15_N_13 0 ([((4 : Int), (a6, ((⟨#[]⟩ : ByteArray), ((0 : Int), ((0 : Int), ((0 : Int), (([] : List Int), (r3_0, (false, ())))))))))] : zL3))))))) else (bif (a14 != 3) then (K y25_N_5 a6 y15_N_7 y15_N_8 y15_N_9 y15_N_10 y15_N_11 a12 y15_N_13 0 ([] : zL2)) else (f97 k 2 a6 y15_N_7 y15_N_8 y15_N_9 y15_N_10 y15_N_11 a3 y15_N_13 (fun r3_0 r3_1 => (bif (r3_1 != 0) then (K 0 0 (⟨#[]⟩ : ByteArray) ([] : List Int) ([] : zL5) 0 0 0 0 r3_1 ([] : zL2)) else (K 2 a6 y15_N_7 y15_N_8 y15_N_9 y15_N_10 y15_N_11 a3 y15_N_13 0 ([((4 : Int), (a6, ((⟨#[]⟩ : ByteArray), ((0 : Int), ((0 : Int), ((0 : Int), (([] : List Int), (r3_0, (false, ())))))))))] : zL3)))))))) (a5 == 0) a5)) (a14 == 2) a7 a8 a9 a10 a11 a13 a14 a16 a17 a18 a19 a20))))))) else (K a5 a6 a7 a8 a9 a10 a11 a12 a13 0 ([] : zL2))))
def f61 := hid (@f61d R)
theorem f61_def : @f61 R = @f61d R := hid_eq
def f62_1000004d (k : Nat) (xN : zL1 → Option R) (c0 : Int) (c4 : Bool) (c33 : zL1) (c34 c35 : Int) (c36 : ByteArray) (c37 c38 c39 : Int) (c40 : List Int) (c41 : zL5) (c42 : Bool) : Option R :=
  (bif c4 then (bif decide (c33.length + ([(c0, ((c34, (c35, (c36, (c37, (c38, (c39, (c40, (c41, (c42, ()))))))))), ()))] : zL1).length ≤ LIM 120) then (xN (c33 ++ ([(c0, ((c34, (c35, (c36, (c37, (c38, (c39, (c40, (c41, (c42, ()))))))))), ()))] : zL1))) else none) else (xN c33))
def f62_1000004 := hid (@f62_1000004d R)
theorem f62_1000004_def : @f62_1000004 R = @f62_1000004d R := hid_eq
def f62_0b (k : Nat) (rec : Int → Int → zL1 → Option R) (x0 : Int → zL1 → Option R) (c0 : Int) (c1 : zL2) (c2 c4 c5 c6 c7 c8 c9 c10 : Int) (c11 : ByteArray) (c12 : List Int) (c13 : Int) (c14 : zL5) (c15 c16 c17 c18 : Int) (c19 : ByteArray) (c20 : List Int) (c21 : zL5) (c22 c23 c24 c25 : Int) (c26 : List Bool) (c27 : Int) (c28 : List Bool) (c30 : Int) (c31 : zL1) (c3 c29 : Int) (c32 : zL1) : Option R :=
  (bif decide (c3 < c2) then (bif (decide (0 ≤ c3) && decide (c3 < (c1.length : Int))) then (bif (decide (c29 ≥ (c28.length : Int)) == false) then (bif (decide (0 ≤ c29) && decide (c29 < (c28.length : Int))) then (f62_1000004 k (fun p32 => (rec (IntKind.i64.wrap (c3 + 1)) (IntKind.i64.wrap (c29 + 1)) p32)) c0 (!(c28.getD (Int.toNat c29) false)) c32 ((c1.getD (Int.toNat c3) zD0).1) (((c1.getD (Int.toNat c3) zD0).2).1) ((((c1.getD (Int.toNat c3) zD0).2).2).1) (((((c1.getD (Int.toNat c3) zD0).2).2).2).1) ((((((c1.getD (Int.toNat c3) zD0).2).2).2).2).1) (((((((c1.getD (Int.toNat c3) zD0).2).2).2).2).2).1) ((((((((c1.getD (Int.toNat c3) zD0).2).2).2).2).2).2).1) (((((((((c1.getD (Int.toNat c3) zD0).2).2).2).2).2).2).2).1) ((((((((((c1.getD (Int.toNat c3) zD0).2).2).2).2).2).2).2).2).1)) else none) else (f62_1000004 k (fun p32 => (rec (IntKind.i64.wrap (c3 + 1)) (IntKind.i64.wrap (c29 + 1)) p32)) c0 true c32 ((c1.getD (Int.toNat c3) zD0).1) (((c1.getD (Int.toNat c3) zD0).2).1) ((((c1.getD (Int.toNat c3) zD0).2).2).1) (((((c1.getD (Int.toNat c3) zD0).2).2).2).1) ((((((c1.getD (Int.toNat c3) zD0).2).2).2).2).1) (((((((c1.getD (Int.toNat c3) zD0).2).2).2).2).2).1) ((((((((c1.getD (Int.toNat c3) zD0).2).2).2).2).2).2).1) (((((((((c1.getD (Int.toNat c3) zD0).2).2).2).2).2).2).2).1) ((((((((((c1.getD (Int.toNat c3) zD0).2).2).2).2).2).2).2).2).1))) else none) else (x0 c29 c32))
def f62_0d (k : Nat) (x0 : Int → zL1 → Option R) (c0 : Int) (c1 : zL2) (c2 c4 c5 c6 c7 c8 c9 c10 : Int) (c11 : ByteArray) (c12 : List Int) (c13 : Int) (c14 : zL5) (c15 c16 c17 c18 : Int) (c19 : ByteArray) (c20 : List Int) (c21 : zL5) (c22 c23 c24 c25 : Int) (c26 : List Bool) (c27 : Int) (c28 : List Bool) (c30 : Int) (c31 : zL1) : Nat → Int → Int → zL1 → Option R
  | 0, _, _, _ => none
  | m + 1, c3, c29, c32 => f62_0b k (f62_0d k x0 c0 c1 c2 c4 c5 c6 c7 c8 c9 c10 c11 c12 c13 c14 c15 c16 c17 c18 c19 c20 c21 c22 c23 c24 c25 c26 c27 c28 c30 c31 m) x0 c0 c1 c2 c4 c5 c6 c7 c8 c9 c10 c11 c12 c13 c14 c15 c16 c17 c18 c19 c20 c21 c22 c23 c24 c25 c26 c27 c28 c30 c31 c3 c29 c32
def f62_0 := hid (@f62_0d R)
theorem f62_0_def : @f62_0 R = @f62_0d R := hid_eq
def f62d (k : Nat) (a0 : Int) (a1 : zL2) (a2 a3 a4 a5 a6 a7 a8 : Int) (a9 : ByteArray) (a10 : List Int) (a11 : Int) (a12 : zL5) (a13 a14 a15 a16 : Int) (a17 : ByteArray) (a18 : List Int) (a19 : zL5) (a20 a21 a22 a23 : Int) (a24 : List Bool) (a25 : Int) (a26 : List Bool) (a27 a28 : Int) (a29 a30 : zL1) (K : zK3 R) : Option R := match k with
  | 0 => none
  | k + 1 => (f62_0 k (fun p25 p28 => (K a2 a3 a4 a5 a6 a7 a8 a9 a10 a11 a12 a13 a14 a15 a16 a17 a18 a19 a20 a21 a22 a23 a24 a25 a26 p25 a28 a29 p28)) a0 a1 (a1.length : Int) a2 a3 a4 a5 a6 a7 a8 a9 a10 a11 a12 a13 a14 a15 a16 a17 a18 a19 a20 a21 a22 a23 a24 a25 a26 a28 a29 k 0 a27 a30)
def f62 := hid (@f62d R)
theorem f62_def : @f62 R = @f62d R := hid_eq
def f60v1_0b (k : Nat) (rec x0 : zL1 → zL3 → Option R) (c0 c1 c2 c3 c4 c5 c6 c7 : Int) (c8 : ByteArray) (c9 : List Int) (c10 : Int) (c11 : zL5) (c12 c13 c14 c15 : Int) (c16 : ByteArray) (c17 : List Int) (c18 : zL5) (c19 c20 c21 c22 : Int) (c23 : List Bool) (c24 : Int) (c25 : List Bool) (c26 c27 : Int) (c28 c29 : zL1) (c30 : zL3) : Option R :=
  (bif (decide ((c29.length : Int) > 0) == true) then (bif decide (0 < (c29.length : Int)) then (bif decide ((c29.getD 0 ((0 : Int), (zD0, ()))).1 ≤ c0) then (bif decide (0 < (c29.length : Int)) then (bif decide (c30.length + ([((((c29.getD 0 ((0 : Int), (zD0, ()))).2).1).1, (((((c29.getD 0 ((0 : Int), (zD0, ()))).2).1).2).1, ((((((c29.getD 0 ((0 : Int), (zD0, ()))).2).1).2).2).1, (((((((c29.getD 0 ((0 : Int), (zD0, ()))).2).1).2).2).2).1, ((((((((c29.getD 0 ((0 : Int), (zD0, ()))).2).1).2).2).2).2).1, (((((((((c29.getD 0 ((0 : Int), (zD0, ()))).2).1).2).2).2).2).2).1, ((((((((((c29.getD 0 ((0 : Int), (zD0, ()))).2).1).2).2).2).2).2).2).1, (((((((((((c29.getD 0 ((0 : Int), (zD0, ()))).2).1).2).2).2).2).2).2).2).1, ((((((((((((c29.getD 0 ((0 : Int), (zD0, ()))).2).1).2).2).2).2).2).2).2).2).1, ())))))))))] : zL3).length ≤ LIM 112) then (bif decide (1 ≤ (c29.length : Int)) then (rec ((c29.drop 1).take (c29.length - 1)) (c30 ++ ([((((c29.getD 0 ((0 : Int), (zD0, ()))).2).1).1, (((((c29.getD 0 ((0 : Int), (zD0, ()))).2).1).2).1, ((((((c29.getD 0 ((0 : Int), (zD0, ()))).2).1).2).2).1, (((((((c29.getD 0 ((0 : Int), (zD0, ()))).2).1).2).2).2).1, ((((((((c29.getD 0 ((0 : Int), (zD0, ()))).2).1).2).2).2).2).1, (((((((((c29.getD 0 ((0 : Int), (zD0, ()))).2).1).2).2).2).2).2).1, ((((((((((c29.getD 0 ((0 : Int), (zD0, ()))).2).1).2).2).2).2).2).2).1, (((((((((((c29.getD 0 ((0 : Int), (zD0, ()))).2).1).2).2).2).2).2).2).2).1, ((((((((((((c29.getD 0 ((0 : Int), (zD0, ()))).2).1).2).2).2).2).2).2).2).2).1, ())))))))))] : zL3))) else none) else none) else none) else (x0 c29 c30)) else none) else (x0 c29 c30))
def f60v1_0d (k : Nat) (x0 : zL1 → zL3 → Option R) (c0 c1 c2 c3 c4 c5 c6 c7 : Int) (c8 : ByteArray) (c9 : List Int) (c10 : Int) (c11 : zL5) (c12 c13 c14 c15 : Int) (c16 : ByteArray) (c17 : List Int) (c18 : zL5) (c19 c20 c21 c22 : Int) (c23 : List Bool) (c24 : Int) (c25 : List Bool) (c26 c27 : Int) (c28 : zL1) : Nat → zL1 → zL3 → Option R
  | 0, _, _ => none
  | m + 1, c29, c30 => f60v1_0b k (f60v1_0d k x0 c0 c1 c2 c3 c4 c5 c6 c7 c8 c9 c10 c11 c12 c13 c14 c15 c16 c17 c18 c19 c20 c21 c22 c23 c24 c25 c26 c27 c28 m) x0 c0 c1 c2 c3 c4 c5 c6 c7 c8 c9 c10 c11 c12 c13 c14 c15 c16 c17 c18 c19 c20 c21 c22 c23 c24 c25 c26 c27 c28 c29 c30
def f60v1_0 := hid (@f60v1_0d R)
theorem f60v1_0_def : @f60v1_0 R = @f60v1_0d R := hid_eq
def f60v1d (k : Nat) (a0 a1 a2 a3 a4 a5 a6 a7 : Int) (a8 : ByteArray) (a9 : List Int) (a10 : Int) (a11 : zL5) (a12 a13 a14 a15 : Int) (a16 : ByteArray) (a17 : List Int) (a18 : zL5) (a19 a20 a21 a22 : Int) (a23 : List Bool) (a24 : Int) (a25 : List Bool) (a26 a27 : Int) (a28 a29 : zL1) (K : zK1 R) : Option R := match k with
  | 0 => none
  | k + 1 => (f60v1_0 k (fun p28 p29 => (K a1 a2 a3 a4 a5 a6 a7 a8 a9 a10 a11 a12 a13 a14 a15 a16 a17 a18 a19 a20 a21 a22 a23 a24 a25 a26 a27 a28 p28 p29)) a0 a1 a2 a3 a4 a5 a6 a7 a8 a9 a10 a11 a12 a13 a14 a15 a16 a17 a18 a19 a20 a21 a22 a23 a24 a25 a26 a27 a28 k a29 ([] : zL2))
def f60v1 := hid (@f60v1d R)
theorem f60v1_def : @f60v1 R = @f60v1d R := hid_eq
def f129d (k : Nat) (a0 : zL5) (K : zL5 → Bool → Option R) : Option R := match k with
  | 0 => none
  | k + 1 => (bif (decide ((a0.length : Int) > 0) == true) then (bif decide (0 < (a0.length : Int)) then (f130 k (fun r0_0 r0_1 => (bif ((((a0.getD 0 ((0 : Int), ((0 : Int), ()))).1, (((a0.getD 0 ((0 : Int), ((0 : Int), ()))).2).1, ())).1 == (r0_0, (r0_1, ())).1) && (((((a0.getD 0 ((0 : Int), ((0 : Int), ()))).1, (((a0.getD 0 ((0 : Int), ((0 : Int), ()))).2).1, ())).2).1 == ((r0_0, (r0_1, ())).2).1) && true)) then (bif decide (1 ≤ (a0.length : Int)) then (K (a0.drop 1) true) else none) else (K a0 false)))) else none) else (K a0 false))
def f129 := hid (@f129d R)
theorem f129_def : @f129 R = @f129d R := hid_eq
def f98_1000008d (k : Nat) (xN : zL6 → Option R) (c6 : Bool) (c21 : zL6) (c22 c23 : Int) : Option R :=
  (bif c6 then (bif decide (c21.length + ([(c22, (c23, ()))] : zL6).length ≤ LIM 16) then (xN (c21 ++ ([(c22, (c23, ()))] : zL6))) else none) else (xN c21))
def f98_1000008 := hid (@f98_1000008d R)
theorem f98_1000008_def : @f98_1000008 R = @f98_1000008d R := hid_eq
def f98_0b (k : Nat) (rec : Int → zL6 → Option R) (x0 : zL6 → Option R) (c0 : Bool) (c1 : zL5) (c2 : Bool) (c3 : zL5) (c4 c6 c7 : Int) (c8 : ByteArray) (c9 : List Int) (c10 : Int) (c11 : zL5) (c12 c13 c14 c15 : Int) (c16 : ByteArray) (c17 c18 c19 c5 : Int) (c20 : zL6) : Option R :=
  (bif decide (c5 < c4) then (bif (decide (0 ≤ c5) && decide (c5 < (c3.length : Int))) then (f98_1000008 k (fun p20 => (rec (IntKind.i64.wrap (c5 + 1)) p20)) (decide (((c3.getD (Int.toNat c5) ((0 : Int), ((0 : Int), ()))).2).1 ≤ c10)) c20 ((c3.getD (Int.toNat c5) ((0 : Int), ((0 : Int), ()))).1) (((c3.getD (Int.toNat c5) ((0 : Int), ((0 : Int), ()))).2).1)) else none) else (x0 c20))
def f98_0d (k : Nat) (x0 : zL6 → Option R) (c0 : Bool) (c1 : zL5) (c2 : Bool) (c3 : zL5) (c4 c6 c7 : Int) (c8 : ByteArray) (c9 : List Int) (c10 : Int) (c11 : zL5) (c12 c13 c14 c15 : Int) (c16 : ByteArray) (c17 c18 c19 : Int) : Nat → Int → zL6 → Option R
  | 0, _, _ => none
  | m + 1, c5, c20 => f98_0b k (f98_0d k x0 c0 c1 c2 c3 c4 c6 c7 c8 c9 c10 c11 c12 c13 c14 c15 c16 c17 c18 c19 m) x0 c0 c1 c2 c3 c4 c6 c7 c8 c9 c10 c11 c12 c13 c14 c15 c16 c17 c18 c19 c5 c20
def f98_0 := hid (@f98_0d R)
theorem f98_0_def : @f98_0 R = @f98_0d R := hid_eq
def f98_1000016d (k : Nat) (xN : Int → Int → Option R) (c0 : Bool) (c1 c7 : Int) : Option R :=
  (bif c0 then (xN 1 0) else (xN c1 c7))
def f98_1000016 := hid (@f98_1000016d R)
theorem f98_1000016_def : @f98_1000016 R = @f98_1000016d R := hid_eq
def f98d (k : Nat) (a0 a1 : Int) (a2 : ByteArray) (a3 : List Int) (a4 : Int) (a5 : zL5) (a6 a7 : Int) (a8 : zL5) (K : zK4 R) : Option R := match k with
  | 0 => none
  | k + 1 => (f129 k a8 (fun r0_0 r0_1 => (f129 k a5 (fun r1_0 r1_1 => (f98_0 k (fun y0_0_17 => (f127 k r1_0 y0_0_17 (fun r2_0 => (bif decide ((r2_0.length : Int) > 2000) then (K 0 0 (⟨#[]⟩ : ByteArray) ([] : List Int) 0 ([] : zL5) 0 0 2) else (bif (r1_1 == false) then (bif (r0_1 == true) then (f128 k r2_0 (a4 != (-1)) (fun r3_0 => (f98_1000016 k (fun y16_N_0 y16_N_6 => (K y16_N_0 a1 a2 a3 a4 r3_0 y16_N_6 0 0)) (decide ((r3_0.length : Int) > 0)) a0 a6))) else (f128 k r2_0 false (fun r3_0 => (f98_1000016 k (fun y16_N_0 y16_N_6 => (K y16_N_0 a1 a2 a3 a4 r3_0 y16_N_6 0 0)) (decide ((r3_0.length : Int) > 0)) a0 a6)))) else (f128 k r2_0 true (fun r3_0 => (f98_1000016 k (fun y16_N_0 y16_N_6 => (K y16_N_0 a1 a2 a3 a4 r3_0 y16_N_6 0 0)) (decide ((r3_0.length : Int) > 0)) a0 a6)))))))) r0_1 r1_0 r1_1 r0_0 (r0_0.length : Int) a0 a1 a2 a3 a4 a5 a6 a7 0 0 (⟨#[]⟩ : ByteArray) 0 0 0 k 0 ([] : zL5))))))
def f98 := hid (@f98d R)
theorem f98_def : @f98 R = @f98d R := hid_eq
def f63_1000008d (k : Nat) (xN : Int → zL5 → Int → Option R) (c0 : Bool) (c1 : Int) (c6 : zL5) (c7 : Int) : Option R :=
  (bif c0 then (xN 4 ([] : zL5) 0) else (xN c1 c6 c7))
def f63_1000008 := hid (@f63_1000008d R)
theorem f63_1000008_def : @f63_1000008 R = @f63_1000008d R := hid_eq
def f63_1000006d (k : Nat) (xN : Int → zL5 → Int → Option R) (c0 : Bool) (c1 : Int) (c6 : zL5) (c7 c9 : Int) : Option R :=
  (bif c0 then (xN 3 ([] : zL5) 0) else (bif ((c9 == 5) == false) then (f63_1000008 k (fun p0 p5 p6 => (xN p0 p5 p6)) (c9 == 6) c1 c6 c7) else (f63_1000008 k (fun p0 p5 p6 => (xN p0 p5 p6)) true c1 c6 c7)))
def f63_1000006 := hid (@f63_1000006d R)
theorem f63_1000006_def : @f63_1000006 R = @f63_1000006d R := hid_eq
def f63d (k : Nat) (a0 a1 : Int) (a2 : ByteArray) (a3 : List Int) (a4 : Int) (a5 : zL5) (a6 a7 a8 a9 : Int) (a10 : ByteArray) (a11 a12 a13 : Int) (a14 : List Int) (a15 : zL5) (a16 : Bool) (K : zK4 R) : Option R := match k with
  | 0 => none
  | k + 1 => (bif ((a9 != a1) == false) then (bif ((a0 == 3) == false) then (bif (a0 == 4) then (K a0 a1 a2 a3 a4 a5 a6 a7 0) else (bif (a8 == 4) then (f98 k a0 a1 a2 a3 a4 a5 a6 a7 a15 (fun r0_0 r0_1 r0_2 r0_3 r0_4 r0_5 r0_6 r0_7 r0_8 => (K r0_0 r0_1 r0_2 r0_3 r0_4 r0_5 r0_6 r0_7 r0_8))) else (bif ((a8 == 5) == true) then (f63_1000006 k (fun p0 p5 p6 => (K p0 a1 a2 a3 a4 p5 p6 a7 0)) a16 a0 a5 a6 a8) else (f63_1000006 k (fun p0 p5 p6 => (K p0 a1 a2 a3 a4 p5 p6 a7 0)) false a0 a5 a6 a8)))) else (K a0 a1 a2 a3 a4 a5 a6 a7 0)) else (K a0 a1 a2 a3 a4 a5 a6 a7 0))
def f63 := hid (@f63d R)
theorem f63_def : @f63 R = @f63d R := hid_eq
def f99d (k : Nat) (a0 a1 : Int) (a2 : ByteArray) (a3 : List Int) (a4 : Int) (a5 : zL5) (a6 a7 : Int) (K : Int → Int → ByteArray → Int → Int → Int → Bool → Option R) : Option R := match k with
  | 0 => none
  | k + 1 => (f96 k a3 (fun r0_0 => (K 3 a1 (⟨#[]⟩ : ByteArray) (a3.length : Int) r0_0 0 false)))
def f99 := hid (@f99d R)
theorem f99_def : @f99 R = @f99d R := hid_eq
def f131d (k : Nat) (a0 : zL6) (K : zL6 → Option R) : Option R := match k with
  | 0 => none
  | _ + 1 => bif decide (a0.length ≤ LIM 16) then K a0 else none
def f131 := hid (@f131d R)
theorem f131_def : @f131 R = @f131d R := hid_eq
def f132d (k : Nat) (a0 a1 : Int) (a2 : ByteArray) (a3 : List Int) (a4 : Int) (a5 : zL5) (a6 a7 a8 a9 : Int) (K : zK5 R) : Option R := match k with
  | 0 => none
  | k + 1 => (bif (decide (0 ≤ a8) && (decide (a8 ≤ IntKind.i64.wrap (a8 + a9)) && decide (IntKind.i64.wrap (a8 + a9) ≤ (a3.length : Int)))) then (f43 k ((a3.take (Int.toNat (IntKind.i64.wrap (a8 + a9)))).drop (Int.toNat a8)) (fun r0_0 => (K 2 a1 (⟨#[]⟩ : ByteArray) 0 0 a8 false r0_0))) else none)
def f132 := hid (@f132d R)
theorem f132_def : @f132 R = @f132d R := hid_eq
def f100_1000018d (k : Nat) (xN : zL6 → Option R) (c0 : Bool) (c8 : zL6) : Option R :=
  (bif c0 then (bif decide (1 ≤ (c8.length : Int)) then (xN ((c8.drop 1).take (c8.length - 1))) else none) else (xN c8))
def f100_1000018 := hid (@f100_1000018d R)
theorem f100_1000018_def : @f100_1000018 R = @f100_1000018d R := hid_eq
def f100d (k : Nat) (a0 a1 a2 a3 a4 a5 a6 : Int) (a7 : ByteArray) (a8 : List Int) (a9 : Int) (a10 : zL5) (a11 a12 : Int) (K : zK6 R) : Option R := match k with
  | 0 => none
  | k + 1 => (bif (a9 == (-1)) then (f96 k a8 (fun r0_0 => (K a5 a6 a7 a8 0 a10 a11 a12 1 a6 a7 (a8.length : Int) r0_0 0 false ([] : List Int)))) else (bif (decide ((a10.length : Int) > 0) == true) then (bif decide (0 < (a10.length : Int)) then (f130 k (fun r1_0 r1_1 => (bif ((((a10.getD 0 ((0 : Int), ((0 : Int), ()))).1, (((a10.getD 0 ((0 : Int), ((0 : Int), ()))).2).1, ())).1 == (r1_0, (r1_1, ())).1) && (((((a10.getD 0 ((0 : Int), ((0 : Int), ()))).1, (((a10.getD 0 ((0 : Int), ((0 : Int), ()))).2).1, ())).2).1 == ((r1_0, (r1_1, ())).2).1) && true)) then (bif decide (1 ≤ (a10.length : Int)) then (f131 k (a10.drop 1) (fun r2_0 => (f96 k a8 (fun r3_0 => (K a5 a6 a7 a8 a9 r2_0 a11 a12 1 a6 a7 (a8.length : Int) r3_0 0 false ([] : List Int)))))) else none) else (bif decide ((a10.length : Int) > 0) then (bif decide (0 < (a10.length : Int)) then (f132 k a5 a6 a7 a8 a9 a10 a11 a12 ((a10.getD 0 ((0 : Int), ((0 : Int), ()))).1) (if a0 < IntKind.i64.wrap ((((a10.getD 0 ((0 : Int), ((0 : Int), ()))).2).1) - ((a10.getD 0 ((0 : Int), ((0 : Int), ()))).1)) then a0 else IntKind.i64.wrap ((((a10.getD 0 ((0 : Int), ((0 : Int), ()))).2).1) - ((a10.getD 0 ((0 : Int), ((0 : Int), ()))).1))) (fun r4_0 r4_1 r4_2 r4_3 r4_4 r4_5 r4_6 r4_7 => (f131 k a10 (fun r5_0 => (bif decide (0 < (r5_0.length : Int)) then (bif decide (0 < (r5_0.length : Int)) then (bif decide (0 < ((r5_0.set 0 (IntKind.i64.wrap (((r5_0.getD 0 ((0 : Int), ((0 : Int), ()))).1) + (if a0 < IntKind.i64.wrap ((((a10.getD 0 ((0 : Int), ((0 : Int), ()))).2).1) - ((a10.getD 0 ((0 : Int), ((0 : Int), ()))).1)) then a0 else IntKind.i64.wrap ((((a10.getD 0 ((0 : Int), ((0 : Int), ()))).2).1) - ((a10.getD 0 ((0 : Int), ((0 : Int), ()))).1)))), (((r5_0.getD 0 ((0 : Int), ((0 : Int), ()))).2).1, ()))).length : Int)) then (f100_1000018 k (fun p7 => (K a5 a6 a7 a8 a9 p7 a11 a12 r4_0 r4_1 r4_2 r4_3 r4_4 r4_5 r4_6 r4_7)) (((r5_0.set 0 (IntKind.i64.wrap (((r5_0.getD 0 ((0 : Int), ((0 : Int), ()))).1) + (if a0 < IntKind.i64.wrap ((((a10.getD 0 ((0 : Int), ((0 : Int), ()))).2).1) - ((a10.getD 0 ((0 : Int), ((0 : Int), ()))).1)) then a0 else IntKind.i64.wrap ((((a10.getD 0 ((0 : Int), ((0 : Int), ()))).2).1) - ((a10.getD 0 ((0 : Int), ((0 : Int), ()))).1)))), (((r5_0.getD 0 ((0 : Int), ((0 : Int), ()))).2).1, ()))).getD 0 ((0 : Int), ((0 : Int), ()))).1 == ((a10.getD 0 ((0 : Int), ((0 : Int), ()))).2).1) (r5_0.set 0 (IntKind.i64.wrap (((r5_0.getD 0 ((0 : Int), ((0 : Int), ()))).1) + (if a0 < IntKind.i64.wrap ((((a10.getD 0 ((0 : Int), ((0 : Int), ()))).2).1) - ((a10.getD 0 ((0 : Int), ((0 : Int), ()))).1)) then a0 else IntKind.i64.wrap ((((a10.getD 0 ((0 : Int), ((0 : Int), ()))).2).1) - ((a10.getD 0 ((0 : Int), ((0 : Int), ()))).1)))), (((r5_0.getD 0 ((0 : Int), ((0 : Int), ()))).2).1, ())))) else none) else none) else none))))) else none) else (bif decide (a9 < (a8.length : Int)) then (f132 k a5 a6 a7 a8 a9 a10 a11 a12 a9 (if a0 < IntKind.i64.wrap ((a8.length : Int) - a9) then a0 else IntKind.i64.wrap ((a8.length : Int) - a9)) (fun r6_0 r6_1 r6_2 r6_3 r6_4 r6_5 r6_6 r6_7 => (K a5 a6 a7 a8 (IntKind.i64.wrap (a9 + (if a0 < IntKind.i64.wrap ((a8.length : Int) - a9) then a0 else IntKind.i64.wrap ((a8.length : Int) - a9)))) a10 a11 a12 r6_0 r6_1 r6_2 r6_3 r6_4 r6_5 r6_6 r6_7))) else (f99 k 2 a6 a7 a8 a9 a10 a3 a12 (fun r7_0 r7_1 r7_2 r7_3 r7_4 r7_5 r7_6 => (K 2 a6 a7 a8 a9 a10 a3 a12 r7_0 r7_1 r7_2 r7_3 r7_4 r7_5 r7_6 ([] : List Int))))))))) else none) else (bif decide ((a10.length : Int) > 0) then (bif decide (0 < (a10.length : Int)) then (f132 k a5 a6 a7 a8 a9 a10 a11 a12 ((a10.getD 0 ((0 : Int), ((0 : Int), ()))).1) (if a0 < IntKind.i64.wrap ((((a10.getD 0 ((0 : Int), ((0 : Int), ()))).2).1) - ((a10.getD 0 ((0 : Int), ((0 : Int), ()))).1)) then a0 else IntKind.i64.wrap ((((a10.getD 0 ((0 : Int), ((0 : Int), ()))).2).1) - ((a10.getD 0 ((0 : Int), ((0 : Int), ()))).1))) (fun r4_0 r4_1 r4_2 r4_3 r4_4 r4_5 r4_6 r4_7 => (f131 k a10 (fun r5_0 => (bif decide (0 < (r5_0.length : Int)) then (bif decide (0 < (r5_0.length : Int)) then (bif decide (0 < ((r5_0.set 0 (IntKind.i64.wrap (((r5_0.getD 0 ((0 : Int), ((0 : Int), ()))).1) + (if a0 < IntKind.i64.wrap ((((a10.getD 0 ((0 : Int), ((0 : Int), ()))).2).1) - ((a10.getD 0 ((0 : Int), ((0 : Int), ()))).1)) then a0 else IntKind.i64.wrap ((((a10.getD 0 ((0 : Int), ((0 : Int), ()))).2).1) - ((a10.getD 0 ((0 : Int), ((0 : Int), ()))).1)))), (((r5_0.getD 0 ((0 : Int), ((0 : Int), ()))).2).1, ()))).length : Int)) then (f100_1000018 k (fun p7 => (K a5 a6 a7 a8 a9 p7 a11 a12 r4_0 r4_1 r4_2 r4_3 r4_4 r4_5 r4_6 r4_7)) (((r5_0.set 0 (IntKind.i64.wrap (((r5_0.getD 0 ((0 : Int), ((0 : Int), ()))).1) + (if a0 < IntKind.i64.wrap ((((a10.getD 0 ((0 : Int), ((0 : Int), ()))).2).1) - ((a10.getD 0 ((0 : Int), ((0 : Int), ()))).1)) then a0 else IntKind.i64.wrap ((((a10.getD 0 ((0 : Int), ((0 : Int), ()))).2).1) - ((a10.getD 0 ((0 : Int), ((0 : Int), ()))).1)))), (((r5_0.getD 0 ((0 : Int), ((0 : Int), ()))).2).1, ()))).getD 0 ((0 : Int), ((0 : Int), ()))).1 == ((a10.getD 0 ((0 : Int), ((0 : Int), ()))).2).1) (r5_0.set 0 (IntKind.i64.wrap (((r5_0.getD 0 ((0 : Int), ((0 : Int), ()))).1) + (if a0 < IntKind.i64.wrap ((((a10.getD 0 ((0 : Int), ((0 : Int), ()))).2).1) - ((a10.getD 0 ((0 : Int), ((0 : Int), ()))).1)) then a0 else IntKind.i64.wrap ((((a10.getD 0 ((0 : Int), ((0 : Int), ()))).2).1) - ((a10.getD 0 ((0 : Int), ((0 : Int), ()))).1)))), (((r5_0.getD 0 ((0 : Int), ((0 : Int), ()))).2).1, ())))) else none) else none) else none))))) else none) else (bif decide (a9 < (a8.length : Int)) then (f132 k a5 a6 a7 a8 a9 a10 a11 a12 a9 (if a0 < IntKind.i64.wrap ((a8.length : Int) - a9) then a0 else IntKind.i64.wrap ((a8.length : Int) - a9)) (fun r6_0 r6_1 r6_2 r6_3 r6_4 r6_5 r6_6 r6_7 => (K a5 a6 a7 a8 (IntKind.i64.wrap (a9 + (if a0 < IntKind.i64.wrap ((a8.length : Int) - a9) then a0 else IntKind.i64.wrap ((a8.length : Int) - a9)))) a10 a11 a12 r6_0 r6_1 r6_2 r6_3 r6_4 r6_5 r6_6 r6_7))) else (f99 k 2 a6 a7 a8 a9 a10 a3 a12 (fun r7_0 r7_1 r7_2 r7_3 r7_4 r7_5 r7_6 => (K 2 a6 a7 a8 a9 a10 a3 a12 r7_0 r7_1 r7_2 r7_3 r7_4 r7_5 r7_6 ([] : List Int))))))))
def f100 := hid (@f100d R)
theorem f100_def : @f100 R = @f100d R := hid_eq
def f64_0b (k : Nat) (rec x0 : zK7 R) (c0 c1 c2 c3 c4 c13 c14 : Int) (c15 : ByteArray) (c16 c17 c18 c5 c6 : Int) (c7 : ByteArray) (c8 : List Int) (c9 : Int) (c10 : zL5) (c11 c12 : Int) (c19 : zL3) : Option R :=
  (bif (decide ((c19.length : Int) < c2) == true) then (bif (c5 == 1) then (f100 k c0 c1 c2 c3 c4 c5 c6 c7 c8 c9 c10 c11 c12 (fun r0_0 r0_1 r0_2 r0_3 r0_4 r0_5 r0_6 r0_7 r0_8 r0_9 r0_10 r0_11 r0_12 r0_13 r0_14 r0_15 => (bif decide (c19.length + ([(r0_8, (r0_9, (r0_10, (r0_11, (r0_12, (r0_13, (r0_15, (([] : zL5), (r0_14, ())))))))))] : zL3).length ≤ LIM 112) then (rec r0_0 r0_1 r0_2 r0_3 r0_4 r0_5 r0_6 r0_7 (c19 ++ ([(r0_8, (r0_9, (r0_10, (r0_11, (r0_12, (r0_13, (r0_15, (([] : zL5), (r0_14, ())))))))))] : zL3))) else none))) else (x0 c5 c6 c7 c8 c9 c10 c11 c12 c19)) else (x0 c5 c6 c7 c8 c9 c10 c11 c12 c19))
def f64_0d (k : Nat) (x0 : zK7 R) (c0 c1 c2 c3 c4 c13 c14 : Int) (c15 : ByteArray) (c16 c17 c18 : Int) : Nat → Int → Int → ByteArray → List Int → Int → zL5 → Int → Int → zL3 → Option R
  | 0, _, _, _, _, _, _, _, _, _ => none
  | m + 1, c5, c6, c7, c8, c9, c10, c11, c12, c19 => f64_0b k (f64_0d k x0 c0 c1 c2 c3 c4 c13 c14 c15 c16 c17 c18 m) x0 c0 c1 c2 c3 c4 c13 c14 c15 c16 c17 c18 c5 c6 c7 c8 c9 c10 c11 c12 c19
def f64_0 := hid (@f64_0d R)
theorem f64_0_def : @f64_0 R = @f64_0d R := hid_eq
def f64d (k : Nat) (a0 a1 a2 a3 a4 a5 a6 : Int) (a7 : ByteArray) (a8 : List Int) (a9 : Int) (a10 : zL5) (a11 a12 : Int) (K : zK7 R) : Option R := match k with
  | 0 => none
  | k + 1 => (bif (a5 == 2) then (bif decide (IntKind.i64.wrap (a11 - 1) > 0) then (K a5 a6 a7 a8 a9 a10 (IntKind.i64.wrap (a11 - 1)) a12 ([] : zL2)) else (bif decide (a12 ≥ a4) then (K 4 a6 a7 a8 a9 a10 (IntKind.i64.wrap (a11 - 1)) a12 ([((6 : Int), (a6, ((⟨#[]⟩ : ByteArray), ((0 : Int), ((0 : Int), ((0 : Int), (([] : List Int), (([] : zL5), (false, ())))))))))] : zL3)) else (f99 k a5 a6 a7 a8 a9 a10 a3 (IntKind.i64.wrap (a12 + 1)) (fun r0_0 r0_1 r0_2 r0_3 r0_4 r0_5 r0_6 => (K a5 a6 a7 a8 a9 a10 a3 (IntKind.i64.wrap (a12 + 1)) ([(r0_0, (r0_1, (r0_2, (r0_3, (r0_4, (r0_5, (([] : List Int), (([] : zL5), (r0_6, ())))))))))] : zL3)))))) else (f64_0 k (fun p0 p1 p2 p3 p4 p5 p6 p7 p14 => (K p0 p1 p2 p3 p4 p5 p6 p7 p14)) a0 a1 a2 a3 a4 0 0 (⟨#[]⟩ : ByteArray) 0 0 0 k a5 a6 a7 a8 a9 a10 a11 a12 ([] : zL2)))
def f64 := hid (@f64d R)
theorem f64_def : @f64 R = @f64d R := hid_eq
def f62v1_1000004d (k : Nat) (xN : zL1 → Option R) (c0 : Int) (c4 : Bool) (c32 : zL1) (c34 c35 : Int) (c36 : ByteArray) (c37 c38 c39 : Int) (c40 : List Int) (c41 : zL5) (c42 : Bool) : Option R :=
  (bif c4 then (bif decide (c32.length + ([(c0, ((c34, (c35, (c36, (c37, (c38, (c39, (c40, (c41, (c42, ()))))))))), ()))] : zL1).length ≤ LIM 120) then (xN (c32 ++ ([(c0, ((c34, (c35, (c36, (c37, (c38, (c39, (c40, (c41, (c42, ()))))))))), ()))] : zL1))) else none) else (xN c32))
def f62v1_1000004 := hid (@f62v1_1000004d R)
theorem f62v1_1000004_def : @f62v1_1000004 R = @f62v1_1000004d R := hid_eq
def f62v1_0b (k : Nat) (rec : Int → Int → zL1 → Option R) (x0 : Int → zL1 → Option R) (c0 : Int) (c1 : zL2) (c2 c4 c5 c6 c7 c8 c9 c10 : Int) (c11 : ByteArray) (c12 : List Int) (c13 : Int) (c14 : zL5) (c15 c16 c17 c18 : Int) (c19 : ByteArray) (c20 : List Int) (c21 : zL5) (c22 c23 c24 c25 : Int) (c26 c28 : List Bool) (c29 c30 : Int) (c32 : zL1) (c3 c27 : Int) (c31 : zL1) : Option R :=
  (bif decide (c3 < c2) then (bif (decide (0 ≤ c3) && decide (c3 < (c1.length : Int))) then (bif (decide (c27 ≥ (c26.length : Int)) == false) then (bif (decide (0 ≤ c27) && decide (c27 < (c26.length : Int))) then (f62v1_1000004 k (fun p31 => (rec (IntKind.i64.wrap (c3 + 1)) (IntKind.i64.wrap (c27 + 1)) p31)) c0 (!(c26.getD (Int.toNat c27) false)) c31 ((c1.getD (Int.toNat c3) zD0).1) (((c1.getD (Int.toNat c3) zD0).2).1) ((((c1.getD (Int.toNat c3) zD0).2).2).1) (((((c1.getD (Int.toNat c3) zD0).2).2).2).1) ((((((c1.getD (Int.toNat c3) zD0).2).2).2).2).1) (((((((c1.getD (Int.toNat c3) zD0).2).2).2).2).2).1) ((((((((c1.getD (Int.toNat c3) zD0).2).2).2).2).2).2).1) (((((((((c1.getD (Int.toNat c3) zD0).2).2).2).2).2).2).2).1) ((((((((((c1.getD (Int.toNat c3) zD0).2).2).2).2).2).2).2).2).1)) else none) else (f62v1_1000004 k (fun p31 => (rec (IntKind.i64.wrap (c3 + 1)) (IntKind.i64.wrap (c27 + 1)) p31)) c0 true c31 ((c1.getD (Int.toNat c3) zD0).1) (((c1.getD (Int.toNat c3) zD0).2).1) ((((c1.getD (Int.toNat c3) zD0).2).2).1) (((((c1.getD (Int.toNat c3) zD0).2).2).2).1) ((((((c1.getD (Int.toNat c3) zD0).2).2).2).2).1) (((((((c1.getD (Int.toNat c3) zD0).2).2).2).2).2).1) ((((((((c1.getD (Int.toNat c3) zD0).2).2).2).2).2).2).1) (((((((((c1.getD (Int.toNat c3) zD0).2).2).2).2).2).2).2).1) ((((((((((c1.getD (Int.toNat c3) zD0).2).2).2).2).2).2).2).2).1))) else none) else (x0 c27 c31))
def f62v1_0d (k : Nat) (x0 : Int → zL1 → Option R) (c0 : Int) (c1 : zL2) (c2 c4 c5 c6 c7 c8 c9 c10 : Int) (c11 : ByteArray) (c12 : List Int) (c13 : Int) (c14 : zL5) (c15 c16 c17 c18 : Int) (c19 : ByteArray) (c20 : List Int) (c21 : zL5) (c22 c23 c24 c25 : Int) (c26 c28 : List Bool) (c29 c30 : Int) (c32 : zL1) : Nat → Int → Int → zL1 → Option R
  | 0, _, _, _ => none
  | m + 1, c3, c27, c31 => f62v1_0b k (f62v1_0d k x0 c0 c1 c2 c4 c5 c6 c7 c8 c9 c10 c11 c12 c13 c14 c15 c16 c17 c18 c19 c20 c21 c22 c23 c24 c25 c26 c28 c29 c30 c32 m) x0 c0 c1 c2 c4 c5 c6 c7 c8 c9 c10 c11 c12 c13 c14 c15 c16 c17 c18 c19 c20 c21 c22 c23 c24 c25 c26 c28 c29 c30 c32 c3 c27 c31
def f62v1_0 := hid (@f62v1_0d R)
theorem f62v1_0_def : @f62v1_0 R = @f62v1_0d R := hid_eq
def f62v1d (k : Nat) (a0 : Int) (a1 : zL2) (a2 a3 a4 a5 a6 a7 a8 : Int) (a9 : ByteArray) (a10 : List Int) (a11 : Int) (a12 : zL5) (a13 a14 a15 a16 : Int) (a17 : ByteArray) (a18 : List Int) (a19 : zL5) (a20 a21 a22 a23 : Int) (a24 : List Bool) (a25 : Int) (a26 : List Bool) (a27 a28 : Int) (a29 a30 : zL1) (K : zK3 R) : Option R := match k with
  | 0 => none
  | k + 1 => (f62v1_0 k (fun p23 p27 => (K a2 a3 a4 a5 a6 a7 a8 a9 a10 a11 a12 a13 a14 a15 a16 a17 a18 a19 a20 a21 a22 a23 a24 p23 a26 a27 a28 p27 a30)) a0 a1 (a1.length : Int) a2 a3 a4 a5 a6 a7 a8 a9 a10 a11 a12 a13 a14 a15 a16 a17 a18 a19 a20 a21 a22 a23 a24 a26 a27 a28 a30 k 0 a25 a29)
def f62v1 := hid (@f62v1d R)
theorem f62v1_def : @f62v1 R = @f62v1d R := hid_eq
def f65d (k : Nat) (a0 a1 a2 a3 a4 a5 a6 : Int) (a7 : ByteArray) (a8 : List Int) (a9 : zL5) (a10 a11 a12 a13 : Int) (K : zK2 R) : Option R := match k with
  | 0 => none
  | k + 1 => (bif (a5 != 2) then (K a5 a6 a7 a8 a9 a10 a11 a12 a13 0 ([] : zL2)) else (bif decide (IntKind.i64.wrap (a12 - 1) > 0) then (K a5 a6 a7 a8 a9 a10 a11 (IntKind.i64.wrap (a12 - 1)) a13 0 ([] : zL2)) else (bif decide (a13 ≥ a4) then (K 4 a6 a7 a8 a9 a10 a11 (IntKind.i64.wrap (a12 - 1)) a13 0 ([((6 : Int), (a6, ((⟨#[]⟩ : ByteArray), ((0 : Int), ((0 : Int), ((0 : Int), (([] : List Int), (([] : zL5), (false, ())))))))))] : zL3)) else (f97 k a5 a6 a7 a8 a9 a10 a11 (IntKind.i64.wrap (a12 - 1)) a13 (fun r0_0 r0_1 => (bif (r0_1 != 0) then (K 0 0 (⟨#[]⟩ : ByteArray) ([] : List Int) ([] : zL5) 0 0 0 0 r0_1 ([] : zL2)) else (K a5 a6 a7 a8 a9 a10 a11 a3 (IntKind.i64.wrap (a13 + 1)) 0 ([((4 : Int), (a6, ((⟨#[]⟩ : ByteArray), ((0 : Int), ((0 : Int), ((0 : Int), (([] : List Int), (r0_0, (false, ())))))))))] : zL3))))))))
def f65 := hid (@f65d R)
theorem f65_def : @f65 R = @f65d R := hid_eq
end
end Go.Proofs.YtoepnomdklhhlaaGreat.PM
