/- Functions of the program in typed form (printed by a program of this work). -/
import Derived.Test.YtlcklflbhhnnhaaPmE
import Derived.Test.YtlcklflbhhnnhaaSrtD
import Derived.Test.YtlcklflbhhnnhaaRpD
set_option linter.unusedVariables false
set_option linter.unusedSimpArgs false
set_option maxRecDepth 100000
namespace Go.Proofs.Ytlcklflbhhnnhaa.PM
open Go
noncomputable section
variable {R : Type}
abbrev zL1 := List (Int × ((Int × (Int × (ByteArray × (Int × (Int × (Int × (List Int × (List ((Int × (Int × Unit))) × (Bool × Unit))))))))) × Unit))
abbrev zL2 := List ((Int × (Int × (ByteArray × (Int × (Int × (Int × (List Int × (List ((Int × (Int × Unit))) × (Bool × Unit))))))))))
abbrev zL3 := List (Int × (Int × (ByteArray × (Int × (Int × (Int × (List Int × (List ((Int × (Int × Unit))) × (Bool × Unit)))))))))
abbrev zL5 := List ((Int × (Int × Unit)))
abbrev zL6 := List (Int × (Int × Unit))
abbrev zP1 : Ty := .prod (.int .i64) (.prod (.int .i64) .unit)
abbrev zT1 : Ty := .slice zP1
abbrev zT2 : Ty := .slice (.int .u8)
abbrev zT3 : Ty := .slice .bool
abbrev zD0 : (Int × (Int × (ByteArray × (Int × (Int × (Int × (List Int × (zL5 × (Bool × Unit))))))))) := ((0 : Int), ((0 : Int), ((⟨#[]⟩ : ByteArray), ((0 : Int), ((0 : Int), ((0 : Int), (([] : List Int), (([] : zL5), (false, ())))))))))
abbrev zi (x : Int) : PV := .val [] (.int .i64) x
abbrev zP0 : Ty := .prod (.int .i64) (.prod (.int .i64) (.prod .str (.prod (.int .i64) (.prod (.int .i64) (.prod (.int .i64) (.prod zT2 (.prod zT1 (.prod .bool .unit))))))))
abbrev zP2 : Ty := .prod (.int .i64) (.prod zP0 .unit)
theorem hidx {α : Sort _} (x : α) : ∃ y, y = x := ⟨x, rfl⟩
def hid {α : Sort _} (x : α) : α := Classical.choose (hidx x)
theorem Q2 {α : Sort _} {x : α} : hid x = x := Classical.choose_spec (hidx x)
abbrev zK0 (R : Type) := Int → Int → ByteArray → Int → Int → Int → Int → List Int → Option R
abbrev zK1 (R : Type) := Int → Int → Int → Int → Int → Int → Int → ByteArray → List Int → Int → zL5 → Int → Int → Int → Int → ByteArray → List Int → zL5 → Int → Int → Int → Int → List Bool → Int → List Bool → Int → Int → zL1 → zL1 → zL3 → Option R
abbrev zK10 (R : Type) := Int → Int → ByteArray → List Int → Int → zL5 → Int → Int → zL3 → Option R
abbrev zK11 (R : Type) := Int → Int → Int → Int → Int → Int → Int → Int → ByteArray → List Int → Int → zL5 → Int → Int → Int → Int → ByteArray → List Int → zL5 → Int → Int → Int → Int → List Bool → Int → List Bool → Int → Int → zL1 → zL1 → Option R
abbrev zK12 (R : Type) := Int → Int → Int → ByteArray → List Int → Int → zL5 → Int → Int → Option R
abbrev zK13 (R : Type) := Int → Int → ByteArray → List Int → Int → zL5 → Int → Int → Option R
abbrev zK14 (R : Type) := Int → Int → ByteArray → List Int → Int → zL5 → Int → Int → Int → Int → ByteArray → List Int → zL5 → Int → Int → Int → Int → Int → List Int → Option R
abbrev zK15 (R : Type) := Bool → Int → Int → Int → Int → Int → Int → Int → ByteArray → List Int → Int → zL5 → Int → Int → Int → Int → ByteArray → List Int → zL5 → Int → Int → Int → Int → List Bool → Int → List Bool → Int → zL1 → zL1 → Option R
abbrev zK16 (R : Type) := Int → Int → Int → Int → Int → Int → Int → ByteArray → List Int → Int → zL5 → Int → Int → Int → Int → ByteArray → List Int → zL5 → Int → Int → Int → Int → List Bool → Int → Nat → Nat → List Bool → Int → zL1 → zL1 → zL3 → Option R
abbrev zK17 (R : Type) := Int → Int → Int → Int → Int → Int → Int → ByteArray → List Int → Int → zL5 → Int → Int → Int → Int → ByteArray → List Int → zL5 → Int → Int → Int → Int → List Bool → Int → Nat → Nat → List Bool → Int → Nat → Nat → zL1 → zL1 → zL3 → Option R
abbrev zK18 (R : Type) := Int → Int → ByteArray → Int → Int → Int → Int → List Int → zL6 → Option R
abbrev zK19 (R : Type) := Int → Int → Int → Int → Int → Int → Int → ByteArray → List Int → Int → zL5 → Int → Int → Int → Int → ByteArray → List Int → zL5 → Int → Int → Int → Int → List Bool → Int → List Bool → Int → zL1 → zL1 → Option R
abbrev zK2 (R : Type) := Int → Int → ByteArray → List Int → zL5 → Int → Int → Int → Int → Int → zL3 → Option R
abbrev zK20 (R : Type) := Int → Int → ByteArray → Int → Int → Int → Bool → Int → Int → ByteArray → List Int → Int → zL5 → Int → Int → List Int → Option R
abbrev zK21 (R : Type) := Int → Int → Int → Int → Int → Int → Int → Int → ByteArray → List Int → Int → zL5 → Int → Int → Int → Int → ByteArray → List Int → zL5 → Int → Int → Int → Int → List Bool → Int → List Bool → Int → zL1 → zL1 → Option R
abbrev zK22 (R : Type) := Int → Int → Int → Option R
abbrev zK3 (R : Type) := Int → Int → zL1 → Option R
abbrev zK4 (R : Type) := Int → Int → Int → Int → Int → Int → Int → ByteArray → List Int → Int → zL5 → Int → Int → Int → Int → ByteArray → List Int → zL5 → Int → Int → Int → Int → List Bool → Int → List Bool → Int → Int → zL1 → zL1 → Option R
abbrev zK5 (R : Type) := Int → Int → ByteArray → List Int → Int → zL5 → Int → Int → Int → Option R
abbrev zK6 (R : Type) := Int → zL5 → Int → Option R
abbrev zK7 (R : Type) := Int → Int → ByteArray → Int → Int → Int → Bool → Option R
abbrev zK8 (R : Type) := Int → Int → ByteArray → Int → Int → Int → Bool → List Int → Option R
abbrev zK9 (R : Type) := Int → Int → ByteArray → List Int → Int → zL5 → Int → Int → Int → Int → ByteArray → Int → Int → Int → Bool → List Int → Option R
def f66d (k : Nat) (a0 a1 a2 : Int) (K : Bool → Option R) : Option R := match k with
 | 0 => none
 | k + 1 => (bif (decide (a1 ≤ a0) == true) then (K (decide (a0 ≤ a2))) else (K false))
def f66 := hid (@f66d R)
theorem Qzn : @f66 R = @f66d R := Q2
def f22d (k : Nat) (a0 a1 a2 a3 a4 : Int) (K : Int → Option R) : Option R := match k with
 | 0 => none
 | k + 1 => (f66 k a0 1 4096 (fun r0_0 => (bif ((!r0_0) == false) then (f66 k a1 1 1000000 (fun r1_0 => (bif ((!r1_0) == false) then (f66 k a2 1 100 (fun r2_0 => (bif ((!r2_0) == false) then (f66 k a3 1 1000000 (fun r3_0 => (bif ((!r3_0) == false) then (f66 k a4 0 50 (fun r4_0 => (bif (!r4_0) then (K 1) else (K 0)))) else (K 1)))) else (K 1)))) else (K 1)))) else (K 1))))
def f22 := hid (@f22d R)
theorem Qz0 : @f22 R = @f22d R := Q2
def Qzo (k : Nat) (rec : Int → Option R) (K : Bool → Option R) (x0 : Option R) (c0 : ByteArray) (c1 c2 : Int) : Option R :=
 (bif decide (c2 < c1) then (bif (decide (0 ≤ c2) && decide (c2 < (c0.size : Int))) then (bif (decide (((bytesOf c0).getD (Int.toNat c2) 0) < 97) == false) then (bif (decide (((bytesOf c0).getD (Int.toNat c2) 0) > 122) == true) then (bif ((c2 == 0) == false) then (bif ((((bytesOf c0).getD (Int.toNat c2) 0) != 45) == true) then (bif ((((bytesOf c0).getD (Int.toNat c2) 0) != 95) == true) then (bif (decide (((bytesOf c0).getD (Int.toNat c2) 0) < 48) == false) then (bif decide (((bytesOf c0).getD (Int.toNat c2) 0) > 57) then (K false) else (rec (IntKind.i64.wrap (c2 + 1)))) else (K false)) else (rec (IntKind.i64.wrap (c2 + 1)))) else (rec (IntKind.i64.wrap (c2 + 1)))) else (K false)) else (rec (IntKind.i64.wrap (c2 + 1)))) else (bif ((c2 == 0) == false) then (bif ((((bytesOf c0).getD (Int.toNat c2) 0) != 45) == true) then (bif ((((bytesOf c0).getD (Int.toNat c2) 0) != 95) == true) then (bif (decide (((bytesOf c0).getD (Int.toNat c2) 0) < 48) == false) then (bif decide (((bytesOf c0).getD (Int.toNat c2) 0) > 57) then (K false) else (rec (IntKind.i64.wrap (c2 + 1)))) else (K false)) else (rec (IntKind.i64.wrap (c2 + 1)))) else (rec (IntKind.i64.wrap (c2 + 1)))) else (K false))) else none) else x0)
def Q8d (k : Nat) (K : Bool → Option R) (x0 : Option R) (c0 : ByteArray) (c1 : Int) : Nat → Int → Option R
 | 0, _ => none
 | m + 1, c2 => Qzo k (Q8d k K x0 c0 c1 m) K x0 c0 c1 c2
def f68_0 := hid (@Q8d R)
theorem Qj6 : @f68_0 R = @Q8d R := Q2
def f68d (k : Nat) (a0 : ByteArray) (K : Bool → Option R) : Option R := match k with
 | 0 => none
 | k + 1 => (bif ((a0.toList == (⟨#[]⟩ : ByteArray).toList) == false) then (bif decide ((a0.size : Int) > 40) then (K false) else (f68_0 k K (K true) a0 (a0.size : Int) k 0)) else (K false))
def f68 := hid (@f68d R)
theorem Qzp : @f68 R = @f68d R := Q2
def f76d (k : Nat) (a0 : Int) (a1 : ByteArray) (a2 : List Int) (K : Int → Option R) : Option R := match k with
 | 0 => none
 | k + 1 => (f66 k a0 0 65535 (fun r0_0 => (bif (!r0_0) then (K 1) else (f68 k a1 (fun r1_0 => (bif (!r1_0) then (K 5) else (bif decide ((a2.length : Int) > 100000) then (K 2) else (K 0))))))))
def f76 := hid (@f76d R)
theorem Qzy : @f76 R = @f76d R := Q2
def f77d (k : Nat) (a0 : List Int) (K : List Int → Option R) : Option R := match k with
 | 0 => none
 | _ + 1 => bif decide (a0.length ≤ LIM 1) then K a0 else none
def f77 := hid (@f77d R)
theorem Qzz : @f77 R = @f77d R := Q2
def f25d (k : Nat) (a0 : Int) (a1 : ByteArray) (a2 : List Int) (K : zK0 R) : Option R := match k with
 | 0 => none
 | k + 1 => (f76 k a0 a1 a2 (fun r0_0 => (bif (r0_0 != 0) then (K 0 0 (⟨#[]⟩ : ByteArray) 0 0 0 r0_0 ([] : List Int)) else (f77 k a2 (fun r1_0 => (K 1 a0 a1 (-1) 0 0 0 r1_0))))))
def f25 := hid (@f25d R)
theorem Qz3 : @f25 R = @f25d R := Q2
def f53d (k : Nat) (a0 : Int) (K : Int → Int → ByteArray → Int → Int → Int → Int → Int → Option R) : Option R := match k with
 | 0 => none
 | k + 1 => (f66 k a0 0 65535 (fun r0_0 => (bif (!r0_0) then (K 0 0 (⟨#[]⟩ : ByteArray) 0 0 0 0 1) else (K 0 a0 (⟨#[]⟩ : ByteArray) (-1) 0 0 0 0))))
def f53 := hid (@f53d R)
theorem Qza : @f53 R = @f53d R := Q2
def Qfg (k : Nat) (rec x0 : zL1 → zL3 → Option R) (c0 c1 c2 c3 c4 c5 c6 c7 : Int) (c8 : ByteArray) (c9 : List Int) (c10 : Int) (c11 : zL5) (c12 c13 c14 c15 : Int) (c16 : ByteArray) (c17 : List Int) (c18 : zL5) (c19 c20 c21 c22 : Int) (c23 : List Bool) (c24 : Int) (c25 : List Bool) (c26 c27 : Int) (c29 c28 : zL1) (c30 : zL3) : Option R :=
 (bif (decide ((c28.length : Int) > 0) == true) then (bif decide (0 < (c28.length : Int)) then (bif decide ((c28.getD 0 ((0 : Int), (zD0, ()))).1 ≤ c0) then (bif decide (0 < (c28.length : Int)) then (bif decide (c30.length + ([((((c28.getD 0 ((0 : Int), (zD0, ()))).2).1).1, (((((c28.getD 0 ((0 : Int), (zD0, ()))).2).1).2).1, ((((((c28.getD 0 ((0 : Int), (zD0, ()))).2).1).2).2).1, (((((((c28.getD 0 ((0 : Int), (zD0, ()))).2).1).2).2).2).1, ((((((((c28.getD 0 ((0 : Int), (zD0, ()))).2).1).2).2).2).2).1, (((((((((c28.getD 0 ((0 : Int), (zD0, ()))).2).1).2).2).2).2).2).1, ((((((((((c28.getD 0 ((0 : Int), (zD0, ()))).2).1).2).2).2).2).2).2).1, (((((((((((c28.getD 0 ((0 : Int), (zD0, ()))).2).1).2).2).2).2).2).2).2).1, ((((((((((((c28.getD 0 ((0 : Int), (zD0, ()))).2).1).2).2).2).2).2).2).2).2).1, ())))))))))] : zL3).length ≤ LIM 112) then (bif decide (1 ≤ (c28.length : Int)) then (rec ((c28.drop 1).take (c28.length - 1)) (c30 ++ ([((((c28.getD 0 ((0 : Int), (zD0, ()))).2).1).1, (((((c28.getD 0 ((0 : Int), (zD0, ()))).2).1).2).1, ((((((c28.getD 0 ((0 : Int), (zD0, ()))).2).1).2).2).1, (((((((c28.getD 0 ((0 : Int), (zD0, ()))).2).1).2).2).2).1, ((((((((c28.getD 0 ((0 : Int), (zD0, ()))).2).1).2).2).2).2).1, (((((((((c28.getD 0 ((0 : Int), (zD0, ()))).2).1).2).2).2).2).2).1, ((((((((((c28.getD 0 ((0 : Int), (zD0, ()))).2).1).2).2).2).2).2).2).1, (((((((((((c28.getD 0 ((0 : Int), (zD0, ()))).2).1).2).2).2).2).2).2).2).1, ((((((((((((c28.getD 0 ((0 : Int), (zD0, ()))).2).1).2).2).2).2).2).2).2).2).1, ())))))))))] : zL3))) else none) else none) else none) else (x0 c28 c30)) else none) else (x0 c28 c30))
def Q3f (k : Nat) (x0 : zL1 → zL3 → Option R) (c0 c1 c2 c3 c4 c5 c6 c7 : Int) (c8 : ByteArray) (c9 : List Int) (c10 : Int) (c11 : zL5) (c12 c13 c14 c15 : Int) (c16 : ByteArray) (c17 : List Int) (c18 : zL5) (c19 c20 c21 c22 : Int) (c23 : List Bool) (c24 : Int) (c25 : List Bool) (c26 c27 : Int) (c29 : zL1) : Nat → zL1 → zL3 → Option R
 | 0, _, _ => none
 | m + 1, c28, c30 => Qfg k (Q3f k x0 c0 c1 c2 c3 c4 c5 c6 c7 c8 c9 c10 c11 c12 c13 c14 c15 c16 c17 c18 c19 c20 c21 c22 c23 c24 c25 c26 c27 c29 m) x0 c0 c1 c2 c3 c4 c5 c6 c7 c8 c9 c10 c11 c12 c13 c14 c15 c16 c17 c18 c19 c20 c21 c22 c23 c24 c25 c26 c27 c29 c28 c30
def Qyi := hid (@Q3f R)
theorem Qdb : @Qyi R = @Q3f R := Q2
def f123d (k : Nat) (a0 a1 a2 a3 a4 a5 a6 a7 : Int) (a8 : ByteArray) (a9 : List Int) (a10 : Int) (a11 : zL5) (a12 a13 a14 a15 : Int) (a16 : ByteArray) (a17 : List Int) (a18 : zL5) (a19 a20 a21 a22 : Int) (a23 : List Bool) (a24 : Int) (a25 : List Bool) (a26 a27 : Int) (a28 a29 : zL1) (K : zK1 R) : Option R := match k with
 | 0 => none
 | k + 1 => (Qyi k (fun p27 p29 => (K a1 a2 a3 a4 a5 a6 a7 a8 a9 a10 a11 a12 a13 a14 a15 a16 a17 a18 a19 a20 a21 a22 a23 a24 a25 a26 a27 p27 a29 p29)) a0 a1 a2 a3 a4 a5 a6 a7 a8 a9 a10 a11 a12 a13 a14 a15 a16 a17 a18 a19 a20 a21 a22 a23 a24 a25 a26 a27 a29 k a28 ([] : zL2))
def f123 := hid (@f123d R)
theorem Qr0 : @f123 R = @f123d R := Q2
def f119d (k : Nat) (a0 a1 : Int) (a2 : ByteArray) (a3 : List Int) (a4 : zL5) (a5 a6 a7 a8 a9 a10 : Int) (a11 : ByteArray) (a12 a13 a14 : Int) (a15 : List Int) (a16 : zL5) (a17 : Bool) (K : Bool → Option R) : Option R := match k with
 | 0 => none
 | k + 1 => (bif (a9 == 2) then (bif (decide (a5 ≥ 0) == true) then (K (decide (IntKind.i64.wrap (a14 + (a15.length : Int)) > a5))) else (K false)) else (bif (decide (a5 ≥ 0) == true) then (bif ((a12 != a5) == false) then (bif ((a13 != a6) == false) then (bif ((a9 == 1) == true) then (bif ((!(a2.toList == (⟨#[]⟩ : ByteArray).toList)) == true) then (bif ((!(a11.toList == a2.toList)) == false) then (K (decide (a12 < (a3.length : Int)))) else (K true)) else (K (decide (a12 < (a3.length : Int))))) else (K (decide (a12 < (a3.length : Int))))) else (K true)) else (K true)) else (bif ((a9 == 1) == true) then (bif ((!(a2.toList == (⟨#[]⟩ : ByteArray).toList)) == true) then (bif ((!(a11.toList == a2.toList)) == false) then (K (decide (a12 < (a3.length : Int)))) else (K true)) else (K (decide (a12 < (a3.length : Int))))) else (K (decide (a12 < (a3.length : Int)))))))
def f119 := hid (@f119d R)
theorem Qqw : @f119 R = @f119d R := Q2
def f135d (k : Nat) (a0 : List Int) (a1 : Int) (K : List Int → Option R) : Option R := match k with
 | 0 => none
 | _ + 1 => bif repOk a0 a1 then K (repL a0 a1) else none
def f135 := hid (@f135d R)
theorem Qra : @f135 R = @f135d R := Q2
def Qft (k : Nat) (xN : zL6 → Option R) (c1 : Int) (c5 : Bool) (c6 : zL6) (c7 : Int) : Option R :=
 (bif c5 then (bif decide (c6.length + ([(c1, (c7, ()))] : zL6).length ≤ LIM 16) then (xN (c6 ++ ([(c1, (c7, ()))] : zL6))) else none) else (xN c6))
def Qmx := hid (@Qft R)
theorem Qa9 : @Qmx R = @Qft R := Q2
def Q10a (k : Nat) (rec : Int → Int → zL6 → Option R) (x0 : Int → zL6 → Option R) (c0 : Int) (c2 : zL5) (c3 c1 c4 : Int) (c5 : zL6) : Option R :=
 (bif decide (c4 < c3) then (bif (decide (0 ≤ c4) && decide (c4 < (c2.length : Int))) then (Qmx k (fun p4 => (rec (((c2.getD (Int.toNat c4) ((0 : Int), ((0 : Int), ()))).2).1) (IntKind.i64.wrap (c4 + 1)) p4)) c1 (decide ((c2.getD (Int.toNat c4) ((0 : Int), ((0 : Int), ()))).1 > c1)) c5 ((c2.getD (Int.toNat c4) ((0 : Int), ((0 : Int), ()))).1)) else none) else (x0 c1 c5))
def Q8i (k : Nat) (x0 : Int → zL6 → Option R) (c0 : Int) (c2 : zL5) (c3 : Int) : Nat → Int → Int → zL6 → Option R
 | 0, _, _, _ => none
 | m + 1, c1, c4, c5 => Q10a k (Q8i k x0 c0 c2 c3 m) x0 c0 c2 c3 c1 c4 c5
def f87_0 := hid (@Q8i R)
theorem Qjc : @f87_0 R = @Q8i R := Q2
def Qfu (k : Nat) (xN : zL6 → Option R) (c0 c1 : Int) (c2 : Bool) (c3 : zL6) : Option R :=
 (bif c2 then (bif decide (c3.length + ([(c1, (c0, ()))] : zL6).length ≤ LIM 16) then (xN (c3 ++ ([(c1, (c0, ()))] : zL6))) else none) else (xN c3))
def Qmy := hid (@Qfu R)
theorem Qaa : @Qmy R = @Qfu R := Q2
def f87d (k : Nat) (a0 : zL5) (a1 : Int) (K : zL6 → Option R) : Option R := match k with
 | 0 => none
 | k + 1 => (f87_0 k (fun y0_0_1 y0_0_2 => (Qmy k (fun y11_N_0 => (K y11_N_0)) a1 y0_0_1 (decide (y0_0_1 < a1)) y0_0_2)) a1 a0 (a0.length : Int) k 0 0 ([] : zL5))
def f87 := hid (@f87d R)
theorem Q10b : @f87 R = @f87d R := Q2
def Qa3 (k : Nat) (xN : Option R) (c1 : Bool) : Option R :=
 (bif c1 then none else xN)
def Qfm := hid (@Qa3 R)
theorem Q85 : @Qfm R = @Qa3 R := Q2
def Qa4 (k : Nat) (xN : zL6 → Option R) (c0 : Int) (c1 : Bool) : Option R :=
 (bif c1 then (bif (decide (0 ≤ c0) && decide ((List.replicate (Int.toNat c0) ((0 : Int), ((0 : Int), ()))).length ≤ LIM 16)) then (bif decide (0 ≤ ((List.replicate (Int.toNat c0) ((0 : Int), ((0 : Int), ()))).length : Int)) then (xN (((List.replicate (Int.toNat c0) ((0 : Int), ((0 : Int), ()))).drop 0).take 0)) else none) else none) else (xN ([] : zL5)))
def Qfn := hid (@Qa4 R)
theorem Q86 : @Qfn R = @Qa4 R := Q2
def f132d (k : Nat) (a0 : Int) (K : zL6 → Option R) : Option R := match k with
 | 0 => none
 | k + 1 => (Qfm k (Qfn k (fun p0 => (K p0)) (IntKind.i64.wrap (a0 - 0)) (decide (IntKind.i64.wrap (a0 - 0) > 0))) (decide (a0 < 0)))
def f132 := hid (@f132d R)
theorem Qr9 : @f132 R = @f132d R := Q2
def Q9s (k : Nat) (xN : Option R) (c5 : Bool) : Option R :=
 (bif c5 then none else xN)
def Qf8 := hid (@Q9s R)
theorem Q7s : @Qf8 R = @Q9s R := Q2
def Qy8 (k : Nat) (rec : Int → Int → Option R) (x0 : Int → Option R) (c0 c2 : List (zL5)) (c3 c1 c4 : Int) : Option R :=
 (bif decide (c4 < c3) then (bif (decide (0 ≤ c4) && decide (c4 < (c2.length : Int))) then (Qf8 k (rec (IntKind.i64.wrap (c1 + ((c2.getD (Int.toNat c4) ([] : zL5)).length : Int))) (IntKind.i64.wrap (c4 + 1))) (decide (IntKind.i64.wrap (c1 + ((c2.getD (Int.toNat c4) ([] : zL5)).length : Int)) < 0))) else none) else (x0 c1))
def Q79 (k : Nat) (x0 : Int → Option R) (c0 c2 : List (zL5)) (c3 : Int) : Nat → Int → Int → Option R
 | 0, _, _ => none
 | m + 1, c1, c4 => Qy8 k (Q79 k x0 c0 c2 c3 m) x0 c0 c2 c3 c1 c4
def Qy7 := hid (@Q79 R)
theorem Qd5 : @Qy7 R = @Q79 R := Q2
def Qya (k : Nat) (rec : Int → zL6 → Option R) (x2 : zL6 → Option R) (c0 : List (zL5)) (c1 c2 : Int) (c3 : zL6) : Option R :=
 (bif decide (c2 < c1) then (bif (decide (0 ≤ c2) && decide (c2 < (c0.length : Int))) then (bif decide (c3.length + (c0.getD (Int.toNat c2) ([] : zL5)).length ≤ LIM 16) then (rec (IntKind.i64.wrap (c2 + 1)) (c3 ++ (c0.getD (Int.toNat c2) ([] : zL5)))) else none) else none) else (x2 c3))
def Q7a (k : Nat) (x2 : zL6 → Option R) (c0 : List (zL5)) (c1 : Int) : Nat → Int → zL6 → Option R
 | 0, _, _ => none
 | m + 1, c2, c3 => Qya k (Q7a k x2 c0 c1 m) x2 c0 c1 c2 c3
def Qy9 := hid (@Q7a R)
theorem Qd6 : @Qy9 R = @Q7a R := Q2
def f114d (k : Nat) (a0 : List (zL5)) (K : zL6 → Option R) : Option R := match k with
 | 0 => none
 | k + 1 => (Qy7 k (fun y0_0_1 => (f132 k y0_0_1 (fun r0_0 => (Qy9 k (fun y2_2_0 => (K y2_2_0)) a0 (a0.length : Int) k 0 r0_0)))) a0 a0 (a0.length : Int) k 0 0)
def f114 := hid (@f114d R)
theorem Qqt : @f114 R = @f114d R := Q2
def f115d (k : Nat) (a0 : zL6) (K : zL6 → Option R) : Option R := match k with
 | 0 => none
 | _ + 1 => bif sortOk a0 then K (srtL a0) else none
def f115 := hid (@f115d R)
theorem Qqu : @f115 R = @f115d R := Q2
def Qfs (k : Nat) (xN : zL6 → Option R) (c0 : Int) (c3 : Bool) (c4 : zL6) (c5 c6 : Int) : Option R :=
 (bif c3 then (bif (decide (0 ≤ IntKind.i64.wrap (c0 - 1)) && decide (IntKind.i64.wrap (c0 - 1) < (c4.length : Int))) then (bif (decide (0 ≤ IntKind.i64.wrap (c0 - 1)) && decide (IntKind.i64.wrap (c0 - 1) < (c4.length : Int))) then (xN (c4.set (Int.toNat (IntKind.i64.wrap (c0 - 1))) ((c4.getD (Int.toNat (IntKind.i64.wrap (c0 - 1))) ((0 : Int), ((0 : Int), ()))).1, ((if ((c4.getD (Int.toNat (IntKind.i64.wrap (c0 - 1))) ((0 : Int), ((0 : Int), ()))).2).1 < c6 then c6 else ((c4.getD (Int.toNat (IntKind.i64.wrap (c0 - 1))) ((0 : Int), ((0 : Int), ()))).2).1), ())))) else none) else none) else (bif decide (c4.length + ([(c5, (c6, ()))] : zL6).length ≤ LIM 16) then (xN (c4 ++ ([(c5, (c6, ()))] : zL6))) else none))
def Qfr := hid (@Qfs R)
theorem Qa8 : @Qfr R = @Qfs R := Q2
def Q108 (k : Nat) (rec : Int → zL6 → Option R) (x0 : zL6 → Option R) (c0 : Int) (c3 : zL6) (c1 : Int) (c2 : zL6) : Option R :=
 (bif decide (c1 < c0) then (bif (decide (0 ≤ c1) && decide (c1 < (c3.length : Int))) then (bif (decide ((c2.length : Int) > 0) == true) then (bif (decide (0 ≤ IntKind.i64.wrap ((c2.length : Int) - 1)) && decide (IntKind.i64.wrap ((c2.length : Int) - 1) < (c2.length : Int))) then (Qfr k (fun p2 => (rec (IntKind.i64.wrap (c1 + 1)) p2)) (c2.length : Int) (decide ((c3.getD (Int.toNat c1) ((0 : Int), ((0 : Int), ()))).1 ≤ ((c2.getD (Int.toNat (IntKind.i64.wrap ((c2.length : Int) - 1))) ((0 : Int), ((0 : Int), ()))).2).1)) c2 ((c3.getD (Int.toNat c1) ((0 : Int), ((0 : Int), ()))).1) (((c3.getD (Int.toNat c1) ((0 : Int), ((0 : Int), ()))).2).1)) else none) else (Qfr k (fun p2 => (rec (IntKind.i64.wrap (c1 + 1)) p2)) (c2.length : Int) false c2 ((c3.getD (Int.toNat c1) ((0 : Int), ((0 : Int), ()))).1) (((c3.getD (Int.toNat c1) ((0 : Int), ((0 : Int), ()))).2).1))) else none) else (x0 c2))
def Q6g (k : Nat) (x0 : zL6 → Option R) (c0 : Int) (c3 : zL6) : Nat → Int → zL6 → Option R
 | 0, _, _ => none
 | m + 1, c1, c2 => Q108 k (Q6g k x0 c0 c3 m) x0 c0 c3 c1 c2
def f86_0 := hid (@Q6g R)
theorem Qjb : @f86_0 R = @Q6g R := Q2
def f86d (k : Nat) (a0 a1 : zL5) (K : zL6 → Option R) : Option R := match k with
 | 0 => none
 | k + 1 => (f114 k ([a0, a1] : List (zL5)) (fun r0_0 => (f115 k r0_0 (fun r1_0 => (bif (decide (r1_0.length = r0_0.length) && true) then (f86_0 k (fun p0 => (K p0)) (r1_0.length : Int) r1_0 k 0 ([] : zL5)) else none)))))
def f86 := hid (@f86d R)
theorem Q109 : @f86 R = @f86d R := Q2
def Q6e (k : Nat) (xN : List Int → Option R) (c4 : Int) (c5 : Bool) (c6 : List Int) : Option R :=
 (bif c5 then (f135 k ([0] : List Int) (IntKind.i64.wrap (c4 - (c6.length : Int))) (fun r0_0 => (bif decide (c6.length + r0_0.length ≤ LIM 1) then (xN (c6 ++ r0_0)) else none))) else (xN c6))
def Qfc := hid (@Q6e R)
theorem Q7v : @Qfc R = @Q6e R := Q2
def Q9v (k : Nat) (xN : Bool → List Int → Option R) (c1 : Int) (c2 : List Int) (c4 : Bool) (c5 c6 : Int) (c9 : Bool) (c10 : List Int) : Option R :=
 (bif c9 then (bif (decide (0 ≤ c5) && (decide (c5 ≤ c6) && decide (c6 ≤ (c10.length : Int)))) then (bif (decide (0 ≤ IntKind.i64.wrap (c5 - c1)) && (decide (IntKind.i64.wrap (c5 - c1) ≤ IntKind.i64.wrap (c6 - c1)) && decide (IntKind.i64.wrap (c6 - c1) ≤ (c2.length : Int)))) then (xN true (splice c10 (Int.toNat c5) (((c2.take (Int.toNat (IntKind.i64.wrap (c6 - c1)))).drop (Int.toNat (IntKind.i64.wrap (c5 - c1)))).take (min ((c2.take (Int.toNat (IntKind.i64.wrap (c6 - c1)))).drop (Int.toNat (IntKind.i64.wrap (c5 - c1)))).length ((Int.toNat c6) - (Int.toNat c5)))))) else none) else none) else (xN c4 c10))
def Qfd := hid (@Q9v R)
theorem Q7w : @Qfd R = @Q9v R := Q2
def Qmi (k : Nat) (rec : Bool → Int → List Int → Option R) (x0 : Bool → List Int → Option R) (c0 : zL5) (c1 : Int) (c2 : List Int) (c3 c5 : Int) (c8 : zL6) (c4 : Bool) (c6 : Int) (c7 : List Int) : Option R :=
 (bif decide (c6 < c5) then (bif (decide (0 ≤ c6) && decide (c6 < (c8.length : Int))) then (Qfd k (fun p4 p7 => (rec p4 (IntKind.i64.wrap (c6 + 1)) p7)) c1 c2 c4 (if (c8.getD (Int.toNat c6) ((0 : Int), ((0 : Int), ()))).1 < c1 then c1 else (c8.getD (Int.toNat c6) ((0 : Int), ((0 : Int), ()))).1) (if c3 < ((c8.getD (Int.toNat c6) ((0 : Int), ((0 : Int), ()))).2).1 then c3 else ((c8.getD (Int.toNat c6) ((0 : Int), ((0 : Int), ()))).2).1) (decide ((if (c8.getD (Int.toNat c6) ((0 : Int), ((0 : Int), ()))).1 < c1 then c1 else (c8.getD (Int.toNat c6) ((0 : Int), ((0 : Int), ()))).1) < (if c3 < ((c8.getD (Int.toNat c6) ((0 : Int), ((0 : Int), ()))).2).1 then c3 else ((c8.getD (Int.toNat c6) ((0 : Int), ((0 : Int), ()))).2).1))) c7) else none) else (x0 c4 c7))
def Q4a (k : Nat) (x0 : Bool → List Int → Option R) (c0 : zL5) (c1 : Int) (c2 : List Int) (c3 c5 : Int) (c8 : zL6) : Nat → Bool → Int → List Int → Option R
 | 0, _, _, _ => none
 | m + 1, c4, c6, c7 => Qmi k (Q4a k x0 c0 c1 c2 c3 c5 c8 m) x0 c0 c1 c2 c3 c5 c8 c4 c6 c7
def Qye := hid (@Q4a R)
theorem Qd8 : @Qye R = @Q4a R := Q2
def f120d (k : Nat) (a0 : List Int) (a1 : zL5) (a2 : Int) (a3 : List Int) (K : Bool → List Int → zL6 → Option R) : Option R := match k with
 | 0 => none
 | k + 1 => (f77 k a0 (fun r0_0 => (Qfc k (fun y4_N_5 => (f87 k a1 (if IntKind.i64.wrap (a2 + (a3.length : Int)) < (a0.length : Int) then (a0.length : Int) else IntKind.i64.wrap (a2 + (a3.length : Int))) (fun r1_0 => (Qye k (fun y0_0_3 y0_0_4 => (f86 k a1 ([(a2, (IntKind.i64.wrap (a2 + (a3.length : Int)), ()))] : zL6) (fun r2_0 => (K y0_0_3 y0_0_4 r2_0)))) a1 a2 a3 (IntKind.i64.wrap (a2 + (a3.length : Int))) (r1_0.length : Int) r1_0 k false 0 y4_N_5)))) (IntKind.i64.wrap (a2 + (a3.length : Int))) (decide (IntKind.i64.wrap (a2 + (a3.length : Int)) > (r0_0.length : Int))) r0_0)))
def f120 := hid (@f120d R)
theorem Qqx : @f120 R = @f120d R := Q2
def f95d (k : Nat) (a0 a1 : Int) (a2 : ByteArray) (a3 : List Int) (a4 : zL5) (a5 a6 a7 a8 : Int) (K : zL6 → Option R) : Option R := match k with
 | 0 => none
 | k + 1 => (f87 k a4 a5 (fun r0_0 => (K r0_0)))
def f95 := hid (@f95d R)
theorem Q10k : @f95 R = @f95d R := Q2
def Qzj (k : Nat) (rec : Int → Int → Option R) (x0 : Int → Option R) (c1 : List Int) (c2 c0 c3 : Int) : Option R :=
 (bif decide (c3 < c2) then (bif (decide (0 ≤ c3) && decide (c3 < (c1.length : Int))) then (bif decide (0 ≤ IntKind.i64.wrap (24 - (IntKind.i64.wrap (8 * (Int.tmod c3 4))))) then (rec (IntKind.i64.wrap (c0 + (IntKind.i64.wrap ((IntKind.i64.wrap (c1.getD (Int.toNat c3) 0)) * 2 ^ min (Int.toNat (IntKind.i64.wrap (24 - (IntKind.i64.wrap (8 * (Int.tmod c3 4)))))) 64)))) (IntKind.i64.wrap (c3 + 1))) else none) else none) else (x0 c0))
def Q8b (k : Nat) (x0 : Int → Option R) (c1 : List Int) (c2 : Int) : Nat → Int → Int → Option R
 | 0, _, _ => none
 | m + 1, c0, c3 => Qzj k (Q8b k x0 c1 c2 m) x0 c1 c2 c0 c3
def f64_0 := hid (@Q8b R)
theorem Qa6 : @f64_0 R = @Q8b R := Q2
def f64d (k : Nat) (a0 : List Int) (K : Int → Option R) : Option R := match k with
 | 0 => none
 | k + 1 => (f64_0 k (fun p0 => (K (bits .and .i64 p0 4294967295))) a0 (a0.length : Int) k 0 0)
def f64 := hid (@f64d R)
theorem Qmv : @f64 R = @f64d R := Q2
def f104d (k : Nat) (K : Int → Int → Option R) : Option R := match k with
 | 0 => none
 | k + 1 => (K (-1) 0)
def f104 := hid (@f104d R)
theorem Q90 : @f104 R = @f104d R := Q2
def f131d (k : Nat) (a0 : zL5) (a1 : Bool) (K : zL5 → Option R) : Option R := match k with
 | 0 => none
 | k + 1 => (bif a1 then (f104 k (fun r0_0 r0_1 => (f114 k ([([(r0_0, (r0_1, ()))] : zL6), a0] : List (zL5)) (fun r1_0 => (K r1_0))))) else (K a0))
def f131 := hid (@f131d R)
theorem Qr8 : @f131 R = @f131d R := Q2
def f112d (k : Nat) (a0 a1 : Int) (a2 : ByteArray) (a3 : List Int) (a4 : zL5) (a5 a6 a7 a8 : Int) (K : zL5 → Int → Option R) : Option R := match k with
 | 0 => none
 | k + 1 => (f95 k a0 a1 a2 a3 a4 a5 a6 a7 a8 (fun r0_0 => (bif decide ((r0_0.length : Int) > 2000) then (K ([] : zL5) 2) else (f131 k r0_0 (a2.toList == (⟨#[]⟩ : ByteArray).toList) (fun r1_0 => (K r1_0 0))))))
def f112 := hid (@f112d R)
theorem Qqr : @f112 R = @f112d R := Q2
def Qg7 (k : Nat) (xN : Int → Option R) (c0 : Bool) (c12 : Int) : Option R :=
 (bif c0 then (xN 0) else (xN c12))
def Qn6 := hid (@Qg7 R)
theorem Qam : @Qn6 R = @Qg7 R := Q2
def Q95 (k : Nat) (xN : ByteArray → Option R) (c0 : Bool) (c8 c17 : ByteArray) : Option R :=
 (bif c0 then (xN c17) else (xN c8))
def Qn7 := hid (@Q95 R)
theorem Q5n : @Qn7 R = @Q95 R := Q2
def Q6j (k : Nat) (K : zK2 R) (xN : ByteArray → List Int → zL5 → Int → Int → Int → Option R) (c0 : Bool) (c8 : ByteArray) (c9 : List Int) (c10 : zL5) (c11 c12 c14 c15 : Int) (c17 : ByteArray) (c18 c19 c20 : Int) (c21 : List Int) : Option R :=
 (bif c0 then (f120 k c9 c10 c20 c21 (fun r0_0 r0_1 r0_2 => (Qn6 k (fun y18_N_11 => (bif decide ((r0_2.length : Int) > 2000) then (K 0 0 (⟨#[]⟩ : ByteArray) ([] : List Int) ([] : zL5) 0 0 0 0 2 ([] : zL2)) else (xN c8 r0_1 r0_2 c11 c12 y18_N_11))) r0_0 c14))) else (Qn7 k (fun y23_N_7 => (xN y23_N_7 c9 c10 c18 c19 c14)) (c15 == 1) c8 c17))
def Q7b := hid (@Q6j R)
theorem Q3i : @Q7b R = @Q6j R := Q2
def Q96 (k : Nat) (xN : Int → Option R) (c0 : Bool) (c6 : Int) : Option R :=
 (bif c0 then (xN 1) else (xN c6))
def Q5o := hid (@Q96 R)
theorem Qan : @Q5o R = @Q96 R := Q2
def Qg8 (k : Nat) (xN : Int → Option R) (c1 : Bool) (c2 : Int) : Option R :=
 (bif c1 then (xN 3) else (xN c2))
def Q5p := hid (@Qg8 R)
theorem Qao : @Q5p R = @Qg8 R := Q2
def f92d (k : Nat) (a0 a1 a2 a3 a4 a5 a6 : Int) (a7 : ByteArray) (a8 : List Int) (a9 : zL5) (a10 a11 a12 a13 a14 a15 : Int) (a16 : ByteArray) (a17 a18 a19 : Int) (a20 : List Int) (a21 : zL5) (a22 : Bool) (K : zK2 R) : Option R := match k with
 | 0 => none
 | k + 1 => (bif ((a14 == 1) == false) then (bif ((a14 == 2) == false) then (bif ((a14 == 3) == false) then (bif ((a15 != a6) == false) then (bif ((!(a14 == 6)) == false) then (bif (a5 == 4) then (K a5 a6 a7 a8 a9 a10 a11 a12 a13 0 ([] : zL2)) else (bif (a5 == 3) then (bif (a14 == 3) then (K a5 a6 a7 a8 a9 a10 a11 a12 a13 0 ([((5 : Int), (a6, ((⟨#[]⟩ : ByteArray), ((0 : Int), ((0 : Int), ((0 : Int), (([] : List Int), (([] : zL5), (true, ())))))))))] : zL3)) else (K a5 a6 a7 a8 a9 a10 a11 a12 a13 0 ([] : zL2))) else (bif (a14 == 6) then (K 4 a6 a7 a8 a9 a10 a11 0 a13 0 ([] : zL2)) else (f119 k a5 a6 a7 a8 a9 a10 a11 a12 a13 a14 a15 a16 a17 a18 a19 a20 a21 a22 (fun r0_0 => (bif r0_0 then (K 4 a6 a7 a8 a9 a10 a11 0 a13 0 ([((6 : Int), (a6, ((⟨#[]⟩ : ByteArray), ((0 : Int), ((0 : Int), ((0 : Int), (([] : List Int), (([] : zL5), (false, ())))))))))] : zL3)) else (Q7b k K (fun y15_N_7 y15_N_8 y15_N_9 y15_N_10 y15_N_11 y15_N_13 => (Q5o k (fun y25_N_5 => (bif ((!(y15_N_7.toList == (⟨#[]⟩ : ByteArray).toList)) == true) then (bif (decide (y15_N_10 ≥ 0) == true) then (f95 k y25_N_5 a6 y15_N_7 y15_N_8 y15_N_9 y15_N_10 y15_N_11 a12 y15_N_13 (fun r1_0 => (bif ((r1_0.length : Int) == 0) then (f64 k y15_N_8 (fun r2_0 => (Q5p k (fun y30_N_1 => (K y30_N_1 a6 y15_N_7 y15_N_8 y15_N_9 y15_N_10 y15_N_11 0 y15_N_13 0 ([((5 : Int), (a6, ((⟨#[]⟩ : ByteArray), ((0 : Int), ((0 : Int), ((0 : Int), (([] : List Int), (([] : zL5), ((r2_0 == y15_N_11), ())))))))))] : zL3))) (r2_0 == y15_N_11) 4))) else (bif (a14 != 3) then (K y25_N_5 a6 y15_N_7 y15_N_8 y15_N_9 y15_N_10 y15_N_11 a12 y15_N_13 0 ([] : zL2)) else (f112 k 2 a6 y15_N_7 y15_N_8 y15_N_9 y15_N_10 y15_N_11 a3 y15_N_13 (fun r3_0 r3_1 => (bif (r3_1 != 0) then (K 0 0 (⟨#[]⟩ : ByteArray) ([] : List Int) ([] : zL5) 0 0 0 0 r3_1 ([] : zL2)) else (K 2 a6 y15_N_7 y15_N_8 y15_N_9 y15_N_10 y15_N_11 a3 y15_N_13 0 ([((4 : Int), (a6, ((⟨#[]⟩ : ByteArray), ((0 : Int), ((0 : Int), ((0 : Int), (([] : List Int), (r3_0, (false, ())))))))))] : zL3))))))))) else (bif (a14 != 3) then (K y25_N_5 a6 y15_N_7 y15_N_8 y15_N_9 y15_N_10 y15_N_11 a12 y15_N_13 0 ([] : zL2)) else (f112 k 2 a6 y15_N_7 y15_N_8 y15_N_9 y15_N_10 y15_N_11 a3 y15_N_13 (fun r3_0 r3_1 => (bif (r3_1 != 0) then (K 0 0 (⟨#[]⟩ : ByteArray) ([] : List Int) ([] : zL5) 0 0 0 0 r3_1 ([] : zL2)) else (K 2 a6 y15_N_7 y15_N_8 y15_N_9 y15_N_10 y15_N_11 a3 y15_N_13 0 ([((4 : Int), (a6, ((⟨#[]⟩ : ByteArray), ((0 : Int), ((0 : Int), ((0 : Int), (([] : List Int), (r3_0, (false, ())))))))))] : zL3))))))) else (bif (a14 != 3) then (K y25_N_5 a6 y15_N_7 y15_N_8 y15_N_9 y15_N_10 y15_N_11 a12 y15_N_13 0 ([] : zL2)) else (f112 k 2 a6 y15_N_7 y15_N_8 y15_N_9 y15_N_10 y15_N_11 a3 y15_N_13 (fun r3_0 r3_1 => (bif (r3_1 != 0) then (K 0 0 (⟨#[]⟩ : ByteArray) ([] : List Int) ([] : zL5) 0 0 0 0 r3_1 ([] : zL2)) else (K 2 a6 y15_N_7 y15_N_8 y15_N_9 y15_N_10 y15_N_11 a3 y15_N_13 0 ([((4 : Int), (a6, ((⟨#[]⟩ : ByteArray), ((0 : Int), ((0 : Int), ((0 : Int), (([] : List Int), (r3_0, (false, ())))))))))] : zL3)))))))) (a5 == 0) a5)) (a14 == 2) a7 a8 a9 a10 a11 a13 a14 a16 a17 a18 a19 a20))))))) else (K a5 a6 a7 a8 a9 a10 a11 a12 a13 0 ([] : zL2))) else (K a5 a6 a7 a8 a9 a10 a11 a12 a13 0 ([] : zL2))) else (bif ((a15 != a6) == false) then (bif (a5 == 4) then (K a5 a6 a7 a8 a9 a10 a11 a12 a13 0 ([] : zL2)) else (bif (a5 == 3) then (bif (a14 == 3) then (K a5 a6 a7 a8 a9 a10 a11 a12 a13 0 ([((5 : Int), (a6, ((⟨#[]⟩ : ByteArray), ((0 : Int), ((0 : Int), ((0 : Int), (([] : List Int), (([] : zL5), (true, ())))))))))] : zL3)) else (K a5 a6 a7 a8 a9 a10 a11 a12 a13 0 ([] : zL2))) else (bif (a14 == 6) then (K 4 a6 a7 a8 a9 a10 a11 0 a13 0 ([] : zL2)) else (f119 k a5 a6 a7 a8 a9 a10 a11 a12 a13 a14 a15 a16 a17 a18 a19 a20 a21 a22 (fun r0_0 => (bif r0_0 then (K 4 a6 a7 a8 a9 a10 a11 0 a13 0 ([((6 : Int), (a6, ((⟨#[]⟩ : ByteArray), ((0 : Int), ((0 : Int), ((0 : Int), (([] : List Int), (([] : zL5), (false, ())))))))))] : zL3)) else (Q7b k K (fun y15_N_7 y15_N_8 y15_N_9 y15_N_10 y15_N_11 y15_N_13 => (Q5o k (fun y25_N_5 => (bif ((!(y15_N_7.toList == (⟨#[]⟩ : ByteArray).toList)) == true) then (bif (decide (y15_N_10 ≥ 0) == true) then (f95 k y25_N_5 a6 y15_N_7 y15_N_8 y15_N_9 y15_N_10 y15_N_11 a12 y15_N_13 (fun r1_0 => (bif ((r1_0.length : Int) == 0) then (f64 k y15_N_8 (fun r2_0 => (Q5p k (fun y30_N_1 => (K y30_N_1 a6 y15_N_7 y15_N_8 y15_N_9 y15_N_10 y15_N_11 0 y15_N_13 0 ([((5 : Int), (a6, ((⟨#[]⟩ : ByteArray), ((0 : Int), ((0 : Int), ((0 : Int), (([] : List Int), (([] : zL5), ((r2_0 == y15_N_11), ())))))))))] : zL3))) (r2_0 == y15_N_11) 4))) else (bif (a14 != 3) then (K y25_N_5 a6 y15_N_7 y15_N_8 y15_N_9 y15_N_10 y15_N_11 a12 y15_N_13 0 ([] : zL2)) else (f112 k 2 a6 y15_N_7 y15_N_8 y15_N_9 y15_N_10 y15_N_11 a3 y15_N_13 (fun r3_0 r3_1 => (bif (r3_1 != 0) then (K 0 0 (⟨#[]⟩ : ByteArray) ([] : List Int) ([] : zL5) 0 0 0 0 r3_1 ([] : zL2)) else (K 2 a6 y15_N_7 y15_N_8 y15_N_9 y15_N_10 y15_N_11 a3 y15_N_13 0 ([((4 : Int), (a6, ((⟨#[]⟩ : ByteArray), ((0 : Int), ((0 : Int), ((0 : Int), (([] : List Int), (r3_0, (false, ())))))))))] : zL3))))))))) else (bif (a14 != 3) then (K y25_N_5 a6 y15_N_7 y15_N_8 y15_N_9 y15_N_10 y15_N_11 a12 y15_N_13 0 ([] : zL2)) else (f112 k 2 a6 y15_N_7 y15_N_8 y15_N_9 y15_N_10 y15_N_11 a3 y15_N_13 (fun r3_0 r3_1 => (bif (r3_1 != 0) then (K 0 0 (⟨#[]⟩ : ByteArray) ([] : List Int) ([] : zL5) 0 0 0 0 r3_1 ([] : zL2)) else (K 2 a6 y15_N_7 y15_N_8 y15_N_9 y15_N_10 y15_N_11 a3 y15_N_13 0 ([((4 : Int), (a6, ((⟨#[]⟩ : ByteArray), ((0 : Int), ((0 : Int), ((0 : Int), (([] : List Int), (r3_0, (false, ())))))))))] : zL3))))))) else (bif (a14 != 3) then (K y25_N_5 a6 y15_N_7 y15_N_8 y15_N_9 y15_N_10 y15_N_11 a12 y15_N_13 0 ([] : zL2)) else (f112 k 2 a6 y15_N_7 y15_N_8 y15_N_9 y15_N_10 y15_N_11 a3 y15_N_13 (fun r3_0 r3_1 => (bif (r3_1 != 0) then (K 0 0 (⟨#[]⟩ : ByteArray) ([] : List Int) ([] : zL5) 0 0 0 0 r3_1 ([] : zL2)) else (K 2 a6 y15_N_7 y15_N_8 y15_N_9 y15_N_10 y15_N_11 a3 y15_N_13 0 ([((4 : Int), (a6, ((⟨#[]⟩ : ByteArray), ((0 : Int), ((0 : Int), ((0 : Int), (([] : List Int), (r3_0, (false, ())))))))))] : zL3)))))))) (a5 == 0) a5)) (a14 == 2) a7 a8 a9 a10 a11 a13 a14 a16 a17 a18 a19 a20))))))) else (K a5 a6 a7 a8 a9 a10 a11 a12 a13 0 ([] : zL2)))) else (bif ((a15 != a6) == false) then (bif (a5 == 4) then (K a5 a6 a7 a8 a9 a10 a11 a12 a13 0 ([] : zL2)) else (bif (a5 == 3) then (bif (a14 == 3) then (K a5 a6 a7 a8 a9 a10 a11 a12 a13 0 ([((5 : Int), (a6, ((⟨#[]⟩ : ByteArray), ((0 : Int), ((0 : Int), ((0 : Int), (([] : List Int), (([] : zL5), (true, ())))))))))] : zL3)) else (K a5 a6 a7 a8 a9 a10 a11 a12 a13 0 ([] : zL2))) else (bif (a14 == 6) then (K 4 a6 a7 a8 a9 a10 a11 0 a13 0 ([] : zL2)) else (f119 k a5 a6 a7 a8 a9 a10 a11 a12 a13 a14 a15 a16 a17 a18 a19 a20 a21 a22 (fun r0_0 => (bif r0_0 then (K 4 a6 a7 a8 a9 a10 a11 0 a13 0 ([((6 : Int), (a6, ((⟨#[]⟩ : ByteArray), ((0 : Int), ((0 : Int), ((0 : Int), (([] : List Int), (([] : zL5), (false, ())))))))))] : zL3)) else (Q7b k K (fun y15_N_7 y15_N_8 y15_N_9 y15_N_10 y15_N_11 y15_N_13 => (Q5o k (fun y25_N_5 => (bif ((!(y15_N_7.toList == (⟨#[]⟩ : ByteArray).toList)) == true) then (bif (decide (y15_N_10 ≥ 0) == true) then (f95 k y25_N_5 a6 y15_N_7 y15_N_8 y15_N_9 y15_N_10 y15_N_11 a12 y15_N_13 (fun r1_0 => (bif ((r1_0.length : Int) == 0) then (f64 k y15_N_8 (fun r2_0 => (Q5p k (fun y30_N_1 => (K y30_N_1 a6 y15_N_7 y15_N_8 y15_N_9 y15_N_10 y15_N_11 0 y15_N_13 0 ([((5 : Int), (a6, ((⟨#[]⟩ : ByteArray), ((0 : Int), ((0 : Int), ((0 : Int), (([] : List Int), (([] : zL5), ((r2_0 == y15_N_11), ())))))))))] : zL3))) (r2_0 == y15_N_11) 4))) else (bif (a14 != 3) then (K y25_N_5 a6 y15_N_7 y15_N_8 y15_N_9 y15_N_10 y15_N_11 a12 y15_N_13 0 ([] : zL2)) else (f112 k 2 a6 y15_N_7 y15_N_8 y15_N_9 y15_N_10 y15_N_11 a3 y15_N_13 (fun r3_0 r3_1 => (bif (r3_1 != 0) then (K 0 0 (⟨#[]⟩ : ByteArray) ([] : List Int) ([] : zL5) 0 0 0 0 r3_1 ([] : zL2)) else (K 2 a6 y15_N_7 y15_N_8 y15_N_9 y15_N_10 y15_N_11 a3 y15_N_13 0 ([((4 : Int), (a6, ((⟨#[]⟩ : ByteArray), ((0 : Int), ((0 : Int), ((0 : Int), (([] : List Int), (r3_0, (false, ())))))))))] : zL3))))))))) else (bif (a14 != 3) then (K y25_N_5 a6 y15_N_7 y15_N_8 y15_N_9 y15_N_10 y15_N_11 a12 y15_N_13 0 ([] : zL2)) else (f112 k 2 a6 y15_N_7 y15_N_8 y15_N_9 y15_N_10 y15_N_11 a3 y15_N_13 (fun r3_0 r3_1 => (bif (r3_1 != 0) then (K 0 0 (⟨#[]⟩ : ByteArray) ([] : List Int) ([] : zL5) 0 0 0 0 r3_1 ([] : zL2)) else (K 2 a6 y15_N_7 y15_N_8 y15_N_9 y15_N_10 y15_N_11 a3 y15_N_13 0 ([((4 : Int), (a6, ((⟨#[]⟩ : ByteArray), ((0 : Int), ((0 : Int), ((0 : Int), (([] : List Int), (r3_0, (false, ())))))))))] : zL3))))))) else (bif (a14 != 3) then (K y25_N_5 a6 y15_N_7 y15_N_8 y15_N_9 y15_N_10 y15_N_11 a12 y15_N_13 0 ([] : zL2)) else (f112 k 2 a6 y15_N_7 y15_N_8 y15_N_9 y15_N_10 y15_N_11 a3 y15_N_13 (fun r3_0 r3_1 => (bif (r3_1 != 0) then (K 0 0 (⟨#[]⟩ : ByteArray) ([] : List Int) ([] : zL5) 0 0 0 0 r3_1 ([] : zL2)) else (K 2 a6 y15_N_7 y15_N_8 y15_N_9 y15_N_10 y15_N_11 a3 y15_N_13 0 ([((4 : Int), (a6, ((⟨#[]⟩ : ByteArray), ((0 : Int), ((0 : Int), ((0 : Int), (([] : List Int), (r3_0, (false, ())))))))))] : zL3)))))))) (a5 == 0) a5)) (a14 == 2) a7 a8 a9 a10 a11 a13 a14 a16 a17 a18 a19 a20))))))) else (K a5 a6 a7 a8 a9 a10 a11 a12 a13 0 ([] : zL2)))) else (bif ((a15 != a6) == false) then (bif (a5 == 4) then (K a5 a6 a7 a8 a9 a10 a11 a12 a13 0 ([] : zL2)) else (bif (a5 == 3) then (bif (a14 == 3) then (K a5 a6 a7 a8 a9 a10 a11 a12 a13 0 ([((5 : Int), (a6, ((⟨#[]⟩ : ByteArray), ((0 : Int), ((0 : Int), ((0 : Int), (([] : List Int), (([] : zL5), (true, ())))))))))] : zL3)) else (K a5 a6 a7 a8 a9 a10 a11 a12 a13 0 ([] : zL2))) else (bif (a14 == 6) then (K 4 a6 a7 a8 a9 a10 a11 0 a13 0 ([] : zL2)) else (f119 k a5 a6 a7 a8 a9 a10 a11 a12 a13 a14 a15 a16 a17 a18 a19 a20 a21 a22 (fun r0_0 => (bif r0_0 then (K 4 a6 a7 a8 a9 a10 a11 0 a13 0 ([((6 : Int), (a6, ((⟨#[]⟩ : ByteArray), ((0 : Int), ((0 : Int), ((0 : Int), (([] : List Int), (([] : zL5), (false, ())))))))))] : zL3)) else (Q7b k K (fun y15_N_7 y15_N_8 y15_N_9 y15_N_10 y15_N_11 y15_N_13 => (Q5o k (fun y25_N_5 => (bif ((!(y15_N_7.toList == (⟨#[]⟩ : ByteArray).toList)) == true) then (bif (decide (y15_N_10 ≥ 0) == true) then (f95 k y25_N_5 a6 y15_N_7 y15_N_8 y15_N_9 y15_N_10 y15_N_11 a12 y15_N_13 (fun r1_0 => (bif ((r1_0.length : Int) == 0) then (f64 k y15_N_8 (fun r2_0 => (Q5p k (fun y30_N_1 => (K y30_N_1 a6 y15_N_7 y15_N_8 y15_N_9 y15_N_10 y15_N_11 0 y15_N_13 0 ([((5 : Int), (a6, ((⟨#[]⟩ : ByteArray), ((0 : Int), ((0 : Int), ((0 : Int), (([] : List Int), (([] : zL5), ((r2_0 == y15_N_11), ())))))))))] : zL3))) (r2_0 == y15_N_11) 4))) else (bif (a14 != 3) then (K y25_N_5 a6 y15_N_7 y15_N_8 y15_N_9 y15_N_10 y15_N_11 a12 y15_N_13 0 ([] : zL2)) else (f112 k 2 a6 y15_N_7 y15_N_8 y15_N_9 y15_N_10 y15_N_11 a3 y15_N_13 (fun r3_0 r3_1 => (bif (r3_1 != 0) then (K 0 0 (⟨#[]⟩ : ByteArray) ([] : List Int) ([] : zL5) 0 0 0 0 r3_1 ([] : zL2)) else (K 2 a6 y15_N_7 y15_N_8 y15_N_9 y15_N_10 y15_N_11 a3 y15_N_13 0 ([((4 : Int), (a6, ((⟨#[]⟩ : ByteArray), ((0 : Int), ((0 : Int), ((0 : Int), (([] : List Int), (r3_0, (false, ())))))))))] : zL3))))))))) else (bif (a14 != 3) then (K y25_N_5 a6 y15_N_7 y15_N_8 y15_N_9 y15_N_10 y15_N_11 a12 y15_N_13 0 ([] : zL2)) else (f112 k 2 a6 y15_N_7 y15_N_8 y15_N_9 y15_N_10 y15_N_11 a3 y15_N_13 (fun r3_0 r3_1 => (bif (r3_1 != 0) then (K 0 0 (⟨#[]⟩ : ByteArray) ([] : List Int) ([] : zL5) 0 0 0 0 r3_1 ([] : zL2)) else (K 2 a6 y15_N_7 y15_N_8 y15_N_9 y15_N_10 y15_N_11 a3 y15_N_13 0 ([((4 : Int), (a6, ((⟨#[]⟩ : ByteArray), ((0 : Int), ((0 : Int), ((0 : Int), (([] : List Int), (r3_0, (false, ())))))))))] : zL3))))))) else (bif (a14 != 3) then (K y25_N_5 a6 y15_N_7 y15_N_8 y15_N_9 y15_N_10 y15_N_11 a12 y15_N_13 0 ([] : zL2)) else (f112 k 2 a6 y15_N_7 y15_N_8 y15_N_9 y15_N_10 y15_N_11 a3 y15_N_13 (fun r3_0 r3_1 => (bif (r3_1 != 0) then (K 0 0 (⟨#[]⟩ : ByteArray) ([] : List Int) ([] : zL5) 0 0 0 0 r3_1 ([] : zL2)) else (K 2 a6 y15_N_7 y15_N_8 y15_N_9 y15_N_10 y15_N_11 a3 y15_N_13 0 ([((4 : Int), (a6, ((⟨#[]⟩ : ByteArray), ((0 : Int), ((0 : Int), ((0 : Int), (([] : List Int), (r3_0, (false, ())))))))))] : zL3)))))))) (a5 == 0) a5)) (a14 == 2) a7 a8 a9 a10 a11 a13 a14 a16 a17 a18 a19 a20))))))) else (K a5 a6 a7 a8 a9 a10 a11 a12 a13 0 ([] : zL2))))
def f92 := hid (@f92d R)
theorem Q10i : @f92 R = @f92d R := Q2
def Q4d (k : Nat) (xN : zL1 → Option R) (c0 : Int) (c4 : Bool) (c33 : zL1) (c34 c35 : Int) (c36 : ByteArray) (c37 c38 c39 : Int) (c40 : List Int) (c41 : zL5) (c42 : Bool) : Option R :=
 (bif c4 then (bif decide (c33.length + ([(c0, ((c34, (c35, (c36, (c37, (c38, (c39, (c40, (c41, (c42, ()))))))))), ()))] : zL1).length ≤ LIM 120) then (xN (c33 ++ ([(c0, ((c34, (c35, (c36, (c37, (c38, (c39, (c40, (c41, (c42, ()))))))))), ()))] : zL1))) else none) else (xN c33))
def Q93 := hid (@Q4d R)
theorem Q2q : @Q93 R = @Q4d R := Q2
def Q9z (k : Nat) (rec : zK3 R) (x0 : Int → zL1 → Option R) (c0 : Int) (c1 : zL2) (c2 c4 c5 c6 c7 c8 c9 c10 : Int) (c11 : ByteArray) (c12 : List Int) (c13 : Int) (c14 : zL5) (c15 c16 c17 c18 : Int) (c19 : ByteArray) (c20 : List Int) (c21 : zL5) (c22 c23 c24 c25 : Int) (c26 : List Bool) (c27 : Int) (c28 : List Bool) (c30 : Int) (c31 : zL1) (c3 c29 : Int) (c32 : zL1) : Option R :=
 (bif decide (c3 < c2) then (bif (decide (0 ≤ c3) && decide (c3 < (c1.length : Int))) then (bif (decide (c29 ≥ (c28.length : Int)) == false) then (bif (decide (0 ≤ c29) && decide (c29 < (c28.length : Int))) then (Q93 k (fun p32 => (rec (IntKind.i64.wrap (c3 + 1)) (IntKind.i64.wrap (c29 + 1)) p32)) c0 (!(c28.getD (Int.toNat c29) false)) c32 ((c1.getD (Int.toNat c3) zD0).1) (((c1.getD (Int.toNat c3) zD0).2).1) ((((c1.getD (Int.toNat c3) zD0).2).2).1) (((((c1.getD (Int.toNat c3) zD0).2).2).2).1) ((((((c1.getD (Int.toNat c3) zD0).2).2).2).2).1) (((((((c1.getD (Int.toNat c3) zD0).2).2).2).2).2).1) ((((((((c1.getD (Int.toNat c3) zD0).2).2).2).2).2).2).1) (((((((((c1.getD (Int.toNat c3) zD0).2).2).2).2).2).2).2).1) ((((((((((c1.getD (Int.toNat c3) zD0).2).2).2).2).2).2).2).2).1)) else none) else (Q93 k (fun p32 => (rec (IntKind.i64.wrap (c3 + 1)) (IntKind.i64.wrap (c29 + 1)) p32)) c0 true c32 ((c1.getD (Int.toNat c3) zD0).1) (((c1.getD (Int.toNat c3) zD0).2).1) ((((c1.getD (Int.toNat c3) zD0).2).2).1) (((((c1.getD (Int.toNat c3) zD0).2).2).2).1) ((((((c1.getD (Int.toNat c3) zD0).2).2).2).2).1) (((((((c1.getD (Int.toNat c3) zD0).2).2).2).2).2).1) ((((((((c1.getD (Int.toNat c3) zD0).2).2).2).2).2).2).1) (((((((((c1.getD (Int.toNat c3) zD0).2).2).2).2).2).2).2).1) ((((((((((c1.getD (Int.toNat c3) zD0).2).2).2).2).2).2).2).2).1))) else none) else (x0 c29 c32))
def Q2x (k : Nat) (x0 : Int → zL1 → Option R) (c0 : Int) (c1 : zL2) (c2 c4 c5 c6 c7 c8 c9 c10 : Int) (c11 : ByteArray) (c12 : List Int) (c13 : Int) (c14 : zL5) (c15 c16 c17 c18 : Int) (c19 : ByteArray) (c20 : List Int) (c21 : zL5) (c22 c23 c24 c25 : Int) (c26 : List Bool) (c27 : Int) (c28 : List Bool) (c30 : Int) (c31 : zL1) : Nat → Int → Int → zL1 → Option R
 | 0, _, _, _ => none
 | m + 1, c3, c29, c32 => Q9z k (Q2x k x0 c0 c1 c2 c4 c5 c6 c7 c8 c9 c10 c11 c12 c13 c14 c15 c16 c17 c18 c19 c20 c21 c22 c23 c24 c25 c26 c27 c28 c30 c31 m) x0 c0 c1 c2 c4 c5 c6 c7 c8 c9 c10 c11 c12 c13 c14 c15 c16 c17 c18 c19 c20 c21 c22 c23 c24 c25 c26 c27 c28 c30 c31 c3 c29 c32
def Qyl := hid (@Q2x R)
theorem Qdd : @Qyl R = @Q2x R := Q2
def f124d (k : Nat) (a0 : Int) (a1 : zL2) (a2 a3 a4 a5 a6 a7 a8 : Int) (a9 : ByteArray) (a10 : List Int) (a11 : Int) (a12 : zL5) (a13 a14 a15 a16 : Int) (a17 : ByteArray) (a18 : List Int) (a19 : zL5) (a20 a21 a22 a23 : Int) (a24 : List Bool) (a25 : Int) (a26 : List Bool) (a27 a28 : Int) (a29 a30 : zL1) (K : zK4 R) : Option R := match k with
 | 0 => none
 | k + 1 => (Qyl k (fun p25 p28 => (K a2 a3 a4 a5 a6 a7 a8 a9 a10 a11 a12 a13 a14 a15 a16 a17 a18 a19 a20 a21 a22 a23 a24 a25 a26 p25 a28 a29 p28)) a0 a1 (a1.length : Int) a2 a3 a4 a5 a6 a7 a8 a9 a10 a11 a12 a13 a14 a15 a16 a17 a18 a19 a20 a21 a22 a23 a24 a25 a26 a28 a29 k 0 a27 a30)
def f124 := hid (@f124d R)
theorem Qr1 : @f124 R = @f124d R := Q2
def Q6f (k : Nat) (rec x0 : zL1 → zL3 → Option R) (c0 c1 c2 c3 c4 c5 c6 c7 : Int) (c8 : ByteArray) (c9 : List Int) (c10 : Int) (c11 : zL5) (c12 c13 c14 c15 : Int) (c16 : ByteArray) (c17 : List Int) (c18 : zL5) (c19 c20 c21 c22 : Int) (c23 : List Bool) (c24 : Int) (c25 : List Bool) (c26 c27 : Int) (c28 c29 : zL1) (c30 : zL3) : Option R :=
 (bif (decide ((c29.length : Int) > 0) == true) then (bif decide (0 < (c29.length : Int)) then (bif decide ((c29.getD 0 ((0 : Int), (zD0, ()))).1 ≤ c0) then (bif decide (0 < (c29.length : Int)) then (bif decide (c30.length + ([((((c29.getD 0 ((0 : Int), (zD0, ()))).2).1).1, (((((c29.getD 0 ((0 : Int), (zD0, ()))).2).1).2).1, ((((((c29.getD 0 ((0 : Int), (zD0, ()))).2).1).2).2).1, (((((((c29.getD 0 ((0 : Int), (zD0, ()))).2).1).2).2).2).1, ((((((((c29.getD 0 ((0 : Int), (zD0, ()))).2).1).2).2).2).2).1, (((((((((c29.getD 0 ((0 : Int), (zD0, ()))).2).1).2).2).2).2).2).1, ((((((((((c29.getD 0 ((0 : Int), (zD0, ()))).2).1).2).2).2).2).2).2).1, (((((((((((c29.getD 0 ((0 : Int), (zD0, ()))).2).1).2).2).2).2).2).2).2).1, ((((((((((((c29.getD 0 ((0 : Int), (zD0, ()))).2).1).2).2).2).2).2).2).2).2).1, ())))))))))] : zL3).length ≤ LIM 112) then (bif decide (1 ≤ (c29.length : Int)) then (rec ((c29.drop 1).take (c29.length - 1)) (c30 ++ ([((((c29.getD 0 ((0 : Int), (zD0, ()))).2).1).1, (((((c29.getD 0 ((0 : Int), (zD0, ()))).2).1).2).1, ((((((c29.getD 0 ((0 : Int), (zD0, ()))).2).1).2).2).1, (((((((c29.getD 0 ((0 : Int), (zD0, ()))).2).1).2).2).2).1, ((((((((c29.getD 0 ((0 : Int), (zD0, ()))).2).1).2).2).2).2).1, (((((((((c29.getD 0 ((0 : Int), (zD0, ()))).2).1).2).2).2).2).2).1, ((((((((((c29.getD 0 ((0 : Int), (zD0, ()))).2).1).2).2).2).2).2).2).1, (((((((((((c29.getD 0 ((0 : Int), (zD0, ()))).2).1).2).2).2).2).2).2).2).1, ((((((((((((c29.getD 0 ((0 : Int), (zD0, ()))).2).1).2).2).2).2).2).2).2).2).1, ())))))))))] : zL3))) else none) else none) else none) else (x0 c29 c30)) else none) else (x0 c29 c30))
def Q1m (k : Nat) (x0 : zL1 → zL3 → Option R) (c0 c1 c2 c3 c4 c5 c6 c7 : Int) (c8 : ByteArray) (c9 : List Int) (c10 : Int) (c11 : zL5) (c12 c13 c14 c15 : Int) (c16 : ByteArray) (c17 : List Int) (c18 : zL5) (c19 c20 c21 c22 : Int) (c23 : List Bool) (c24 : Int) (c25 : List Bool) (c26 c27 : Int) (c28 : zL1) : Nat → zL1 → zL3 → Option R
 | 0, _, _ => none
 | m + 1, c29, c30 => Q6f k (Q1m k x0 c0 c1 c2 c3 c4 c5 c6 c7 c8 c9 c10 c11 c12 c13 c14 c15 c16 c17 c18 c19 c20 c21 c22 c23 c24 c25 c26 c27 c28 m) x0 c0 c1 c2 c3 c4 c5 c6 c7 c8 c9 c10 c11 c12 c13 c14 c15 c16 c17 c18 c19 c20 c21 c22 c23 c24 c25 c26 c27 c28 c29 c30
def Qfh := hid (@Q1m R)
theorem Q80 : @Qfh R = @Q1m R := Q2
def Qmm (k : Nat) (a0 a1 a2 a3 a4 a5 a6 a7 : Int) (a8 : ByteArray) (a9 : List Int) (a10 : Int) (a11 : zL5) (a12 a13 a14 a15 : Int) (a16 : ByteArray) (a17 : List Int) (a18 : zL5) (a19 a20 a21 a22 : Int) (a23 : List Bool) (a24 : Int) (a25 : List Bool) (a26 a27 : Int) (a28 a29 : zL1) (K : zK1 R) : Option R := match k with
 | 0 => none
 | k + 1 => (Qfh k (fun p28 p29 => (K a1 a2 a3 a4 a5 a6 a7 a8 a9 a10 a11 a12 a13 a14 a15 a16 a17 a18 a19 a20 a21 a22 a23 a24 a25 a26 a27 a28 p28 p29)) a0 a1 a2 a3 a4 a5 a6 a7 a8 a9 a10 a11 a12 a13 a14 a15 a16 a17 a18 a19 a20 a21 a22 a23 a24 a25 a26 a27 a28 k a29 ([] : zL2))
def f123v1 := hid (@Qmm R)
theorem Qdc : @f123v1 R = @Qmm R := Q2
def f71d (k : Nat) (a0 : zL5) (K : zL5 → Bool → Option R) : Option R := match k with
 | 0 => none
 | k + 1 => (bif (decide ((a0.length : Int) > 0) == true) then (bif decide (0 < (a0.length : Int)) then (f104 k (fun r0_0 r0_1 => (bif ((((a0.getD 0 ((0 : Int), ((0 : Int), ()))).1, (((a0.getD 0 ((0 : Int), ((0 : Int), ()))).2).1, ())).1 == (r0_0, (r0_1, ())).1) && (((((a0.getD 0 ((0 : Int), ((0 : Int), ()))).1, (((a0.getD 0 ((0 : Int), ((0 : Int), ()))).2).1, ())).2).1 == ((r0_0, (r0_1, ())).2).1) && true)) then (bif decide (1 ≤ (a0.length : Int)) then (K (a0.drop 1) true) else none) else (K a0 false)))) else none) else (K a0 false))
def f71 := hid (@f71d R)
theorem Qzt : @f71 R = @f71d R := Q2
def Q9t (k : Nat) (xN : zL6 → Option R) (c6 : Bool) (c21 : zL6) (c22 c23 : Int) : Option R :=
 (bif c6 then (bif decide (c21.length + ([(c22, (c23, ()))] : zL6).length ≤ LIM 16) then (xN (c21 ++ ([(c22, (c23, ()))] : zL6))) else none) else (xN c21))
def Qf9 := hid (@Q9t R)
theorem Q7t : @Qf9 R = @Q9t R := Q2
def Qmg (k : Nat) (rec : Int → zL6 → Option R) (x0 : zL6 → Option R) (c0 : Bool) (c1 : zL5) (c2 : Bool) (c3 : zL5) (c4 c6 c7 : Int) (c8 : ByteArray) (c9 : List Int) (c10 : Int) (c11 : zL5) (c12 c13 c14 c15 : Int) (c16 : ByteArray) (c17 c18 c19 c5 : Int) (c20 : zL6) : Option R :=
 (bif decide (c5 < c4) then (bif (decide (0 ≤ c5) && decide (c5 < (c3.length : Int))) then (Qf9 k (fun p20 => (rec (IntKind.i64.wrap (c5 + 1)) p20)) (decide (((c3.getD (Int.toNat c5) ((0 : Int), ((0 : Int), ()))).2).1 ≤ c10)) c20 ((c3.getD (Int.toNat c5) ((0 : Int), ((0 : Int), ()))).1) (((c3.getD (Int.toNat c5) ((0 : Int), ((0 : Int), ()))).2).1)) else none) else (x0 c20))
def Q48 (k : Nat) (x0 : zL6 → Option R) (c0 : Bool) (c1 : zL5) (c2 : Bool) (c3 : zL5) (c4 c6 c7 : Int) (c8 : ByteArray) (c9 : List Int) (c10 : Int) (c11 : zL5) (c12 c13 c14 c15 : Int) (c16 : ByteArray) (c17 c18 c19 : Int) : Nat → Int → zL6 → Option R
 | 0, _, _ => none
 | m + 1, c5, c20 => Qmg k (Q48 k x0 c0 c1 c2 c3 c4 c6 c7 c8 c9 c10 c11 c12 c13 c14 c15 c16 c17 c18 c19 m) x0 c0 c1 c2 c3 c4 c6 c7 c8 c9 c10 c11 c12 c13 c14 c15 c16 c17 c18 c19 c5 c20
def Qyc := hid (@Q48 R)
theorem Qd7 : @Qyc R = @Q48 R := Q2
def Q9u (k : Nat) (xN : Int → Int → Option R) (c0 : Bool) (c1 c7 : Int) : Option R :=
 (bif c0 then (xN 1 0) else (xN c1 c7))
def Q6c := hid (@Q9u R)
theorem Q7u : @Q6c R = @Q9u R := Q2
def f117d (k : Nat) (a0 a1 : Int) (a2 : ByteArray) (a3 : List Int) (a4 : Int) (a5 : zL5) (a6 a7 : Int) (a8 : zL5) (K : zK5 R) : Option R := match k with
 | 0 => none
 | k + 1 => (f71 k a8 (fun r0_0 r0_1 => (f71 k a5 (fun r1_0 r1_1 => (Qyc k (fun y0_0_17 => (f86 k r1_0 y0_0_17 (fun r2_0 => (bif decide ((r2_0.length : Int) > 2000) then (K 0 0 (⟨#[]⟩ : ByteArray) ([] : List Int) 0 ([] : zL5) 0 0 2) else (bif (r1_1 == false) then (bif (r0_1 == true) then (f131 k r2_0 (a4 != (-1)) (fun r3_0 => (Q6c k (fun y16_N_0 y16_N_6 => (K y16_N_0 a1 a2 a3 a4 r3_0 y16_N_6 0 0)) (decide ((r3_0.length : Int) > 0)) a0 a6))) else (f131 k r2_0 false (fun r3_0 => (Q6c k (fun y16_N_0 y16_N_6 => (K y16_N_0 a1 a2 a3 a4 r3_0 y16_N_6 0 0)) (decide ((r3_0.length : Int) > 0)) a0 a6)))) else (f131 k r2_0 true (fun r3_0 => (Q6c k (fun y16_N_0 y16_N_6 => (K y16_N_0 a1 a2 a3 a4 r3_0 y16_N_6 0 0)) (decide ((r3_0.length : Int) > 0)) a0 a6)))))))) r0_1 r1_0 r1_1 r0_0 (r0_0.length : Int) a0 a1 a2 a3 a4 a5 a6 a7 0 0 (⟨#[]⟩ : ByteArray) 0 0 0 k 0 ([] : zL5))))))
def f117 := hid (@f117d R)
theorem Qqv : @f117 R = @f117d R := Q2
def Qg0 (k : Nat) (xN : zK6 R) (c0 : Bool) (c1 : Int) (c6 : zL5) (c7 : Int) : Option R :=
 (bif c0 then (xN 4 ([] : zL5) 0) else (xN c1 c6 c7))
def Qfz := hid (@Qg0 R)
theorem Qae : @Qfz R = @Qg0 R := Q2
def Qfy (k : Nat) (xN : zK6 R) (c0 : Bool) (c1 : Int) (c6 : zL5) (c7 c9 : Int) : Option R :=
 (bif c0 then (xN 3 ([] : zL5) 0) else (bif ((c9 == 5) == false) then (Qfz k (fun p0 p5 p6 => (xN p0 p5 p6)) (c9 == 6) c1 c6 c7) else (Qfz k (fun p0 p5 p6 => (xN p0 p5 p6)) true c1 c6 c7)))
def Qfx := hid (@Qfy R)
theorem Qad : @Qfx R = @Qfy R := Q2
def f90d (k : Nat) (a0 a1 : Int) (a2 : ByteArray) (a3 : List Int) (a4 : Int) (a5 : zL5) (a6 a7 a8 a9 : Int) (a10 : ByteArray) (a11 a12 a13 : Int) (a14 : List Int) (a15 : zL5) (a16 : Bool) (K : zK5 R) : Option R := match k with
 | 0 => none
 | k + 1 => (bif ((a9 != a1) == false) then (bif ((a0 == 3) == false) then (bif (a0 == 4) then (K a0 a1 a2 a3 a4 a5 a6 a7 0) else (bif (a8 == 4) then (f117 k a0 a1 a2 a3 a4 a5 a6 a7 a15 (fun r0_0 r0_1 r0_2 r0_3 r0_4 r0_5 r0_6 r0_7 r0_8 => (K r0_0 r0_1 r0_2 r0_3 r0_4 r0_5 r0_6 r0_7 r0_8))) else (bif ((a8 == 5) == true) then (Qfx k (fun p0 p5 p6 => (K p0 a1 a2 a3 a4 p5 p6 a7 0)) a16 a0 a5 a6 a8) else (Qfx k (fun p0 p5 p6 => (K p0 a1 a2 a3 a4 p5 p6 a7 0)) false a0 a5 a6 a8)))) else (K a0 a1 a2 a3 a4 a5 a6 a7 0)) else (K a0 a1 a2 a3 a4 a5 a6 a7 0))
def f90 := hid (@f90d R)
theorem Q10f : @f90 R = @f90d R := Q2
def f107d (k : Nat) (a0 a1 : Int) (a2 : ByteArray) (a3 : List Int) (a4 : Int) (a5 : zL5) (a6 a7 : Int) (K : zK7 R) : Option R := match k with
 | 0 => none
 | k + 1 => (f64 k a3 (fun r0_0 => (K 3 a1 (⟨#[]⟩ : ByteArray) (a3.length : Int) r0_0 0 false)))
def f107 := hid (@f107d R)
theorem Qqm : @f107 R = @f107d R := Q2
def f109d (k : Nat) (a0 : zL6) (K : zL6 → Option R) : Option R := match k with
 | 0 => none
 | _ + 1 => bif decide (a0.length ≤ LIM 16) then K a0 else none
def f109 := hid (@f109d R)
theorem Qqo : @f109 R = @f109d R := Q2
def f128d (k : Nat) (a0 a1 : Int) (a2 : ByteArray) (a3 : List Int) (a4 : Int) (a5 : zL5) (a6 a7 a8 a9 : Int) (K : zK8 R) : Option R := match k with
 | 0 => none
 | k + 1 => (bif (decide (0 ≤ a8) && (decide (a8 ≤ IntKind.i64.wrap (a8 + a9)) && decide (IntKind.i64.wrap (a8 + a9) ≤ (a3.length : Int)))) then (f77 k ((a3.take (Int.toNat (IntKind.i64.wrap (a8 + a9)))).drop (Int.toNat a8)) (fun r0_0 => (K 2 a1 (⟨#[]⟩ : ByteArray) 0 0 a8 false r0_0))) else none)
def f128 := hid (@f128d R)
theorem Qr5 : @f128 R = @f128d R := Q2
def Q9q (k : Nat) (xN : zL6 → Option R) (c0 : Bool) (c8 : zL6) : Option R :=
 (bif c0 then (bif decide (1 ≤ (c8.length : Int)) then (xN ((c8.drop 1).take (c8.length - 1))) else none) else (xN c8))
def Q91 := hid (@Q9q R)
theorem Q7q : @Q91 R = @Q9q R := Q2
def f108d (k : Nat) (a0 a1 a2 a3 a4 a5 a6 : Int) (a7 : ByteArray) (a8 : List Int) (a9 : Int) (a10 : zL5) (a11 a12 : Int) (K : zK9 R) : Option R := match k with
 | 0 => none
 | k + 1 => (bif (a9 == (-1)) then (f64 k a8 (fun r0_0 => (K a5 a6 a7 a8 0 a10 a11 a12 1 a6 a7 (a8.length : Int) r0_0 0 false ([] : List Int)))) else (bif (decide ((a10.length : Int) > 0) == true) then (bif decide (0 < (a10.length : Int)) then (f104 k (fun r1_0 r1_1 => (bif ((((a10.getD 0 ((0 : Int), ((0 : Int), ()))).1, (((a10.getD 0 ((0 : Int), ((0 : Int), ()))).2).1, ())).1 == (r1_0, (r1_1, ())).1) && (((((a10.getD 0 ((0 : Int), ((0 : Int), ()))).1, (((a10.getD 0 ((0 : Int), ((0 : Int), ()))).2).1, ())).2).1 == ((r1_0, (r1_1, ())).2).1) && true)) then (bif decide (1 ≤ (a10.length : Int)) then (f109 k (a10.drop 1) (fun r2_0 => (f64 k a8 (fun r3_0 => (K a5 a6 a7 a8 a9 r2_0 a11 a12 1 a6 a7 (a8.length : Int) r3_0 0 false ([] : List Int)))))) else none) else (bif decide ((a10.length : Int) > 0) then (bif decide (0 < (a10.length : Int)) then (f128 k a5 a6 a7 a8 a9 a10 a11 a12 ((a10.getD 0 ((0 : Int), ((0 : Int), ()))).1) (if a0 < IntKind.i64.wrap ((((a10.getD 0 ((0 : Int), ((0 : Int), ()))).2).1) - ((a10.getD 0 ((0 : Int), ((0 : Int), ()))).1)) then a0 else IntKind.i64.wrap ((((a10.getD 0 ((0 : Int), ((0 : Int), ()))).2).1) - ((a10.getD 0 ((0 : Int), ((0 : Int), ()))).1))) (fun r4_0 r4_1 r4_2 r4_3 r4_4 r4_5 r4_6 r4_7 => (f109 k a10 (fun r5_0 => (bif decide (0 < (r5_0.length : Int)) then (bif decide (0 < (r5_0.length : Int)) then (bif decide (0 < ((r5_0.set 0 (IntKind.i64.wrap (((r5_0.getD 0 ((0 : Int), ((0 : Int), ()))).1) + (if a0 < IntKind.i64.wrap ((((a10.getD 0 ((0 : Int), ((0 : Int), ()))).2).1) - ((a10.getD 0 ((0 : Int), ((0 : Int), ()))).1)) then a0 else IntKind.i64.wrap ((((a10.getD 0 ((0 : Int), ((0 : Int), ()))).2).1) - ((a10.getD 0 ((0 : Int), ((0 : Int), ()))).1)))), (((r5_0.getD 0 ((0 : Int), ((0 : Int), ()))).2).1, ()))).length : Int)) then (Q91 k (fun p7 => (K a5 a6 a7 a8 a9 p7 a11 a12 r4_0 r4_1 r4_2 r4_3 r4_4 r4_5 r4_6 r4_7)) (((r5_0.set 0 (IntKind.i64.wrap (((r5_0.getD 0 ((0 : Int), ((0 : Int), ()))).1) + (if a0 < IntKind.i64.wrap ((((a10.getD 0 ((0 : Int), ((0 : Int), ()))).2).1) - ((a10.getD 0 ((0 : Int), ((0 : Int), ()))).1)) then a0 else IntKind.i64.wrap ((((a10.getD 0 ((0 : Int), ((0 : Int), ()))).2).1) - ((a10.getD 0 ((0 : Int), ((0 : Int), ()))).1)))), (((r5_0.getD 0 ((0 : Int), ((0 : Int), ()))).2).1, ()))).getD 0 ((0 : Int), ((0 : Int), ()))).1 == ((a10.getD 0 ((0 : Int), ((0 : Int), ()))).2).1) (r5_0.set 0 (IntKind.i64.wrap (((r5_0.getD 0 ((0 : Int), ((0 : Int), ()))).1) + (if a0 < IntKind.i64.wrap ((((a10.getD 0 ((0 : Int), ((0 : Int), ()))).2).1) - ((a10.getD 0 ((0 : Int), ((0 : Int), ()))).1)) then a0 else IntKind.i64.wrap ((((a10.getD 0 ((0 : Int), ((0 : Int), ()))).2).1) - ((a10.getD 0 ((0 : Int), ((0 : Int), ()))).1)))), (((r5_0.getD 0 ((0 : Int), ((0 : Int), ()))).2).1, ())))) else none) else none) else none))))) else none) else (bif decide (a9 < (a8.length : Int)) then (f128 k a5 a6 a7 a8 a9 a10 a11 a12 a9 (if a0 < IntKind.i64.wrap ((a8.length : Int) - a9) then a0 else IntKind.i64.wrap ((a8.length : Int) - a9)) (fun r6_0 r6_1 r6_2 r6_3 r6_4 r6_5 r6_6 r6_7 => (K a5 a6 a7 a8 (IntKind.i64.wrap (a9 + (if a0 < IntKind.i64.wrap ((a8.length : Int) - a9) then a0 else IntKind.i64.wrap ((a8.length : Int) - a9)))) a10 a11 a12 r6_0 r6_1 r6_2 r6_3 r6_4 r6_5 r6_6 r6_7))) else (f107 k 2 a6 a7 a8 a9 a10 a3 a12 (fun r7_0 r7_1 r7_2 r7_3 r7_4 r7_5 r7_6 => (K 2 a6 a7 a8 a9 a10 a3 a12 r7_0 r7_1 r7_2 r7_3 r7_4 r7_5 r7_6 ([] : List Int))))))))) else none) else (bif decide ((a10.length : Int) > 0) then (bif decide (0 < (a10.length : Int)) then (f128 k a5 a6 a7 a8 a9 a10 a11 a12 ((a10.getD 0 ((0 : Int), ((0 : Int), ()))).1) (if a0 < IntKind.i64.wrap ((((a10.getD 0 ((0 : Int), ((0 : Int), ()))).2).1) - ((a10.getD 0 ((0 : Int), ((0 : Int), ()))).1)) then a0 else IntKind.i64.wrap ((((a10.getD 0 ((0 : Int), ((0 : Int), ()))).2).1) - ((a10.getD 0 ((0 : Int), ((0 : Int), ()))).1))) (fun r4_0 r4_1 r4_2 r4_3 r4_4 r4_5 r4_6 r4_7 => (f109 k a10 (fun r5_0 => (bif decide (0 < (r5_0.length : Int)) then (bif decide (0 < (r5_0.length : Int)) then (bif decide (0 < ((r5_0.set 0 (IntKind.i64.wrap (((r5_0.getD 0 ((0 : Int), ((0 : Int), ()))).1) + (if a0 < IntKind.i64.wrap ((((a10.getD 0 ((0 : Int), ((0 : Int), ()))).2).1) - ((a10.getD 0 ((0 : Int), ((0 : Int), ()))).1)) then a0 else IntKind.i64.wrap ((((a10.getD 0 ((0 : Int), ((0 : Int), ()))).2).1) - ((a10.getD 0 ((0 : Int), ((0 : Int), ()))).1)))), (((r5_0.getD 0 ((0 : Int), ((0 : Int), ()))).2).1, ()))).length : Int)) then (Q91 k (fun p7 => (K a5 a6 a7 a8 a9 p7 a11 a12 r4_0 r4_1 r4_2 r4_3 r4_4 r4_5 r4_6 r4_7)) (((r5_0.set 0 (IntKind.i64.wrap (((r5_0.getD 0 ((0 : Int), ((0 : Int), ()))).1) + (if a0 < IntKind.i64.wrap ((((a10.getD 0 ((0 : Int), ((0 : Int), ()))).2).1) - ((a10.getD 0 ((0 : Int), ((0 : Int), ()))).1)) then a0 else IntKind.i64.wrap ((((a10.getD 0 ((0 : Int), ((0 : Int), ()))).2).1) - ((a10.getD 0 ((0 : Int), ((0 : Int), ()))).1)))), (((r5_0.getD 0 ((0 : Int), ((0 : Int), ()))).2).1, ()))).getD 0 ((0 : Int), ((0 : Int), ()))).1 == ((a10.getD 0 ((0 : Int), ((0 : Int), ()))).2).1) (r5_0.set 0 (IntKind.i64.wrap (((r5_0.getD 0 ((0 : Int), ((0 : Int), ()))).1) + (if a0 < IntKind.i64.wrap ((((a10.getD 0 ((0 : Int), ((0 : Int), ()))).2).1) - ((a10.getD 0 ((0 : Int), ((0 : Int), ()))).1)) then a0 else IntKind.i64.wrap ((((a10.getD 0 ((0 : Int), ((0 : Int), ()))).2).1) - ((a10.getD 0 ((0 : Int), ((0 : Int), ()))).1)))), (((r5_0.getD 0 ((0 : Int), ((0 : Int), ()))).2).1, ())))) else none) else none) else none))))) else none) else (bif decide (a9 < (a8.length : Int)) then (f128 k a5 a6 a7 a8 a9 a10 a11 a12 a9 (if a0 < IntKind.i64.wrap ((a8.length : Int) - a9) then a0 else IntKind.i64.wrap ((a8.length : Int) - a9)) (fun r6_0 r6_1 r6_2 r6_3 r6_4 r6_5 r6_6 r6_7 => (K a5 a6 a7 a8 (IntKind.i64.wrap (a9 + (if a0 < IntKind.i64.wrap ((a8.length : Int) - a9) then a0 else IntKind.i64.wrap ((a8.length : Int) - a9)))) a10 a11 a12 r6_0 r6_1 r6_2 r6_3 r6_4 r6_5 r6_6 r6_7))) else (f107 k 2 a6 a7 a8 a9 a10 a3 a12 (fun r7_0 r7_1 r7_2 r7_3 r7_4 r7_5 r7_6 => (K 2 a6 a7 a8 a9 a10 a3 a12 r7_0 r7_1 r7_2 r7_3 r7_4 r7_5 r7_6 ([] : List Int))))))))
def f108 := hid (@f108d R)
theorem Qqn : @f108 R = @f108d R := Q2
def Q102 (k : Nat) (rec x0 : zK10 R) (c0 c1 c2 c3 c4 c13 c14 : Int) (c15 : ByteArray) (c16 c17 c18 c5 c6 : Int) (c7 : ByteArray) (c8 : List Int) (c9 : Int) (c10 : zL5) (c11 c12 : Int) (c19 : zL3) : Option R :=
 (bif (decide ((c19.length : Int) < c2) == true) then (bif (c5 == 1) then (f108 k c0 c1 c2 c3 c4 c5 c6 c7 c8 c9 c10 c11 c12 (fun r0_0 r0_1 r0_2 r0_3 r0_4 r0_5 r0_6 r0_7 r0_8 r0_9 r0_10 r0_11 r0_12 r0_13 r0_14 r0_15 => (bif decide (c19.length + ([(r0_8, (r0_9, (r0_10, (r0_11, (r0_12, (r0_13, (r0_15, (([] : zL5), (r0_14, ())))))))))] : zL3).length ≤ LIM 112) then (rec r0_0 r0_1 r0_2 r0_3 r0_4 r0_5 r0_6 r0_7 (c19 ++ ([(r0_8, (r0_9, (r0_10, (r0_11, (r0_12, (r0_13, (r0_15, (([] : zL5), (r0_14, ())))))))))] : zL3))) else none))) else (x0 c5 c6 c7 c8 c9 c10 c11 c12 c19)) else (x0 c5 c6 c7 c8 c9 c10 c11 c12 c19))
def Q8g (k : Nat) (x0 : zK10 R) (c0 c1 c2 c3 c4 c13 c14 : Int) (c15 : ByteArray) (c16 c17 c18 : Int) : Nat → Int → Int → ByteArray → List Int → Int → zL5 → Int → Int → zL3 → Option R
 | 0, _, _, _, _, _, _, _, _, _ => none
 | m + 1, c5, c6, c7, c8, c9, c10, c11, c12, c19 => Q102 k (Q8g k x0 c0 c1 c2 c3 c4 c13 c14 c15 c16 c17 c18 m) x0 c0 c1 c2 c3 c4 c13 c14 c15 c16 c17 c18 c5 c6 c7 c8 c9 c10 c11 c12 c19
def f79_0 := hid (@Q8g R)
theorem Qj9 : @f79_0 R = @Q8g R := Q2
def f79d (k : Nat) (a0 a1 a2 a3 a4 a5 a6 : Int) (a7 : ByteArray) (a8 : List Int) (a9 : Int) (a10 : zL5) (a11 a12 : Int) (K : zK10 R) : Option R := match k with
 | 0 => none
 | k + 1 => (bif (a5 == 2) then (bif decide (IntKind.i64.wrap (a11 - 1) > 0) then (K a5 a6 a7 a8 a9 a10 (IntKind.i64.wrap (a11 - 1)) a12 ([] : zL2)) else (bif decide (a12 ≥ a4) then (K 4 a6 a7 a8 a9 a10 (IntKind.i64.wrap (a11 - 1)) a12 ([((6 : Int), (a6, ((⟨#[]⟩ : ByteArray), ((0 : Int), ((0 : Int), ((0 : Int), (([] : List Int), (([] : zL5), (false, ())))))))))] : zL3)) else (f107 k a5 a6 a7 a8 a9 a10 a3 (IntKind.i64.wrap (a12 + 1)) (fun r0_0 r0_1 r0_2 r0_3 r0_4 r0_5 r0_6 => (K a5 a6 a7 a8 a9 a10 a3 (IntKind.i64.wrap (a12 + 1)) ([(r0_0, (r0_1, (r0_2, (r0_3, (r0_4, (r0_5, (([] : List Int), (([] : zL5), (r0_6, ())))))))))] : zL3)))))) else (f79_0 k (fun p0 p1 p2 p3 p4 p5 p6 p7 p14 => (K p0 p1 p2 p3 p4 p5 p6 p7 p14)) a0 a1 a2 a3 a4 0 0 (⟨#[]⟩ : ByteArray) 0 0 0 k a5 a6 a7 a8 a9 a10 a11 a12 ([] : zL2)))
def f79 := hid (@f79d R)
theorem Q103 : @f79 R = @f79d R := Q2
def Q2l (k : Nat) (xN : zL1 → Option R) (c0 : Int) (c4 : Bool) (c32 : zL1) (c34 c35 : Int) (c36 : ByteArray) (c37 c38 c39 : Int) (c40 : List Int) (c41 : zL5) (c42 : Bool) : Option R :=
 (bif c4 then (bif decide (c32.length + ([(c0, ((c34, (c35, (c36, (c37, (c38, (c39, (c40, (c41, (c42, ()))))))))), ()))] : zL1).length ≤ LIM 120) then (xN (c32 ++ ([(c0, ((c34, (c35, (c36, (c37, (c38, (c39, (c40, (c41, (c42, ()))))))))), ()))] : zL1))) else none) else (xN c32))
def Q52 := hid (@Q2l R)
theorem Q22 : @Q52 R = @Q2l R := Q2
def Q4e (k : Nat) (rec : zK3 R) (x0 : Int → zL1 → Option R) (c0 : Int) (c1 : zL2) (c2 c4 c5 c6 c7 c8 c9 c10 : Int) (c11 : ByteArray) (c12 : List Int) (c13 : Int) (c14 : zL5) (c15 c16 c17 c18 : Int) (c19 : ByteArray) (c20 : List Int) (c21 : zL5) (c22 c23 c24 c25 : Int) (c26 c28 : List Bool) (c29 c30 : Int) (c32 : zL1) (c3 c27 : Int) (c31 : zL1) : Option R :=
 (bif decide (c3 < c2) then (bif (decide (0 ≤ c3) && decide (c3 < (c1.length : Int))) then (bif (decide (c27 ≥ (c26.length : Int)) == false) then (bif (decide (0 ≤ c27) && decide (c27 < (c26.length : Int))) then (Q52 k (fun p31 => (rec (IntKind.i64.wrap (c3 + 1)) (IntKind.i64.wrap (c27 + 1)) p31)) c0 (!(c26.getD (Int.toNat c27) false)) c31 ((c1.getD (Int.toNat c3) zD0).1) (((c1.getD (Int.toNat c3) zD0).2).1) ((((c1.getD (Int.toNat c3) zD0).2).2).1) (((((c1.getD (Int.toNat c3) zD0).2).2).2).1) ((((((c1.getD (Int.toNat c3) zD0).2).2).2).2).1) (((((((c1.getD (Int.toNat c3) zD0).2).2).2).2).2).1) ((((((((c1.getD (Int.toNat c3) zD0).2).2).2).2).2).2).1) (((((((((c1.getD (Int.toNat c3) zD0).2).2).2).2).2).2).2).1) ((((((((((c1.getD (Int.toNat c3) zD0).2).2).2).2).2).2).2).2).1)) else none) else (Q52 k (fun p31 => (rec (IntKind.i64.wrap (c3 + 1)) (IntKind.i64.wrap (c27 + 1)) p31)) c0 true c31 ((c1.getD (Int.toNat c3) zD0).1) (((c1.getD (Int.toNat c3) zD0).2).1) ((((c1.getD (Int.toNat c3) zD0).2).2).1) (((((c1.getD (Int.toNat c3) zD0).2).2).2).1) ((((((c1.getD (Int.toNat c3) zD0).2).2).2).2).1) (((((((c1.getD (Int.toNat c3) zD0).2).2).2).2).2).1) ((((((((c1.getD (Int.toNat c3) zD0).2).2).2).2).2).2).1) (((((((((c1.getD (Int.toNat c3) zD0).2).2).2).2).2).2).2).1) ((((((((((c1.getD (Int.toNat c3) zD0).2).2).2).2).2).2).2).2).1))) else none) else (x0 c27 c31))
def Q1c (k : Nat) (x0 : Int → zL1 → Option R) (c0 : Int) (c1 : zL2) (c2 c4 c5 c6 c7 c8 c9 c10 : Int) (c11 : ByteArray) (c12 : List Int) (c13 : Int) (c14 : zL5) (c15 c16 c17 c18 : Int) (c19 : ByteArray) (c20 : List Int) (c21 : zL5) (c22 c23 c24 c25 : Int) (c26 c28 : List Bool) (c29 c30 : Int) (c32 : zL1) : Nat → Int → Int → zL1 → Option R
 | 0, _, _, _ => none
 | m + 1, c3, c27, c31 => Q4e k (Q1c k x0 c0 c1 c2 c4 c5 c6 c7 c8 c9 c10 c11 c12 c13 c14 c15 c16 c17 c18 c19 c20 c21 c22 c23 c24 c25 c26 c28 c29 c30 c32 m) x0 c0 c1 c2 c4 c5 c6 c7 c8 c9 c10 c11 c12 c13 c14 c15 c16 c17 c18 c19 c20 c21 c22 c23 c24 c25 c26 c28 c29 c30 c32 c3 c27 c31
def Qfi := hid (@Q1c R)
theorem Q81 : @Qfi R = @Q1c R := Q2
def Qmo (k : Nat) (a0 : Int) (a1 : zL2) (a2 a3 a4 a5 a6 a7 a8 : Int) (a9 : ByteArray) (a10 : List Int) (a11 : Int) (a12 : zL5) (a13 a14 a15 a16 : Int) (a17 : ByteArray) (a18 : List Int) (a19 : zL5) (a20 a21 a22 a23 : Int) (a24 : List Bool) (a25 : Int) (a26 : List Bool) (a27 a28 : Int) (a29 a30 : zL1) (K : zK4 R) : Option R := match k with
 | 0 => none
 | k + 1 => (Qfi k (fun p23 p27 => (K a2 a3 a4 a5 a6 a7 a8 a9 a10 a11 a12 a13 a14 a15 a16 a17 a18 a19 a20 a21 a22 a23 a24 p23 a26 a27 a28 p27 a30)) a0 a1 (a1.length : Int) a2 a3 a4 a5 a6 a7 a8 a9 a10 a11 a12 a13 a14 a15 a16 a17 a18 a19 a20 a21 a22 a23 a24 a26 a27 a28 a30 k 0 a25 a29)
def f124v1 := hid (@Qmo R)
theorem Qde : @f124v1 R = @Qmo R := Q2
def f82d (k : Nat) (a0 a1 a2 a3 a4 a5 a6 : Int) (a7 : ByteArray) (a8 : List Int) (a9 : zL5) (a10 a11 a12 a13 : Int) (K : zK2 R) : Option R := match k with
 | 0 => none
 | k + 1 => (bif (a5 != 2) then (K a5 a6 a7 a8 a9 a10 a11 a12 a13 0 ([] : zL2)) else (bif decide (IntKind.i64.wrap (a12 - 1) > 0) then (K a5 a6 a7 a8 a9 a10 a11 (IntKind.i64.wrap (a12 - 1)) a13 0 ([] : zL2)) else (bif decide (a13 ≥ a4) then (K 4 a6 a7 a8 a9 a10 a11 (IntKind.i64.wrap (a12 - 1)) a13 0 ([((6 : Int), (a6, ((⟨#[]⟩ : ByteArray), ((0 : Int), ((0 : Int), ((0 : Int), (([] : List Int), (([] : zL5), (false, ())))))))))] : zL3)) else (f112 k a5 a6 a7 a8 a9 a10 a11 (IntKind.i64.wrap (a12 - 1)) a13 (fun r0_0 r0_1 => (bif (r0_1 != 0) then (K 0 0 (⟨#[]⟩ : ByteArray) ([] : List Int) ([] : zL5) 0 0 0 0 r0_1 ([] : zL2)) else (K a5 a6 a7 a8 a9 a10 a11 a3 (IntKind.i64.wrap (a13 + 1)) 0 ([((4 : Int), (a6, ((⟨#[]⟩ : ByteArray), ((0 : Int), ((0 : Int), ((0 : Int), (([] : List Int), (r0_0, (false, ())))))))))] : zL3))))))))
def f82 := hid (@f82d R)
theorem Q106 : @f82 R = @f82d R := Q2
end
end Go.Proofs.Ytlcklflbhhnnhaa.PM
