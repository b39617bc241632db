import Derived.Test.YtecnlienmpdlaaaGreatPmE
import Derived.Test.YtecnlienmpdlaaaGreatSkD
set_option linter.unusedVariables false
set_option linter.unusedSimpArgs false
set_option maxRecDepth 100000
namespace Go.Proofs.YtecnlienmpdlaaaGreat.PM
open Go
noncomputable section
variable {R : Type}
abbrev zL0 := List (Int × List ((Int × ((Int × (Bool × (BA × (Int × (Bool × (LI × Unit)))))) × Unit))))
abbrev zL1 := List ((Int × ((Int × (Bool × (BA × (Int × (Bool × (LI × Unit)))))) × Unit)))
abbrev zL2 := List (Int × ((Int × (Bool × (BA × (Int × (Bool × (LI × Unit)))))) × Unit))
abbrev zL4 := List (Int × (Int × (Bool × (Bool × Unit))))
abbrev zT2 : Ty := .slice (.int .u8)
abbrev zi (x : Int) : PV := .val [] (.int .i64) x
abbrev zP0 : Ty := .prod (.int .i64) (.prod (.prod (.int .i64) (.prod .bool (.prod .str (.prod (.int .i64) (.prod .bool (.prod zT2 .unit)))))) .unit)
abbrev zP1 : Ty := .slice (.int .i64)
abbrev zP2 : Ty := .prod (.int .i64) (.prod (.int .i64) (.prod .bool (.prod .bool .unit)))
abbrev zP3 : Ty := .slice zP0
abbrev zP4 : Ty := .prod (.int .i64) (.prod .str .unit)
theorem hidx {α : Sort _} (x : α) : ∃ y, y = x := ⟨x, rfl⟩
def hid {α : Sort _} (x : α) : α := Classical.choose (hidx x)
theorem Q3 {α : Sort _} {x : α} : hid x = x := Classical.choose_spec (hidx x)
abbrev zK0 (R : Type) := Int → Int → Bool → BA → Int → Bool → LI → Oq R
abbrev zK1 (R : Type) := Int → Int → Int → LI → LI → LI → Int → LI → zL2 → Oq R
abbrev zK2 (R : Type) := Int → Int → Int → Int → LI → LI → LI → LI → zL1 → Int → Oq R
abbrev zK3 (R : Type) := Int → LI → Int → Int → Int → LI → LI → LI → LI → zL1 → Int → Oq R
abbrev zK4 (R : Type) := LI → Int → Int → Int → LI → LI → LI → LI → zL1 → Int → Oq R
abbrev zK5 (R : Type) := Int → Int → LI → Int → Int → Int → LI → LI → LI → LI → zL1 → Int → Oq R
abbrev zK6 (R : Type) := Int → Int → Int → Int → Int → LI → LI → LI → LI → zL1 → Int → Oq R
abbrev zK7 (R : Type) := Int → Int → Bool → Bool → Bool → zL2 → Oq R
abbrev zK8 (R : Type) := Int → Bool → BA → Int → Bool → LI → Bool → Oq R
abbrev zK9 (R : Type) := Int → Int → Bool → Bool → Bool → Oq R
def f63d (k : Nat) (a0 a1 a2 : Int) (K : Bool → Oq R) : Oq R := match k with
 | 0 => none
 | k + 1 => (bif (decide (a1 ≤ a0) == true) then (K (decide (a0 ≤ a2))) else (K false))
def f63 := hid (@f63d R)
theorem Q11z : @f63 R = @f63d R := Q3
def f62d (k : Nat) (a0 a1 a2 : Int) (a3 a4 a5 : LI) (K : Int → Oq R) : Oq R := match k with
 | 0 => none
 | k + 1 => (f63 k a0 1 64 (fun r0_0 => (bif ((!r0_0) == false) then (f63 k a1 1 64 (fun r1_0 => (bif ((!r1_0) == false) then (f63 k a2 64 1024 (fun r2_0 => (bif (!r2_0) then (K 1) else (bif decide (IntKind.i64.wrap ((IntKind.i64.wrap (a0 * a1)) * a2) > 262144) then (K 2) else (K 0))))) else (K 1)))) else (K 1))))
def f62 := hid (@f62d R)
theorem Q11y : @f62 R = @f62d R := Q3
def Q120 (k : Nat) (rec K : Int → Oq R) (x0 : Oq R) (c0 : LI) (c1 c3 c4 c5 : Int) (c6 c7 c8 : LI) (c2 : Int) : Oq R :=
 (bif decide (c2 < c1) then (bif (decide (0 ≤ c2) && decide (c2 < (c0.length : Int))) then (f63 k (c0.getD c2.toNat 0) 0 (IntKind.i64.wrap (c3 - 1)) (fun r0_0 => (bif (!r0_0) then (K 1) else (bif (decide (c2 > 0) == true) then (bif (decide (0 ≤ IntKind.i64.wrap (c2 - 1)) && decide (IntKind.i64.wrap (c2 - 1) < (c8.length : Int))) then (bif decide ((c0.getD c2.toNat 0) ≤ (c8.getD (Int.toNat (IntKind.i64.wrap (c2 - 1))) 0)) then (K 8) else (rec (IntKind.i64.wrap (c2 + 1)))) else none) else (rec (IntKind.i64.wrap (c2 + 1))))))) else none) else x0)
def Qaa (k : Nat) (K : Int → Oq R) (x0 : Oq R) (c0 : LI) (c1 c3 c4 c5 : Int) (c6 c7 c8 : LI) : Nat → Int → Oq R
 | 0, _ => none
 | m + 1, c2 => Q120 k (Qaa k K x0 c0 c1 c3 c4 c5 c6 c7 c8 m) K x0 c0 c1 c3 c4 c5 c6 c7 c8 c2
def f64_0 := hid (@Qaa R)
theorem Qks : @f64_0 R = @Qaa R := Q3
def f64d (k : Nat) (a0 a1 a2 : Int) (a3 a4 a5 : LI) (K : Int → Oq R) : Oq R := match k with
 | 0 => none
 | k + 1 => (f64_0 k K (K 0) a5 (a5.length : Int) a0 a1 a2 a3 a4 a5 k 0)
def f64 := hid (@f64d R)
theorem Q121 : @f64 R = @f64d R := Q3
def Q117 (k : Nat) (rec K : Int → Oq R) (x0 : Oq R) (c0 : LI) (c1 c3 c4 c5 : Int) (c6 c7 c8 : LI) (c2 : Int) : Oq R :=
 (bif decide (c2 < c1) then (bif (decide (0 ≤ c2) && decide (c2 < (c0.length : Int))) then (f63 k (c0.getD c2.toNat 0) 0 1000000 (fun r0_0 => (bif (!r0_0) then (K 1) else (rec (IntKind.i64.wrap (c2 + 1)))))) else none) else x0)
def Qa3 (k : Nat) (K : Int → Oq R) (x0 : Oq R) (c0 : LI) (c1 c3 c4 c5 : Int) (c6 c7 c8 : LI) : Nat → Int → Oq R
 | 0, _ => none
 | m + 1, c2 => Q117 k (Qa3 k K x0 c0 c1 c3 c4 c5 c6 c7 c8 m) K x0 c0 c1 c3 c4 c5 c6 c7 c8 c2
def f19_0 := hid (@Qa3 R)
theorem Qkj : @f19_0 R = @Qa3 R := Q3
def f19d (k : Nat) (a0 a1 a2 : Int) (a3 a4 a5 : LI) (K : Int → Oq R) : Oq R := match k with
 | 0 => none
 | k + 1 => (f62 k a0 a1 a2 a3 a4 a5 (fun r0_0 => (bif (r0_0 != 0) then (K r0_0) else (bif (((a3.length : Int) != IntKind.i64.wrap ((IntKind.i64.wrap (a0 * a1)) * a2)) == false) then (bif ((a4.length : Int) != a0) then (K 3) else (f19_0 k K (f64 k a0 a1 a2 a3 a4 a5 (fun r1_0 => (K r1_0))) a4 (a4.length : Int) a0 a1 a2 a3 a4 a5 k 0)) else (K 3)))))
def f19 := hid (@f19d R)
theorem Q118 : @f19 R = @f19d R := Q3
def Qo2 (k : Nat) (rec K : Int → Oq R) (x0 : Oq R) (c0 : LI) (c1 c2 c3 : Int) : Oq R :=
 (bif decide (c3 < c2) then (bif (decide (0 ≤ c3) && decide (c3 < (c0.length : Int))) then (bif (c1 == (c0.getD c3.toNat 0)) then (K c3) else (rec (IntKind.i64.wrap (c3 + 1)))) else none) else x0)
def Q56 (k : Nat) (K : Int → Oq R) (x0 : Oq R) (c0 : LI) (c1 c2 : Int) : Nat → Int → Oq R
 | 0, _ => none
 | m + 1, c3 => Qo2 k (Q56 k K x0 c0 c1 c2 m) K x0 c0 c1 c2 c3
def Q10s := hid (@Q56 R)
theorem Qep : @Q10s R = @Q56 R := Q3
def f131d (k : Nat) (a0 : LI) (a1 : Int) (K : Int → Oq R) : Oq R := match k with
 | 0 => none
 | k + 1 => (Q10s k K (K (-1)) a0 a1 (a0.length : Int) k 0)
def f131 := hid (@f131d R)
theorem Qrl : @f131 R = @f131d R := Q3
def f96d (k : Nat) (a0 : LI) (a1 : Int) (K : Bool → Oq R) : Oq R := match k with
 | 0 => none
 | k + 1 => (f131 k a0 a1 (fun r0_0 => (K (decide (r0_0 ≥ 0)))))
def f96 := hid (@f96d R)
theorem Q130 : @f96 R = @f96d R := Q3
def f84d (k : Nat) (a0 a1 a2 : Int) (a3 a4 a5 : LI) (a6 : Int) (K : LI → Oq R) : Oq R := match k with
 | 0 => none
 | k + 1 => (bif (decide (0 ≤ IntKind.i64.wrap (a6 * a2)) && (decide (IntKind.i64.wrap (a6 * a2) ≤ IntKind.i64.wrap ((IntKind.i64.wrap (a6 + 1)) * a2)) && decide (IntKind.i64.wrap ((IntKind.i64.wrap (a6 + 1)) * a2) ≤ (a3.length : Int)))) then (K ((a3.take (Int.toNat (IntKind.i64.wrap ((IntKind.i64.wrap (a6 + 1)) * a2)))).drop (Int.toNat (IntKind.i64.wrap (a6 * a2))))) else none)
def f84 := hid (@f84d R)
theorem Q12w : @f84 R = @f84d R := Q3
def f134d (k : Nat) (a0 : Int) (K : Bool → Oq R) : Oq R := match k with
 | 0 => none
 | k + 1 => (K (a0 != 255))
def f134 := hid (@f134d R)
theorem Qro : @f134 R = @f134d R := Q3
def Qo7 (k : Nat) (rec K : Int → Oq R) (x0 : Oq R) (c0 : LI) (c1 c2 : Int) : Oq R :=
 (bif decide (c2 < c1) then (bif (decide (0 ≤ c2) && decide (c2 < (c0.length : Int))) then (f134 k (c0.getD c2.toNat 0) (fun r0_0 => (bif r0_0 then (K c2) else (rec (IntKind.i64.wrap (c2 + 1)))))) else none) else x0)
def Q5a (k : Nat) (K : Int → Oq R) (x0 : Oq R) (c0 : LI) (c1 : Int) : Nat → Int → Oq R
 | 0, _ => none
 | m + 1, c2 => Qo7 k (Q5a k K x0 c0 c1 m) K x0 c0 c1 c2
def Q10y := hid (@Q5a R)
theorem Qeu : @Q10y R = @Q5a R := Q3
def f146d (k : Nat) (a0 : LI) (K : Int → Oq R) : Oq R := match k with
 | 0 => none
 | k + 1 => (Q10y k K (K (-1)) a0 (a0.length : Int) k 0)
def f146 := hid (@f146d R)
theorem Qru : @f146 R = @f146d R := Q3
def f133d (k : Nat) (a0 : LI) (K : Bool → Oq R) : Oq R := match k with
 | 0 => none
 | k + 1 => (f146 k a0 (fun r0_0 => (K (decide (r0_0 ≥ 0)))))
def f133 := hid (@f133d R)
theorem Qrn : @f133 R = @f133d R := Q3
def f98d (k : Nat) (a0 : LI) (K : Bool → Oq R) : Oq R := match k with
 | 0 => none
 | k + 1 => (f133 k a0 (fun r0_0 => (K (!r0_0))))
def f98 := hid (@f98d R)
theorem Q132 : @f98 R = @f98d R := Q3
def f99d (k : Nat) (a0 : LI) (K : Int → Oq R) : Oq R := match k with
 | 0 => none
 | k + 1 => (bif decide (0 < (a0.length : Int)) then (bif decide (1 < (a0.length : Int)) then (bif decide (2 < (a0.length : Int)) then (bif decide (3 < (a0.length : Int)) then (K (bits .or .i64 (bits .or .i64 (bits .or .i64 (IntKind.i64.wrap ((IntKind.i64.wrap (a0.getD 0 0)) * 2 ^ 24)) (IntKind.i64.wrap ((IntKind.i64.wrap (a0.getD 1 0)) * 2 ^ 16))) (IntKind.i64.wrap ((IntKind.i64.wrap (a0.getD 2 0)) * 2 ^ 8))) (IntKind.i64.wrap (a0.getD 3 0)))) else none) else none) else none) else none)
def f99 := hid (@f99d R)
theorem Q133 : @f99 R = @f99d R := Q3
def f83d (k : Nat) (a0 : LI) (K : LI → Oq R) : Oq R := match k with
 | 0 => none
 | _ + 1 => bif decide (a0.length ≤ LIM 1) then K a0 else none
def f83 := hid (@f83d R)
theorem Q12v : @f83 R = @f83d R := Q3
def Qo1 (k : Nat) (rec : Int → Oq R) (K : Bool → Oq R) (x0 : Oq R) (c0 : BA) (c1 c2 : Int) : Oq R :=
 (bif decide (c2 < c1) then (bif (decide (0 ≤ c2) && decide (c2 < (c0.size : Int))) then (bif (decide (((bytesOf c0).getD c2.toNat 0) < 33) == false) then (bif (decide (0 ≤ c2) && decide (c2 < (c0.size : Int))) then (bif decide (((bytesOf c0).getD c2.toNat 0) > 126) then (K false) else (rec (IntKind.i64.wrap (c2 + 1)))) else none) else (K false)) else none) else x0)
def Q55 (k : Nat) (K : Bool → Oq R) (x0 : Oq R) (c0 : BA) (c1 : Int) : Nat → Int → Oq R
 | 0, _ => none
 | m + 1, c2 => Qo1 k (Q55 k K x0 c0 c1 m) K x0 c0 c1 c2
def Q10r := hid (@Q55 R)
theorem Qeo : @Q10r R = @Q55 R := Q3
def f130d (k : Nat) (a0 : BA) (K : Bool → Oq R) : Oq R := match k with
 | 0 => none
 | k + 1 => (bif ((a0.toList == (⟨#[]⟩ : BA).toList) == false) then (bif decide ((a0.size : Int) > 40) then (K false) else (Q10r k K (K true) a0 (a0.size : Int) k 0)) else (K false))
def f130 := hid (@f130d R)
theorem Qrk : @f130 R = @f130d R := Q3
def f95d (k : Nat) (a0 : BA) (K : Bool → Oq R) : Oq R := match k with
 | 0 => none
 | k + 1 => (f130 k a0 (fun r0_0 => (bif (r0_0 == true) then (K (decide ((a0.size : Int) ≤ 32))) else (K false))))
def f95 := hid (@f95d R)
theorem Q12z : @f95 R = @f95d R := Q3
def f145d (k : Nat) (a0 a1 : Int) (K : Int → Int → Oq R) : Oq R := match k with
 | 0 => none
 | k + 1 => (K (IntKind.u64.wrap ((IntKind.u64.wrap ((IntKind.u64.wrap ((Int.fdiv a0 (2 ^ 32)) * (Int.fdiv a1 (2 ^ 32)))) + (Int.fdiv (IntKind.u64.wrap ((IntKind.u64.wrap ((Int.fdiv a0 (2 ^ 32)) * (bits .and .u64 a1 4294967295))) + (Int.fdiv (IntKind.u64.wrap ((bits .and .u64 a0 4294967295) * (bits .and .u64 a1 4294967295))) (2 ^ 32)))) (2 ^ 32)))) + (Int.fdiv (IntKind.u64.wrap ((bits .and .u64 (IntKind.u64.wrap ((IntKind.u64.wrap ((Int.fdiv a0 (2 ^ 32)) * (bits .and .u64 a1 4294967295))) + (Int.fdiv (IntKind.u64.wrap ((bits .and .u64 a0 4294967295) * (bits .and .u64 a1 4294967295))) (2 ^ 32)))) 4294967295) + (IntKind.u64.wrap ((bits .and .u64 a0 4294967295) * (Int.fdiv a1 (2 ^ 32)))))) (2 ^ 32)))) (IntKind.u64.wrap (a0 * a1)))
def f145 := hid (@f145d R)
theorem Qrt : @f145 R = @f145d R := Q3
def f128d (k : Nat) (a0 a1 : Int) (K : Int → Int → Oq R) : Oq R := match k with
 | 0 => none
 | k + 1 => (f145 k a0 a1 (fun r0_0 r0_1 => (K r0_0 r0_1)))
def f128 := hid (@f128d R)
theorem Qrj : @f128 R = @f128d R := Q3
def Qim (k : Nat) (xN : Oq R) (c2 : Bool) : Oq R :=
 (bif c2 then none else xN)
def Qog := hid (@Qim R)
theorem Qc6 : @Qog R = @Qim R := Q3
def Qio (k : Nat) (xN : Oq R) (c2 : Bool) : Oq R :=
 (bif c2 then none else xN)
def Qin := hid (@Qio R)
theorem Qc7 : @Qin R = @Qio R := Q3
def Qs9 (k : Nat) (rec : Int → LI → Oq R) (x0 : LI → Oq R) (c0 : Int) (c1 : LI) : Oq R :=
 (bif decide (c0 < (c1.length : Int)) then (bif (decide (0 ≤ c0) && decide (c0 ≤ (c1.length : Int))) then (bif (decide (0 ≤ c0) && decide (c0 ≤ (c1.length : Int))) then (rec (IntKind.i64.wrap (c0 + (((min ((c1.drop 0).take c0.toNat).length (c1.length - c0.toNat)) : Nat) : Int))) (splice c1 c0.toNat (((c1.drop 0).take c0.toNat).take (min ((c1.drop 0).take c0.toNat).length (c1.length - c0.toNat))))) else none) else none) else (x0 c1))
def Q88 (k : Nat) (x0 : LI → Oq R) : Nat → Int → LI → Oq R
 | 0, _, _ => none
 | m + 1, c0, c1 => Qs9 k (Q88 k x0 m) x0 c0 c1
def f88_0 := hid (@Q88 R)
theorem Qlb : @f88_0 R = @Q88 R := Q3
def f88d (k : Nat) (a0 : LI) (a1 : Int) (K : LI → Oq R) : Oq R := match k with
 | 0 => none
 | k + 1 => (Qog k (f128 k (IntKind.u64.wrap (a0.length : Int)) (IntKind.u64.wrap a1) (fun r0_0 r0_1 => (bif (decide (r0_0 > 0) == false) then (Qin k (bif (decide (0 ≤ IntKind.i64.wrap r0_1) && (decide (IntKind.i64.wrap r0_1 ≤ IntKind.i64.wrap r0_1) && decide (IntKind.i64.wrap r0_1 ≤ (LIM 1 : Int)))) then (f88_0 k (fun p0 => (K p0)) k (((min a0.length ((List.replicate (Int.toNat (IntKind.i64.wrap r0_1)) (0 : Int)).length)) : Nat) : Int) (splice (List.replicate (Int.toNat (IntKind.i64.wrap r0_1)) (0 : Int)) 0 (a0.take (min a0.length ((List.replicate (Int.toNat (IntKind.i64.wrap r0_1)) (0 : Int)).length))))) else none) (decide (r0_1 > 9223372036854775807))) else (Qin k (bif (decide (0 ≤ IntKind.i64.wrap r0_1) && (decide (IntKind.i64.wrap r0_1 ≤ IntKind.i64.wrap r0_1) && decide (IntKind.i64.wrap r0_1 ≤ (LIM 1 : Int)))) then (f88_0 k (fun p0 => (K p0)) k (((min a0.length ((List.replicate (Int.toNat (IntKind.i64.wrap r0_1)) (0 : Int)).length)) : Nat) : Int) (splice (List.replicate (Int.toNat (IntKind.i64.wrap r0_1)) (0 : Int)) 0 (a0.take (min a0.length ((List.replicate (Int.toNat (IntKind.i64.wrap r0_1)) (0 : Int)).length))))) else none) true)))) (decide (a1 < 0)))
def f88 := hid (@f88d R)
theorem Q12x : @f88 R = @f88d R := Q3
def Qbr (k : Nat) (xN : Int → Oq R) (c0 : Int) (c5 : Bool) : Oq R :=
 (bif c5 then (xN (bits .xor .i64 c0 4129)) else (xN c0))
def Qi0 := hid (@Qbr R)
theorem Q9t : @Qi0 R = @Qbr R := Q3
def Qnv (k : Nat) (rec : Int → Int → Oq R) (x2 : Int → Oq R) (c1 : LI) (c2 c3 c0 c4 : Int) : Oq R :=
 (bif decide (c4 < 8) then (Qi0 k (fun p0 => (rec p0 (IntKind.i64.wrap (c4 + 1)))) (Int.tmod (IntKind.i64.wrap (c0 * 2)) 65536) (decide (c0 ≥ 32768))) else (x2 c0))
def Q4y (k : Nat) (x2 : Int → Oq R) (c1 : LI) (c2 c3 : Int) : Nat → Int → Int → Oq R
 | 0, _, _ => none
 | m + 1, c0, c4 => Qnv k (Q4y k x2 c1 c2 c3 m) x2 c1 c2 c3 c0 c4
def Q10l := hid (@Q4y R)
theorem Qej : @Q10l R = @Q4y R := Q3
def Qnu (k : Nat) (rec : Int → Int → Oq R) (x0 : Int → Oq R) (c1 : LI) (c2 c0 c3 : Int) : Oq R :=
 (bif decide (c3 < c2) then (bif (decide (0 ≤ c3) && decide (c3 < (c1.length : Int))) then (Q10l k (fun p0 => (rec p0 (IntKind.i64.wrap (c3 + 1)))) c1 c2 c3 k (bits .xor .i64 c0 (IntKind.i64.wrap ((IntKind.i64.wrap (c1.getD c3.toNat 0)) * 256))) 0) else none) else (x0 c0))
def Q4x (k : Nat) (x0 : Int → Oq R) (c1 : LI) (c2 : Int) : Nat → Int → Int → Oq R
 | 0, _, _ => none
 | m + 1, c0, c3 => Qnu k (Q4x k x0 c1 c2 m) x0 c1 c2 c0 c3
def Q10k := hid (@Q4x R)
theorem Qei : @Q10k R = @Q4x R := Q3
def f111d (k : Nat) (a0 : LI) (K : Int → Oq R) : Oq R := match k with
 | 0 => none
 | k + 1 => (Q10k k (fun p0 => (K p0)) a0 (a0.length : Int) k 65535 0)
def f111 := hid (@f111d R)
theorem Qr7 : @f111 R = @f111d R := Q3
def Q7x (k : Nat) (xN : Int → Oq R) (c1 : Int) (c3 : Bool) : Oq R :=
 (bif c3 then (xN 2) else (xN c1))
def Qaw := hid (@Q7x R)
theorem Q4l : @Qaw R = @Q7x R := Q3
def Q7y (k : Nat) (xN : Int → Oq R) (c2 : Int) (c3 : Bool) : Oq R :=
 (bif c3 then (xN 1) else (xN c2))
def Qax := hid (@Q7y R)
theorem Q4m : @Qax R = @Q7y R := Q3
def f100d (k : Nat) (a0 a1 : Int) (a2 : Bool) (a3 : BA) (a4 : Int) (a5 : Bool) (a6 : LI) (K : Int → LI → Oq R) : Oq R := match k with
 | 0 => none
 | k + 1 => (f63 k a0 64 1024 (fun r0_0 => (bif ((!r0_0) == false) then (f63 k a1 1 4000000000 (fun r1_0 => (bif (!r1_0) then (K 1 ([] : LI)) else (f95 k a3 (fun r2_0 => (bif (!r2_0) then (K 5 ([] : LI)) else (f63 k a4 0 65535 (fun r3_0 => (bif (!r3_0) then (K 1 ([] : LI)) else (bif decide ((a6.length : Int) > IntKind.i64.wrap ((IntKind.i64.wrap (a0 - 15)) - (a3.size : Int))) then (K 2 ([] : LI)) else (bif (a2 == true) then (bif (decide ((a6.length : Int) > 0) == false) then (bif ((a4 != 0) == false) then (bif (!a5) then (K 3 ([] : LI)) else (Qaw k (fun y13_N_1 => (Qax k (fun y15_N_2 => (bif decide (([IntKind.u8.wrap (Int.fdiv a1 (2 ^ 24)), IntKind.u8.wrap (Int.fdiv a1 (2 ^ 16)), IntKind.u8.wrap (Int.fdiv a1 (2 ^ 8)), IntKind.u8.wrap a1, y13_N_1, IntKind.u8.wrap (a3.size : Int), IntKind.u8.wrap (Int.fdiv a4 (2 ^ 8)), IntKind.u8.wrap a4, IntKind.u8.wrap (Int.fdiv (a6.length : Int) (2 ^ 8)), IntKind.u8.wrap (a6.length : Int), y15_N_2, 0] : LI).length + (bytesOf a3).length ≤ LIM 1) then (bif decide ((([IntKind.u8.wrap (Int.fdiv a1 (2 ^ 24)), IntKind.u8.wrap (Int.fdiv a1 (2 ^ 16)), IntKind.u8.wrap (Int.fdiv a1 (2 ^ 8)), IntKind.u8.wrap a1, y13_N_1, IntKind.u8.wrap (a3.size : Int), IntKind.u8.wrap (Int.fdiv a4 (2 ^ 8)), IntKind.u8.wrap a4, IntKind.u8.wrap (Int.fdiv (a6.length : Int) (2 ^ 8)), IntKind.u8.wrap (a6.length : Int), y15_N_2, 0] : LI) ++ (bytesOf a3)).length + a6.length ≤ LIM 1) then (f88 k ([255] : LI) (IntKind.i64.wrap ((IntKind.i64.wrap (a0 - 3)) - (((([IntKind.u8.wrap (Int.fdiv a1 (2 ^ 24)), IntKind.u8.wrap (Int.fdiv a1 (2 ^ 16)), IntKind.u8.wrap (Int.fdiv a1 (2 ^ 8)), IntKind.u8.wrap a1, y13_N_1, IntKind.u8.wrap (a3.size : Int), IntKind.u8.wrap (Int.fdiv a4 (2 ^ 8)), IntKind.u8.wrap a4, IntKind.u8.wrap (Int.fdiv (a6.length : Int) (2 ^ 8)), IntKind.u8.wrap (a6.length : Int), y15_N_2, 0] : LI) ++ (bytesOf a3)) ++ a6).length : Int))) (fun r4_0 => (bif decide (((([IntKind.u8.wrap (Int.fdiv a1 (2 ^ 24)), IntKind.u8.wrap (Int.fdiv a1 (2 ^ 16)), IntKind.u8.wrap (Int.fdiv a1 (2 ^ 8)), IntKind.u8.wrap a1, y13_N_1, IntKind.u8.wrap (a3.size : Int), IntKind.u8.wrap (Int.fdiv a4 (2 ^ 8)), IntKind.u8.wrap a4, IntKind.u8.wrap (Int.fdiv (a6.length : Int) (2 ^ 8)), IntKind.u8.wrap (a6.length : Int), y15_N_2, 0] : LI) ++ (bytesOf a3)) ++ a6).length + r4_0.length ≤ LIM 1) then (f111 k (((([IntKind.u8.wrap (Int.fdiv a1 (2 ^ 24)), IntKind.u8.wrap (Int.fdiv a1 (2 ^ 16)), IntKind.u8.wrap (Int.fdiv a1 (2 ^ 8)), IntKind.u8.wrap a1, y13_N_1, IntKind.u8.wrap (a3.size : Int), IntKind.u8.wrap (Int.fdiv a4 (2 ^ 8)), IntKind.u8.wrap a4, IntKind.u8.wrap (Int.fdiv (a6.length : Int) (2 ^ 8)), IntKind.u8.wrap (a6.length : Int), y15_N_2, 0] : LI) ++ (bytesOf a3)) ++ a6) ++ r4_0) (fun r5_0 => (bif decide ((((([IntKind.u8.wrap (Int.fdiv a1 (2 ^ 24)), IntKind.u8.wrap (Int.fdiv a1 (2 ^ 16)), IntKind.u8.wrap (Int.fdiv a1 (2 ^ 8)), IntKind.u8.wrap a1, y13_N_1, IntKind.u8.wrap (a3.size : Int), IntKind.u8.wrap (Int.fdiv a4 (2 ^ 8)), IntKind.u8.wrap a4, IntKind.u8.wrap (Int.fdiv (a6.length : Int) (2 ^ 8)), IntKind.u8.wrap (a6.length : Int), y15_N_2, 0] : LI) ++ (bytesOf a3)) ++ a6) ++ r4_0).length + ([IntKind.u8.wrap (Int.fdiv r5_0 (2 ^ 8)), IntKind.u8.wrap r5_0, 165] : LI).length ≤ LIM 1) then (K 0 ((((([IntKind.u8.wrap (Int.fdiv a1 (2 ^ 24)), IntKind.u8.wrap (Int.fdiv a1 (2 ^ 16)), IntKind.u8.wrap (Int.fdiv a1 (2 ^ 8)), IntKind.u8.wrap a1, y13_N_1, IntKind.u8.wrap (a3.size : Int), IntKind.u8.wrap (Int.fdiv a4 (2 ^ 8)), IntKind.u8.wrap a4, IntKind.u8.wrap (Int.fdiv (a6.length : Int) (2 ^ 8)), IntKind.u8.wrap (a6.length : Int), y15_N_2, 0] : LI) ++ (bytesOf a3)) ++ a6) ++ r4_0) ++ ([IntKind.u8.wrap (Int.fdiv r5_0 (2 ^ 8)), IntKind.u8.wrap r5_0, 165] : LI))) else none))) else none))) else none) else none)) 0 a5)) 1 a2)) else (K 3 ([] : LI))) else (K 3 ([] : LI))) else (Qaw k (fun y13_N_1 => (Qax k (fun y15_N_2 => (bif decide (([IntKind.u8.wrap (Int.fdiv a1 (2 ^ 24)), IntKind.u8.wrap (Int.fdiv a1 (2 ^ 16)), IntKind.u8.wrap (Int.fdiv a1 (2 ^ 8)), IntKind.u8.wrap a1, y13_N_1, IntKind.u8.wrap (a3.size : Int), IntKind.u8.wrap (Int.fdiv a4 (2 ^ 8)), IntKind.u8.wrap a4, IntKind.u8.wrap (Int.fdiv (a6.length : Int) (2 ^ 8)), IntKind.u8.wrap (a6.length : Int), y15_N_2, 0] : LI).length + (bytesOf a3).length ≤ LIM 1) then (bif decide ((([IntKind.u8.wrap (Int.fdiv a1 (2 ^ 24)), IntKind.u8.wrap (Int.fdiv a1 (2 ^ 16)), IntKind.u8.wrap (Int.fdiv a1 (2 ^ 8)), IntKind.u8.wrap a1, y13_N_1, IntKind.u8.wrap (a3.size : Int), IntKind.u8.wrap (Int.fdiv a4 (2 ^ 8)), IntKind.u8.wrap a4, IntKind.u8.wrap (Int.fdiv (a6.length : Int) (2 ^ 8)), IntKind.u8.wrap (a6.length : Int), y15_N_2, 0] : LI) ++ (bytesOf a3)).length + a6.length ≤ LIM 1) then (f88 k ([255] : LI) (IntKind.i64.wrap ((IntKind.i64.wrap (a0 - 3)) - (((([IntKind.u8.wrap (Int.fdiv a1 (2 ^ 24)), IntKind.u8.wrap (Int.fdiv a1 (2 ^ 16)), IntKind.u8.wrap (Int.fdiv a1 (2 ^ 8)), IntKind.u8.wrap a1, y13_N_1, IntKind.u8.wrap (a3.size : Int), IntKind.u8.wrap (Int.fdiv a4 (2 ^ 8)), IntKind.u8.wrap a4, IntKind.u8.wrap (Int.fdiv (a6.length : Int) (2 ^ 8)), IntKind.u8.wrap (a6.length : Int), y15_N_2, 0] : LI) ++ (bytesOf a3)) ++ a6).length : Int))) (fun r4_0 => (bif decide (((([IntKind.u8.wrap (Int.fdiv a1 (2 ^ 24)), IntKind.u8.wrap (Int.fdiv a1 (2 ^ 16)), IntKind.u8.wrap (Int.fdiv a1 (2 ^ 8)), IntKind.u8.wrap a1, y13_N_1, IntKind.u8.wrap (a3.size : Int), IntKind.u8.wrap (Int.fdiv a4 (2 ^ 8)), IntKind.u8.wrap a4, IntKind.u8.wrap (Int.fdiv (a6.length : Int) (2 ^ 8)), IntKind.u8.wrap (a6.length : Int), y15_N_2, 0] : LI) ++ (bytesOf a3)) ++ a6).length + r4_0.length ≤ LIM 1) then (f111 k (((([IntKind.u8.wrap (Int.fdiv a1 (2 ^ 24)), IntKind.u8.wrap (Int.fdiv a1 (2 ^ 16)), IntKind.u8.wrap (Int.fdiv a1 (2 ^ 8)), IntKind.u8.wrap a1, y13_N_1, IntKind.u8.wrap (a3.size : Int), IntKind.u8.wrap (Int.fdiv a4 (2 ^ 8)), IntKind.u8.wrap a4, IntKind.u8.wrap (Int.fdiv (a6.length : Int) (2 ^ 8)), IntKind.u8.wrap (a6.length : Int), y15_N_2, 0] : LI) ++ (bytesOf a3)) ++ a6) ++ r4_0) (fun r5_0 => (bif decide ((((([IntKind.u8.wrap (Int.fdiv a1 (2 ^ 24)), IntKind.u8.wrap (Int.fdiv a1 (2 ^ 16)), IntKind.u8.wrap (Int.fdiv a1 (2 ^ 8)), IntKind.u8.wrap a1, y13_N_1, IntKind.u8.wrap (a3.size : Int), IntKind.u8.wrap (Int.fdiv a4 (2 ^ 8)), IntKind.u8.wrap a4, IntKind.u8.wrap (Int.fdiv (a6.length : Int) (2 ^ 8)), IntKind.u8.wrap (a6.length : Int), y15_N_2, 0] : LI) ++ (bytesOf a3)) ++ a6) ++ r4_0).length + ([IntKind.u8.wrap (Int.fdiv r5_0 (2 ^ 8)), IntKind.u8.wrap r5_0, 165] : LI).length ≤ LIM 1) then (K 0 ((((([IntKind.u8.wrap (Int.fdiv a1 (2 ^ 24)), IntKind.u8.wrap (Int.fdiv a1 (2 ^ 16)), IntKind.u8.wrap (Int.fdiv a1 (2 ^ 8)), IntKind.u8.wrap a1, y13_N_1, IntKind.u8.wrap (a3.size : Int), IntKind.u8.wrap (Int.fdiv a4 (2 ^ 8)), IntKind.u8.wrap a4, IntKind.u8.wrap (Int.fdiv (a6.length : Int) (2 ^ 8)), IntKind.u8.wrap (a6.length : Int), y15_N_2, 0] : LI) ++ (bytesOf a3)) ++ a6) ++ r4_0) ++ ([IntKind.u8.wrap (Int.fdiv r5_0 (2 ^ 8)), IntKind.u8.wrap r5_0, 165] : LI))) else none))) else none))) else none) else none)) 0 a5)) 1 a2)))))))))))) else (K 1 ([] : LI)))))
def f100 := hid (@f100d R)
theorem Qqx : @f100 R = @f100d R := Q3
def Qo3 (k : Nat) (rec : Int → Oq R) (K : Bool → Oq R) (x0 : Oq R) (c0 c1 : LI) (c2 c3 : Int) : Oq R :=
 (bif decide (c3 < c2) then (bif (decide (0 ≤ c3) && decide (c3 < (c0.length : Int))) then (bif (decide (0 ≤ c3) && decide (c3 < (c1.length : Int))) then (bif ((c0.getD c3.toNat 0) != (c1.getD c3.toNat 0)) then (K false) else (rec (IntKind.i64.wrap (c3 + 1)))) else none) else none) else x0)
def Q57 (k : Nat) (K : Bool → Oq R) (x0 : Oq R) (c0 c1 : LI) (c2 : Int) : Nat → Int → Oq R
 | 0, _ => none
 | m + 1, c3 => Qo3 k (Q57 k K x0 c0 c1 c2 m) K x0 c0 c1 c2 c3
def Q10t := hid (@Q57 R)
theorem Qeq : @Q10t R = @Q57 R := Q3
def f132d (k : Nat) (a0 a1 : LI) (K : Bool → Oq R) : Oq R := match k with
 | 0 => none
 | k + 1 => (bif ((a0.length : Int) != (a1.length : Int)) then (K false) else (Q10t k K (K true) a0 a1 (a0.length : Int) k 0))
def f132 := hid (@f132d R)
theorem Qrm : @f132 R = @f132d R := Q3
def f97d (k : Nat) (a0 : LI) (K : zK0 R) : Oq R := match k with
 | 0 => none
 | k + 1 => (f98 k a0 (fun r0_0 => (bif r0_0 then (K 1 0 false (⟨#[]⟩ : BA) 0 false ([] : LI)) else (bif (decide (0 ≤ IntKind.i64.wrap ((a0.length : Int) - 1)) && decide (IntKind.i64.wrap ((a0.length : Int) - 1) < (a0.length : Int))) then (bif ((a0.getD (Int.toNat (IntKind.i64.wrap ((a0.length : Int) - 1))) 0) != 165) then (K 2 0 false (⟨#[]⟩ : BA) 0 false ([] : LI)) else (bif decide (5 < (a0.length : Int)) then (bif decide (8 < (a0.length : Int)) then (bif decide (9 < (a0.length : Int)) then (bif decide (IntKind.i64.wrap ((IntKind.i64.wrap (12 + (IntKind.i64.wrap (a0.getD 5 0)))) + (bits .or .i64 (IntKind.i64.wrap ((IntKind.i64.wrap (a0.getD 8 0)) * 2 ^ 8)) (IntKind.i64.wrap (a0.getD 9 0)))) > IntKind.i64.wrap ((a0.length : Int) - 3)) then (K 3 0 false (⟨#[]⟩ : BA) 0 false ([] : LI)) else (f99 k a0 (fun r1_0 => (bif decide (4 < (a0.length : Int)) then (bif (decide (12 ≤ IntKind.i64.wrap (12 + (IntKind.i64.wrap (a0.getD 5 0)))) && decide (IntKind.i64.wrap (12 + (IntKind.i64.wrap (a0.getD 5 0))) ≤ (a0.length : Int))) then (bif decide (6 < (a0.length : Int)) then (bif decide (7 < (a0.length : Int)) then (bif decide (10 < (a0.length : Int)) then (bif (decide (0 ≤ IntKind.i64.wrap (12 + (IntKind.i64.wrap (a0.getD 5 0)))) && (decide (IntKind.i64.wrap (12 + (IntKind.i64.wrap (a0.getD 5 0))) ≤ IntKind.i64.wrap ((IntKind.i64.wrap (12 + (IntKind.i64.wrap (a0.getD 5 0)))) + (bits .or .i64 (IntKind.i64.wrap ((IntKind.i64.wrap (a0.getD 8 0)) * 2 ^ 8)) (IntKind.i64.wrap (a0.getD 9 0))))) && decide (IntKind.i64.wrap ((IntKind.i64.wrap (12 + (IntKind.i64.wrap (a0.getD 5 0)))) + (bits .or .i64 (IntKind.i64.wrap ((IntKind.i64.wrap (a0.getD 8 0)) * 2 ^ 8)) (IntKind.i64.wrap (a0.getD 9 0)))) ≤ (a0.length : Int)))) then (f83 k ((a0.take (Int.toNat (IntKind.i64.wrap ((IntKind.i64.wrap (12 + (IntKind.i64.wrap (a0.getD 5 0)))) + (bits .or .i64 (IntKind.i64.wrap ((IntKind.i64.wrap (a0.getD 8 0)) * 2 ^ 8)) (IntKind.i64.wrap (a0.getD 9 0))))))).drop (Int.toNat (IntKind.i64.wrap (12 + (IntKind.i64.wrap (a0.getD 5 0)))))) (fun r2_0 => (f100 k (a0.length : Int) r1_0 ((a0.getD 4 0) == 2) (strOf ((a0.take (Int.toNat (IntKind.i64.wrap (12 + (IntKind.i64.wrap (a0.getD 5 0)))))).drop 12)) (bits .or .i64 (IntKind.i64.wrap ((IntKind.i64.wrap (a0.getD 6 0)) * 2 ^ 8)) (IntKind.i64.wrap (a0.getD 7 0))) ((a0.getD 10 0) == 1) r2_0 (fun r3_0 r3_1 => (bif ((r3_0 != 0) == false) then (f132 k a0 r3_1 (fun r4_0 => (bif (!r4_0) then (K 3 0 false (⟨#[]⟩ : BA) 0 false ([] : LI)) else (K 4 r1_0 ((a0.getD 4 0) == 2) (strOf ((a0.take (Int.toNat (IntKind.i64.wrap (12 + (IntKind.i64.wrap (a0.getD 5 0)))))).drop 12)) (bits .or .i64 (IntKind.i64.wrap ((IntKind.i64.wrap (a0.getD 6 0)) * 2 ^ 8)) (IntKind.i64.wrap (a0.getD 7 0))) ((a0.getD 10 0) == 1) r2_0)))) else (K 3 0 false (⟨#[]⟩ : BA) 0 false ([] : LI))))))) else none) else none) else none) else none) else none) else none)))) else none) else none) else none)) else none))))
def f97 := hid (@f97d R)
theorem Q131 : @f97 R = @f97d R := Q3
def Qb1 (k : Nat) (xN : Int → Oq R) (c1 : LI) (c5 : Bool) (c22 : Int) : Oq R :=
 (bif c5 then (f99 k c1 (fun r0_0 => (xN (if c22 < IntKind.i64.wrap (r0_0 + 1) then IntKind.i64.wrap (r0_0 + 1) else c22)))) else (xN c22))
def Qif := hid (@Qb1 R)
theorem Qbx : @Qif R = @Qb1 R := Q3
def Qih (k : Nat) (xN : zL2 → List ((Int × (BA × Unit)) × Bool) → Oq R) (c0 : Int) (c3 : Bool) (c22 : zL2) (c23 : List ((Int × (BA × Unit)) × Bool)) (c24 : Int) (c25 : Bool) (c26 : BA) (c27 : Int) (c28 : Bool) (c29 : LI) (c30 : Int) (c31 : BA) : Oq R :=
 (bif c3 then (bif decide (c22.length + ([(c0, ((c24, (c25, (c26, (c27, (c28, (c29, ())))))), ()))] : zL2).length ≤ LIM 80) then (xN (c22 ++ ([(c0, ((c24, (c25, (c26, (c27, (c28, (c29, ())))))), ()))] : zL2)) ((mdel zP4 (c30, (c31, ())) c23) ++ [((c30, (c31, ())), true)])) else none) else (xN c22 c23))
def Qig := hid (@Qih R)
theorem Qby : @Qig R = @Qih R := Q3
def Qs6 (k : Nat) (x1 : Int → LI → zL2 → List ((Int × (BA × Unit)) × Bool) → Oq R) (c1 c2 c3 c4 : Int) (c5 c6 c7 : LI) (c18 : Int) (c19 : LI) (c20 : zL2) (c21 : List ((Int × (BA × Unit)) × Bool)) : Oq R :=
 (bif (!(c3 == 0)) then (f96 k c7 (IntKind.i64.wrap (Int.tdiv c1 c3)) (fun r0_0 => (bif r0_0 then (bif decide (c19.length + ([0] : LI).length ≤ LIM 8) then (x1 c18 (c19 ++ ([0] : LI)) c20 c21) else none) else (f84 k c2 c3 c4 c5 c6 c7 c1 (fun r1_0 => (f97 k r1_0 (fun r2_0 r2_1 r2_2 r2_3 r2_4 r2_5 r2_6 => (bif decide (c19.length + ([r2_0] : LI).length ≤ LIM 8) then (bif decide (4 ≤ (r1_0.length : Int)) then (f98 k (r1_0.take 4) (fun r3_0 => (Qif k (fun y12_N_20 => (bif ((r2_0 == 4) == true) then (Qig k (fun y15_N_20 y15_N_21 => (x1 y12_N_20 (c19 ++ ([r2_0] : LI)) y15_N_20 y15_N_21)) c1 (!((mget zP4 (r2_1, (r2_3, ())) c21).getD false)) c20 c21 r2_1 r2_2 r2_3 r2_4 r2_5 r2_6 r2_1 r2_3) else (Qig k (fun y15_N_20 y15_N_21 => (x1 y12_N_20 (c19 ++ ([r2_0] : LI)) y15_N_20 y15_N_21)) c1 false c20 c21 r2_1 r2_2 r2_3 r2_4 r2_5 r2_6 r2_1 r2_3))) r1_0 (!r3_0) c18))) else none) else none)))))))) else none)
def f46_1 := hid (@Qs6 R)
theorem Qbw : @f46_1 R = @Qs6 R := Q3
def Q11k (k : Nat) (rec : Int → Int → LI → zL2 → List ((Int × (BA × Unit)) × Bool) → Oq R) (x0 : Int → LI → zL2 → Oq R) (c0 c2 c3 c4 : Int) (c5 c6 c7 : LI) (c8 c9 c10 c11 c12 c13 c14 : Int) (c15 c16 c17 : LI) (c1 c18 : Int) (c19 : LI) (c20 : zL2) (c21 : List ((Int × (BA × Unit)) × Bool)) : Oq R :=
 (bif decide (c1 < c0) then (f46_1 k (fun p18 p19 p20 p21 => (rec (IntKind.i64.wrap (c1 + 1)) p18 p19 p20 p21)) c1 c2 c3 c4 c5 c6 c7 c18 c19 c20 c21) else (x0 c18 c19 c20))
def Qa7 (k : Nat) (x0 : Int → LI → zL2 → Oq R) (c0 c2 c3 c4 : Int) (c5 c6 c7 : LI) (c8 c9 c10 c11 c12 c13 c14 : Int) (c15 c16 c17 : LI) : Nat → Int → Int → LI → zL2 → List ((Int × (BA × Unit)) × Bool) → Oq R
 | 0, _, _, _, _, _ => none
 | m + 1, c1, c18, c19, c20, c21 => Q11k k (Qa7 k x0 c0 c2 c3 c4 c5 c6 c7 c8 c9 c10 c11 c12 c13 c14 c15 c16 c17 m) x0 c0 c2 c3 c4 c5 c6 c7 c8 c9 c10 c11 c12 c13 c14 c15 c16 c17 c1 c18 c19 c20 c21
def f46_0 := hid (@Qa7 R)
theorem Qkn : @f46_0 R = @Qa7 R := Q3
def f46d (k : Nat) (a0 a1 a2 : Int) (a3 a4 a5 : LI) (K : zK1 R) : Oq R := match k with
 | 0 => none
 | k + 1 => (f46_0 k (fun p10 p11 p12 => (K a0 a1 a2 a3 a4 a5 p10 p11 p12)) (IntKind.i64.wrap (a0 * a1)) a0 a1 a2 a3 a4 a5 0 0 0 0 a0 a1 a2 a3 a4 a5 k 0 1 ([] : LI) ([] : zL1) ([] : List ((Int × (BA × Unit)) × Bool)))
def f46 := hid (@f46d R)
theorem Q11l : @f46 R = @f46d R := Q3
def f17d (k : Nat) (a0 a1 a2 : Int) (a3 a4 a5 : LI) (K : Int → LI → Oq R) : Oq R := match k with
 | 0 => none
 | k + 1 => (f19 k a0 a1 a2 a3 a4 a5 (fun r0_0 => (bif (r0_0 != 0) then (K r0_0 ([] : LI)) else (f46 k a0 a1 a2 a3 a4 a5 (fun r1_0 r1_1 r1_2 r1_3 r1_4 r1_5 r1_6 r1_7 r1_8 => (K 0 r1_7))))))
def f17 := hid (@f17d R)
theorem Q113 : @f17 R = @f17d R := Q3
def f66d (k : Nat) (a0 a1 a2 : Int) (K : Bool → Oq R) : Oq R := match k with
 | 0 => none
 | k + 1 => (bif (decide (a0 ≥ a1) == true) then (K (decide (a0 ≤ a2))) else (K false))
def f66 := hid (@f66d R)
theorem Q123 : @f66 R = @f66d R := Q3
def f65d (k : Nat) (a0 a1 a2 : Int) (a3 a4 a5 : LI) (K : Int → Oq R) : Oq R := match k with
 | 0 => none
 | k + 1 => (f66 k a0 1 64 (fun r0_0 => (bif ((!r0_0) == false) then (f66 k a1 1 64 (fun r1_0 => (bif ((!r1_0) == false) then (f66 k a2 64 1024 (fun r2_0 => (bif (!r2_0) then (K 1) else (bif decide (IntKind.i64.wrap ((IntKind.i64.wrap (a0 * a1)) * a2) > 262144) then (K 2) else (K 0))))) else (K 1)))) else (K 1))))
def f65 := hid (@f65d R)
theorem Q122 : @f65 R = @f65d R := Q3
def Q11a (k : Nat) (rec K : Int → Oq R) (x0 : Oq R) (c1 c2 c3 : Int) (c4 c5 c6 : LI) (c0 : Int) : Oq R :=
 (bif decide (c0 < (c5.length : Int)) then (bif (decide (0 ≤ c0) && decide (c0 < (c5.length : Int))) then (f66 k (c5.getD c0.toNat 0) 0 1000000 (fun r0_0 => (bif (!r0_0) then (K 1) else (rec (IntKind.i64.wrap (c0 + 1)))))) else none) else x0)
def Qa4 (k : Nat) (K : Int → Oq R) (x0 : Oq R) (c1 c2 c3 : Int) (c4 c5 c6 : LI) : Nat → Int → Oq R
 | 0, _ => none
 | m + 1, c0 => Q11a k (Qa4 k K x0 c1 c2 c3 c4 c5 c6 m) K x0 c1 c2 c3 c4 c5 c6 c0
def f20_0 := hid (@Qa4 R)
theorem Qkk : @f20_0 R = @Qa4 R := Q3
def Q11b (k : Nat) (rec K : Int → Oq R) (x2 : Oq R) (c1 c2 c3 : Int) (c4 c5 c6 : LI) (c0 : Int) : Oq R :=
 (bif decide (c0 < (c6.length : Int)) then (bif (decide (0 ≤ c0) && decide (c0 < (c6.length : Int))) then (f66 k (c6.getD c0.toNat 0) 0 (IntKind.i64.wrap (c1 - 1)) (fun r0_0 => (bif (!r0_0) then (K 1) else (bif (decide (c0 > 0) == true) then (bif (decide (0 ≤ c0) && decide (c0 < (c6.length : Int))) then (bif (decide (0 ≤ IntKind.i64.wrap (c0 - 1)) && decide (IntKind.i64.wrap (c0 - 1) < (c6.length : Int))) then (bif decide ((c6.getD c0.toNat 0) ≤ (c6.getD (Int.toNat (IntKind.i64.wrap (c0 - 1))) 0)) then (K 8) else (rec (IntKind.i64.wrap (c0 + 1)))) else none) else none) else (rec (IntKind.i64.wrap (c0 + 1))))))) else none) else x2)
def Qa5 (k : Nat) (K : Int → Oq R) (x2 : Oq R) (c1 c2 c3 : Int) (c4 c5 c6 : LI) : Nat → Int → Oq R
 | 0, _ => none
 | m + 1, c0 => Q11b k (Qa5 k K x2 c1 c2 c3 c4 c5 c6 m) K x2 c1 c2 c3 c4 c5 c6 c0
def f20_2 := hid (@Qa5 R)
theorem Qkl : @f20_2 R = @Qa5 R := Q3
def f20d (k : Nat) (a0 a1 a2 : Int) (a3 a4 a5 : LI) (K : Int → Oq R) : Oq R := match k with
 | 0 => none
 | k + 1 => (f65 k a0 a1 a2 a3 a4 a5 (fun r0_0 => (bif (r0_0 != 0) then (K r0_0) else (bif (((a3.length : Int) != IntKind.i64.wrap ((IntKind.i64.wrap (a0 * a1)) * a2)) == false) then (bif ((a4.length : Int) != a0) then (K 3) else (f20_0 k K (f20_2 k K (K 0) a0 a1 a2 a3 a4 a5 k 0) a0 a1 a2 a3 a4 a5 k 0)) else (K 3)))))
def f20 := hid (@f20d R)
theorem Q11c : @f20 R = @f20d R := Q3
def f60d (k : Nat) (a0 a1 a2 : Int) (a3 a4 a5 : LI) (K : Int → Oq R) : Oq R := match k with
 | 0 => none
 | k + 1 => (K (IntKind.i64.wrap (a0 * a1)))
def f60 := hid (@f60d R)
theorem Q11w : @f60 R = @f60d R := Q3
def Qnl (k : Nat) (rec : Int → Oq R) (K : Bool → Oq R) (x0 : Oq R) (c0 c2 c3 c4 : Int) (c5 c6 c7 : LI) (c1 : Int) : Oq R :=
 (bif decide (c1 < (c7.length : Int)) then (bif (decide (0 ≤ c1) && decide (c1 < (c7.length : Int))) then (bif ((c7.getD c1.toNat 0) == c0) then (K true) else (rec (IntKind.i64.wrap (c1 + 1)))) else none) else x0)
def Q4n (k : Nat) (K : Bool → Oq R) (x0 : Oq R) (c0 c2 c3 c4 : Int) (c5 c6 c7 : LI) : Nat → Int → Oq R
 | 0, _ => none
 | m + 1, c1 => Qnl k (Q4n k K x0 c0 c2 c3 c4 c5 c6 c7 m) K x0 c0 c2 c3 c4 c5 c6 c7 c1
def Q106 := hid (@Q4n R)
theorem Qe8 : @Q106 R = @Q4n R := Q3
def f101d (k : Nat) (a0 a1 a2 : Int) (a3 a4 a5 : LI) (a6 : Int) (K : Bool → Oq R) : Oq R := match k with
 | 0 => none
 | k + 1 => (Q106 k K (K false) a6 a0 a1 a2 a3 a4 a5 k 0)
def f101 := hid (@f101d R)
theorem Qqy : @f101 R = @f101d R := Q3
def f90d (k : Nat) (a0 a1 a2 : Int) (a3 a4 a5 : LI) (a6 : Int) (K : LI → Oq R) : Oq R := match k with
 | 0 => none
 | k + 1 => (bif (decide (0 ≤ IntKind.i64.wrap (a6 * a2)) && (decide (IntKind.i64.wrap (a6 * a2) ≤ IntKind.i64.wrap ((IntKind.i64.wrap (a6 + 1)) * a2)) && decide (IntKind.i64.wrap ((IntKind.i64.wrap (a6 + 1)) * a2) ≤ (a3.length : Int)))) then (K ((a3.take (Int.toNat (IntKind.i64.wrap ((IntKind.i64.wrap (a6 + 1)) * a2)))).drop (Int.toNat (IntKind.i64.wrap (a6 * a2))))) else none)
def f90 := hid (@f90d R)
theorem Q12y : @f90 R = @f90d R := Q3
def Qnm (k : Nat) (rec : Int → Oq R) (K : Bool → Oq R) (x0 : Oq R) (c0 : LI) (c1 : Int) : Oq R :=
 (bif decide (c1 < (c0.length : Int)) then (bif (decide (0 ≤ c1) && decide (c1 < (c0.length : Int))) then (bif ((c0.getD c1.toNat 0) != 255) then (K false) else (rec (IntKind.i64.wrap (c1 + 1)))) else none) else x0)
def Q4o (k : Nat) (K : Bool → Oq R) (x0 : Oq R) (c0 : LI) : Nat → Int → Oq R
 | 0, _ => none
 | m + 1, c1 => Qnm k (Q4o k K x0 c0 m) K x0 c0 c1
def Q108 := hid (@Q4o R)
theorem Qe9 : @Q108 R = @Q4o R := Q3
def f102d (k : Nat) (a0 : LI) (K : Bool → Oq R) : Oq R := match k with
 | 0 => none
 | k + 1 => (Q108 k K (K true) a0 k 0)
def f102 := hid (@f102d R)
theorem Qqz : @f102 R = @f102d R := Q3
def f103d (k : Nat) (a0 : LI) (a1 : Int) (K : Int → Oq R) : Oq R := match k with
 | 0 => none
 | k + 1 => (bif (decide (0 ≤ a1) && decide (a1 < (a0.length : Int))) then (bif (decide (0 ≤ IntKind.i64.wrap (a1 + 1)) && decide (IntKind.i64.wrap (a1 + 1) < (a0.length : Int))) then (K (IntKind.i64.wrap ((IntKind.i64.wrap ((IntKind.i64.wrap (a0.getD a1.toNat 0)) * 256)) + (IntKind.i64.wrap (a0.getD (Int.toNat (IntKind.i64.wrap (a1 + 1))) 0))))) else none) else none)
def f103 := hid (@f103d R)
theorem Qr0 : @f103 R = @f103d R := Q3
def Q11n (k : Nat) (rec : Int → Oq R) (K : Bool → Oq R) (x0 : Oq R) (c0 : BA) (c1 : Int) : Oq R :=
 (bif decide (c1 < (c0.size : Int)) then (bif (decide (0 ≤ c1) && decide (c1 < (c0.size : Int))) then (bif (decide (((bytesOf c0).getD c1.toNat 0) < 33) == false) then (bif (decide (0 ≤ c1) && decide (c1 < (c0.size : Int))) then (bif decide (((bytesOf c0).getD c1.toNat 0) > 126) then (K false) else (rec (IntKind.i64.wrap (c1 + 1)))) else none) else (K false)) else none) else x0)
def Qa8 (k : Nat) (K : Bool → Oq R) (x0 : Oq R) (c0 : BA) : Nat → Int → Oq R
 | 0, _ => none
 | m + 1, c1 => Q11n k (Qa8 k K x0 c0 m) K x0 c0 c1
def f49_0 := hid (@Qa8 R)
theorem Qko : @f49_0 R = @Qa8 R := Q3
def f49d (k : Nat) (a0 : BA) (K : Bool → Oq R) : Oq R := match k with
 | 0 => none
 | k + 1 => (f49_0 k K (f66 k (a0.size : Int) 1 32 (fun r0_0 => (K r0_0))) a0 k 0)
def f49 := hid (@f49d R)
theorem Q11o : @f49 R = @f49d R := Q3
def f50d (k : Nat) (a0 : Int) (a1 : BA) (K : Int → Oq R) : Oq R := match k with
 | 0 => none
 | k + 1 => (K (IntKind.i64.wrap ((IntKind.i64.wrap (a0 - 15)) - (a1.size : Int))))
def f50 := hid (@f50d R)
theorem Q11p : @f50 R = @f50d R := Q3
def Qnn (k : Nat) (rec : Int → LI → Oq R) (x0 : LI → Oq R) (c0 c1 : Int) (c2 : LI) : Oq R :=
 (bif decide (c1 < c0) then (bif (decide (0 ≤ c1) && decide (c1 < (c2.length : Int))) then (rec (IntKind.i64.wrap (c1 + 1)) (c2.set c1.toNat 255)) else none) else (x0 c2))
def Q4p (k : Nat) (x0 : LI → Oq R) (c0 : Int) : Nat → Int → LI → Oq R
 | 0, _, _ => none
 | m + 1, c1, c2 => Qnn k (Q4p k x0 c0 m) x0 c0 c1 c2
def Q109 := hid (@Q4p R)
theorem Qea : @Q109 R = @Q4p R := Q3
def f104d (k : Nat) (a0 : Int) (K : LI → Oq R) : Oq R := match k with
 | 0 => none
 | k + 1 => (bif (decide (0 ≤ a0) && (decide (a0 ≤ a0) && decide (a0 ≤ (LIM 1 : Int)))) then (Q109 k (fun p0 => (K p0)) a0 k 0 (List.replicate a0.toNat (0 : Int))) else none)
def f104 := hid (@f104d R)
theorem Qr1 : @f104 R = @f104d R := Q3
def Qbp (k : Nat) (xN : Int → Oq R) (c1 : Int) (c4 : Bool) : Oq R :=
 (bif c4 then (xN (bits .xor .i64 c1 4129)) else (xN c1))
def Qhy := hid (@Qbp R)
theorem Q9q : @Qhy R = @Qbp R := Q3
def Qnp (k : Nat) (rec : Int → Int → Oq R) (x2 : Int → Oq R) (c0 : LI) (c2 c1 c3 : Int) : Oq R :=
 (bif decide (c3 < 8) then (Qhy k (fun p1 => (rec p1 (IntKind.i64.wrap (c3 + 1)))) (Int.tmod (IntKind.i64.wrap (c1 * 2)) 65536) (decide (c1 ≥ 32768))) else (x2 c1))
def Q4r (k : Nat) (x2 : Int → Oq R) (c0 : LI) (c2 : Int) : Nat → Int → Int → Oq R
 | 0, _, _ => none
 | m + 1, c1, c3 => Qnp k (Q4r k x2 c0 c2 m) x2 c0 c2 c1 c3
def Q10b := hid (@Q4r R)
theorem Qec : @Q10b R = @Q4r R := Q3
def Qno (k : Nat) (rec : Int → Int → Oq R) (x0 : Int → Oq R) (c0 : LI) (c1 c2 : Int) : Oq R :=
 (bif decide (c2 < (c0.length : Int)) then (bif (decide (0 ≤ c2) && decide (c2 < (c0.length : Int))) then (Q10b k (fun p1 => (rec p1 (IntKind.i64.wrap (c2 + 1)))) c0 c2 k (bits .xor .i64 c1 (IntKind.i64.wrap ((IntKind.i64.wrap (c0.getD c2.toNat 0)) * 256))) 0) else none) else (x0 c1))
def Q4q (k : Nat) (x0 : Int → Oq R) (c0 : LI) : Nat → Int → Int → Oq R
 | 0, _, _ => none
 | m + 1, c1, c2 => Qno k (Q4q k x0 c0 m) x0 c0 c1 c2
def Q10a := hid (@Q4q R)
theorem Qeb : @Q10a R = @Q4q R := Q3
def f105d (k : Nat) (a0 : LI) (K : Int → Oq R) : Oq R := match k with
 | 0 => none
 | k + 1 => (Q10a k (fun p0 => (K p0)) a0 k 65535 0)
def f105 := hid (@f105d R)
theorem Qr2 : @f105 R = @f105d R := Q3
def Qb2 (k : Nat) (xN : Int → Oq R) (c1 : Int) (c3 : Bool) : Oq R :=
 (bif c3 then (xN 2) else (xN c1))
def Qii := hid (@Qb2 R)
theorem Q74 : @Qii R = @Qb2 R := Q3
def Qb3 (k : Nat) (xN : Int → Oq R) (c2 : Int) (c3 : Bool) : Oq R :=
 (bif c3 then (xN 1) else (xN c2))
def Qij := hid (@Qb3 R)
theorem Q75 : @Qij R = @Qb3 R := Q3
def f54d (k : Nat) (a0 a1 : Int) (a2 : Bool) (a3 : BA) (a4 : Int) (a5 : Bool) (a6 : LI) (K : Int → LI → Oq R) : Oq R := match k with
 | 0 => none
 | k + 1 => (f66 k a0 64 1024 (fun r0_0 => (bif ((!r0_0) == false) then (f66 k a1 1 4000000000 (fun r1_0 => (bif (!r1_0) then (K 1 ([] : LI)) else (f49 k a3 (fun r2_0 => (bif (!r2_0) then (K 5 ([] : LI)) else (f66 k a4 0 65535 (fun r3_0 => (bif (!r3_0) then (K 1 ([] : LI)) else (f50 k a0 a3 (fun r4_0 => (bif decide ((a6.length : Int) > r4_0) then (K 2 ([] : LI)) else (bif (a2 == true) then (bif (decide ((a6.length : Int) > 0) == false) then (bif ((a4 != 0) == false) then (bif (!a5) then (K 3 ([] : LI)) else (Qii k (fun y13_N_1 => (Qij k (fun y15_N_2 => (bif decide (a3.size ≤ 140737488355328) then (bif decide (([IntKind.u8.wrap (Int.fdiv a1 (2 ^ 24)), IntKind.u8.wrap (Int.fdiv a1 (2 ^ 16)), IntKind.u8.wrap (Int.fdiv a1 (2 ^ 8)), IntKind.u8.wrap a1, y13_N_1, IntKind.u8.wrap (a3.size : Int), IntKind.u8.wrap (Int.fdiv a4 (2 ^ 8)), IntKind.u8.wrap a4, IntKind.u8.wrap (Int.fdiv (a6.length : Int) (2 ^ 8)), IntKind.u8.wrap (a6.length : Int), y15_N_2, 0] : LI).length + (bytesOf a3).length ≤ LIM 1) then (bif decide ((([IntKind.u8.wrap (Int.fdiv a1 (2 ^ 24)), IntKind.u8.wrap (Int.fdiv a1 (2 ^ 16)), IntKind.u8.wrap (Int.fdiv a1 (2 ^ 8)), IntKind.u8.wrap a1, y13_N_1, IntKind.u8.wrap (a3.size : Int), IntKind.u8.wrap (Int.fdiv a4 (2 ^ 8)), IntKind.u8.wrap a4, IntKind.u8.wrap (Int.fdiv (a6.length : Int) (2 ^ 8)), IntKind.u8.wrap (a6.length : Int), y15_N_2, 0] : LI) ++ (bytesOf a3)).length + a6.length ≤ LIM 1) then (f104 k (IntKind.i64.wrap ((IntKind.i64.wrap (a0 - 3)) - (((([IntKind.u8.wrap (Int.fdiv a1 (2 ^ 24)), IntKind.u8.wrap (Int.fdiv a1 (2 ^ 16)), IntKind.u8.wrap (Int.fdiv a1 (2 ^ 8)), IntKind.u8.wrap a1, y13_N_1, IntKind.u8.wrap (a3.size : Int), IntKind.u8.wrap (Int.fdiv a4 (2 ^ 8)), IntKind.u8.wrap a4, IntKind.u8.wrap (Int.fdiv (a6.length : Int) (2 ^ 8)), IntKind.u8.wrap (a6.length : Int), y15_N_2, 0] : LI) ++ (bytesOf a3)) ++ a6).length : Int))) (fun r5_0 => (bif decide (((([IntKind.u8.wrap (Int.fdiv a1 (2 ^ 24)), IntKind.u8.wrap (Int.fdiv a1 (2 ^ 16)), IntKind.u8.wrap (Int.fdiv a1 (2 ^ 8)), IntKind.u8.wrap a1, y13_N_1, IntKind.u8.wrap (a3.size : Int), IntKind.u8.wrap (Int.fdiv a4 (2 ^ 8)), IntKind.u8.wrap a4, IntKind.u8.wrap (Int.fdiv (a6.length : Int) (2 ^ 8)), IntKind.u8.wrap (a6.length : Int), y15_N_2, 0] : LI) ++ (bytesOf a3)) ++ a6).length + r5_0.length ≤ LIM 1) then (f105 k (((([IntKind.u8.wrap (Int.fdiv a1 (2 ^ 24)), IntKind.u8.wrap (Int.fdiv a1 (2 ^ 16)), IntKind.u8.wrap (Int.fdiv a1 (2 ^ 8)), IntKind.u8.wrap a1, y13_N_1, IntKind.u8.wrap (a3.size : Int), IntKind.u8.wrap (Int.fdiv a4 (2 ^ 8)), IntKind.u8.wrap a4, IntKind.u8.wrap (Int.fdiv (a6.length : Int) (2 ^ 8)), IntKind.u8.wrap (a6.length : Int), y15_N_2, 0] : LI) ++ (bytesOf a3)) ++ a6) ++ r5_0) (fun r6_0 => (bif decide ((((([IntKind.u8.wrap (Int.fdiv a1 (2 ^ 24)), IntKind.u8.wrap (Int.fdiv a1 (2 ^ 16)), IntKind.u8.wrap (Int.fdiv a1 (2 ^ 8)), IntKind.u8.wrap a1, y13_N_1, IntKind.u8.wrap (a3.size : Int), IntKind.u8.wrap (Int.fdiv a4 (2 ^ 8)), IntKind.u8.wrap a4, IntKind.u8.wrap (Int.fdiv (a6.length : Int) (2 ^ 8)), IntKind.u8.wrap (a6.length : Int), y15_N_2, 0] : LI) ++ (bytesOf a3)) ++ a6) ++ r5_0).length + ([IntKind.u8.wrap (Int.fdiv r6_0 (2 ^ 8)), IntKind.u8.wrap r6_0, 165] : LI).length ≤ LIM 1) then (K 0 ((((([IntKind.u8.wrap (Int.fdiv a1 (2 ^ 24)), IntKind.u8.wrap (Int.fdiv a1 (2 ^ 16)), IntKind.u8.wrap (Int.fdiv a1 (2 ^ 8)), IntKind.u8.wrap a1, y13_N_1, IntKind.u8.wrap (a3.size : Int), IntKind.u8.wrap (Int.fdiv a4 (2 ^ 8)), IntKind.u8.wrap a4, IntKind.u8.wrap (Int.fdiv (a6.length : Int) (2 ^ 8)), IntKind.u8.wrap (a6.length : Int), y15_N_2, 0] : LI) ++ (bytesOf a3)) ++ a6) ++ r5_0) ++ ([IntKind.u8.wrap (Int.fdiv r6_0 (2 ^ 8)), IntKind.u8.wrap r6_0, 165] : LI))) else none))) else none))) else none) else none) else none)) 0 a5)) 1 a2)) else (K 3 ([] : LI))) else (K 3 ([] : LI))) else (Qii k (fun y13_N_1 => (Qij k (fun y15_N_2 => (bif decide (a3.size ≤ 140737488355328) then (bif decide (([IntKind.u8.wrap (Int.fdiv a1 (2 ^ 24)), IntKind.u8.wrap (Int.fdiv a1 (2 ^ 16)), IntKind.u8.wrap (Int.fdiv a1 (2 ^ 8)), IntKind.u8.wrap a1, y13_N_1, IntKind.u8.wrap (a3.size : Int), IntKind.u8.wrap (Int.fdiv a4 (2 ^ 8)), IntKind.u8.wrap a4, IntKind.u8.wrap (Int.fdiv (a6.length : Int) (2 ^ 8)), IntKind.u8.wrap (a6.length : Int), y15_N_2, 0] : LI).length + (bytesOf a3).length ≤ LIM 1) then (bif decide ((([IntKind.u8.wrap (Int.fdiv a1 (2 ^ 24)), IntKind.u8.wrap (Int.fdiv a1 (2 ^ 16)), IntKind.u8.wrap (Int.fdiv a1 (2 ^ 8)), IntKind.u8.wrap a1, y13_N_1, IntKind.u8.wrap (a3.size : Int), IntKind.u8.wrap (Int.fdiv a4 (2 ^ 8)), IntKind.u8.wrap a4, IntKind.u8.wrap (Int.fdiv (a6.length : Int) (2 ^ 8)), IntKind.u8.wrap (a6.length : Int), y15_N_2, 0] : LI) ++ (bytesOf a3)).length + a6.length ≤ LIM 1) then (f104 k (IntKind.i64.wrap ((IntKind.i64.wrap (a0 - 3)) - (((([IntKind.u8.wrap (Int.fdiv a1 (2 ^ 24)), IntKind.u8.wrap (Int.fdiv a1 (2 ^ 16)), IntKind.u8.wrap (Int.fdiv a1 (2 ^ 8)), IntKind.u8.wrap a1, y13_N_1, IntKind.u8.wrap (a3.size : Int), IntKind.u8.wrap (Int.fdiv a4 (2 ^ 8)), IntKind.u8.wrap a4, IntKind.u8.wrap (Int.fdiv (a6.length : Int) (2 ^ 8)), IntKind.u8.wrap (a6.length : Int), y15_N_2, 0] : LI) ++ (bytesOf a3)) ++ a6).length : Int))) (fun r5_0 => (bif decide (((([IntKind.u8.wrap (Int.fdiv a1 (2 ^ 24)), IntKind.u8.wrap (Int.fdiv a1 (2 ^ 16)), IntKind.u8.wrap (Int.fdiv a1 (2 ^ 8)), IntKind.u8.wrap a1, y13_N_1, IntKind.u8.wrap (a3.size : Int), IntKind.u8.wrap (Int.fdiv a4 (2 ^ 8)), IntKind.u8.wrap a4, IntKind.u8.wrap (Int.fdiv (a6.length : Int) (2 ^ 8)), IntKind.u8.wrap (a6.length : Int), y15_N_2, 0] : LI) ++ (bytesOf a3)) ++ a6).length + r5_0.length ≤ LIM 1) then (f105 k (((([IntKind.u8.wrap (Int.fdiv a1 (2 ^ 24)), IntKind.u8.wrap (Int.fdiv a1 (2 ^ 16)), IntKind.u8.wrap (Int.fdiv a1 (2 ^ 8)), IntKind.u8.wrap a1, y13_N_1, IntKind.u8.wrap (a3.size : Int), IntKind.u8.wrap (Int.fdiv a4 (2 ^ 8)), IntKind.u8.wrap a4, IntKind.u8.wrap (Int.fdiv (a6.length : Int) (2 ^ 8)), IntKind.u8.wrap (a6.length : Int), y15_N_2, 0] : LI) ++ (bytesOf a3)) ++ a6) ++ r5_0) (fun r6_0 => (bif decide ((((([IntKind.u8.wrap (Int.fdiv a1 (2 ^ 24)), IntKind.u8.wrap (Int.fdiv a1 (2 ^ 16)), IntKind.u8.wrap (Int.fdiv a1 (2 ^ 8)), IntKind.u8.wrap a1, y13_N_1, IntKind.u8.wrap (a3.size : Int), IntKind.u8.wrap (Int.fdiv a4 (2 ^ 8)), IntKind.u8.wrap a4, IntKind.u8.wrap (Int.fdiv (a6.length : Int) (2 ^ 8)), IntKind.u8.wrap (a6.length : Int), y15_N_2, 0] : LI) ++ (bytesOf a3)) ++ a6) ++ r5_0).length + ([IntKind.u8.wrap (Int.fdiv r6_0 (2 ^ 8)), IntKind.u8.wrap r6_0, 165] : LI).length ≤ LIM 1) then (K 0 ((((([IntKind.u8.wrap (Int.fdiv a1 (2 ^ 24)), IntKind.u8.wrap (Int.fdiv a1 (2 ^ 16)), IntKind.u8.wrap (Int.fdiv a1 (2 ^ 8)), IntKind.u8.wrap a1, y13_N_1, IntKind.u8.wrap (a3.size : Int), IntKind.u8.wrap (Int.fdiv a4 (2 ^ 8)), IntKind.u8.wrap a4, IntKind.u8.wrap (Int.fdiv (a6.length : Int) (2 ^ 8)), IntKind.u8.wrap (a6.length : Int), y15_N_2, 0] : LI) ++ (bytesOf a3)) ++ a6) ++ r5_0) ++ ([IntKind.u8.wrap (Int.fdiv r6_0 (2 ^ 8)), IntKind.u8.wrap r6_0, 165] : LI))) else none))) else none))) else none) else none) else none)) 0 a5)) 1 a2)))))))))))))) else (K 1 ([] : LI)))))
def f54 := hid (@f54d R)
theorem Q11u : @f54 R = @f54d R := Q3
def f34d (k : Nat) (a0 a1 : LI) (K : Bool → Oq R) : Oq R := match k with
 | 0 => none
 | k + 1 => (K ((strOf a0).toList == (strOf a1).toList))
def f34 := hid (@f34d R)
theorem Q11j : @f34 R = @f34d R := Q3
def f112d (k : Nat) (a0 : LI) (K : zK0 R) : Oq R := match k with
 | 0 => none
 | k + 1 => (f102 k a0 (fun r0_0 => (bif r0_0 then (K 1 0 false (⟨#[]⟩ : BA) 0 false ([] : LI)) else (bif (decide (0 ≤ IntKind.i64.wrap ((a0.length : Int) - 1)) && decide (IntKind.i64.wrap ((a0.length : Int) - 1) < (a0.length : Int))) then (bif ((a0.getD (Int.toNat (IntKind.i64.wrap ((a0.length : Int) - 1))) 0) != 165) then (K 2 0 false (⟨#[]⟩ : BA) 0 false ([] : LI)) else (bif decide (5 < (a0.length : Int)) then (f103 k a0 8 (fun r1_0 => (bif decide (IntKind.i64.wrap ((IntKind.i64.wrap (12 + (IntKind.i64.wrap (a0.getD 5 0)))) + r1_0) > IntKind.i64.wrap ((a0.length : Int) - 3)) then (K 3 0 false (⟨#[]⟩ : BA) 0 false ([] : LI)) else (f103 k a0 0 (fun r2_0 => (f103 k a0 2 (fun r3_0 => (bif decide (4 < (a0.length : Int)) then (bif (decide (12 ≤ IntKind.i64.wrap (12 + (IntKind.i64.wrap (a0.getD 5 0)))) && decide (IntKind.i64.wrap (12 + (IntKind.i64.wrap (a0.getD 5 0))) ≤ (a0.length : Int))) then (f103 k a0 6 (fun r4_0 => (bif decide (10 < (a0.length : Int)) then (bif (decide (0 ≤ IntKind.i64.wrap (12 + (IntKind.i64.wrap (a0.getD 5 0)))) && (decide (IntKind.i64.wrap (12 + (IntKind.i64.wrap (a0.getD 5 0))) ≤ IntKind.i64.wrap ((IntKind.i64.wrap (12 + (IntKind.i64.wrap (a0.getD 5 0)))) + r1_0)) && decide (IntKind.i64.wrap ((IntKind.i64.wrap (12 + (IntKind.i64.wrap (a0.getD 5 0)))) + r1_0) ≤ (a0.length : Int)))) then (bif decide (((a0.take (Int.toNat (IntKind.i64.wrap ((IntKind.i64.wrap (12 + (IntKind.i64.wrap (a0.getD 5 0)))) + r1_0)))).drop (Int.toNat (IntKind.i64.wrap (12 + (IntKind.i64.wrap (a0.getD 5 0)))))).length ≤ LIM 1) then (f54 k (a0.length : Int) (IntKind.i64.wrap ((IntKind.i64.wrap (r2_0 * 65536)) + r3_0)) ((a0.getD 4 0) == 2) (strOf ((a0.take (Int.toNat (IntKind.i64.wrap (12 + (IntKind.i64.wrap (a0.getD 5 0)))))).drop 12)) r4_0 ((a0.getD 10 0) == 1) ((a0.take (Int.toNat (IntKind.i64.wrap ((IntKind.i64.wrap (12 + (IntKind.i64.wrap (a0.getD 5 0)))) + r1_0)))).drop (Int.toNat (IntKind.i64.wrap (12 + (IntKind.i64.wrap (a0.getD 5 0)))))) (fun r5_0 r5_1 => (bif ((r5_0 != 0) == false) then (f34 k r5_1 a0 (fun r6_0 => (bif (!r6_0) then (K 3 0 false (⟨#[]⟩ : BA) 0 false ([] : LI)) else (K 4 (IntKind.i64.wrap ((IntKind.i64.wrap (r2_0 * 65536)) + r3_0)) ((a0.getD 4 0) == 2) (strOf ((a0.take (Int.toNat (IntKind.i64.wrap (12 + (IntKind.i64.wrap (a0.getD 5 0)))))).drop 12)) r4_0 ((a0.getD 10 0) == 1) ((a0.take (Int.toNat (IntKind.i64.wrap ((IntKind.i64.wrap (12 + (IntKind.i64.wrap (a0.getD 5 0)))) + r1_0)))).drop (Int.toNat (IntKind.i64.wrap (12 + (IntKind.i64.wrap (a0.getD 5 0)))))))))) else (K 3 0 false (⟨#[]⟩ : BA) 0 false ([] : LI))))) else none) else none) else none))) else none) else none)))))))) else none)) else none))))
def f112 := hid (@f112d R)
theorem Qr8 : @f112 R = @f112d R := Q3
def f61d (k : Nat) (a0 a1 a2 : Int) (a3 a4 a5 : LI) (a6 : Int) (K : Int → Oq R) : Oq R := match k with
 | 0 => none
 | k + 1 => (bif (!(a1 == 0)) then (f101 k a0 a1 a2 a3 a4 a5 (IntKind.i64.wrap (Int.tdiv a6 a1)) (fun r0_0 => (bif r0_0 then (K 0) else (f90 k a0 a1 a2 a3 a4 a5 a6 (fun r1_0 => (f112 k r1_0 (fun r2_0 r2_1 r2_2 r2_3 r2_4 r2_5 r2_6 => (K r2_0)))))))) else none)
def f61 := hid (@f61d R)
theorem Q11x : @f61 R = @f61d R := Q3
def Q115 (k : Nat) (rec : Int → LI → Oq R) (x0 : LI → Oq R) (c1 c2 c3 : Int) (c4 c5 c6 : LI) (c0 : Int) (c7 : LI) : Oq R :=
 (f60 k c1 c2 c3 c4 c5 c6 (fun r0_0 => (bif decide (c0 < r0_0) then (f61 k c1 c2 c3 c4 c5 c6 c0 (fun r1_0 => (bif decide (c7.length + ([r1_0] : LI).length ≤ LIM 8) then (rec (IntKind.i64.wrap (c0 + 1)) (c7 ++ ([r1_0] : LI))) else none))) else (x0 c7))))
def Qa2 (k : Nat) (x0 : LI → Oq R) (c1 c2 c3 : Int) (c4 c5 c6 : LI) : Nat → Int → LI → Oq R
 | 0, _, _ => none
 | m + 1, c0, c7 => Q115 k (Qa2 k x0 c1 c2 c3 c4 c5 c6 m) x0 c1 c2 c3 c4 c5 c6 c0 c7
def f18_0 := hid (@Qa2 R)
theorem Qki : @f18_0 R = @Qa2 R := Q3
def f18d (k : Nat) (a0 a1 a2 : Int) (a3 a4 a5 : LI) (K : Int → LI → Oq R) : Oq R := match k with
 | 0 => none
 | k + 1 => (f20 k a0 a1 a2 a3 a4 a5 (fun r0_0 => (bif (r0_0 != 0) then (K r0_0 ([] : LI)) else (f18_0 k (fun p0 => (K 0 p0)) a0 a1 a2 a3 a4 a5 k 0 ([] : LI)))))
def f18 := hid (@f18d R)
theorem Q116 : @f18 R = @f18d R := Q3
def Q11d (k : Nat) (rec : Int → Oq R) (K : Bool → Oq R) (x0 : Oq R) (c0 c1 : LI) (c2 c3 : Int) : Oq R :=
 (bif decide (c3 < c2) then (bif (decide (0 ≤ c3) && decide (c3 < (c0.length : Int))) then (bif (decide (0 ≤ c3) && decide (c3 < (c1.length : Int))) then (bif ((c0.getD c3.toNat 0) != (c1.getD c3.toNat 0)) then (K false) else (rec (IntKind.i64.wrap (c3 + 1)))) else none) else none) else x0)
def Qa6 (k : Nat) (K : Bool → Oq R) (x0 : Oq R) (c0 c1 : LI) (c2 : Int) : Nat → Int → Oq R
 | 0, _ => none
 | m + 1, c3 => Q11d k (Qa6 k K x0 c0 c1 c2 m) K x0 c0 c1 c2 c3
def f21_0 := hid (@Qa6 R)
theorem Qkm : @f21_0 R = @Qa6 R := Q3
def f21d (k : Nat) (a0 a1 : LI) (K : Bool → Oq R) : Oq R := match k with
 | 0 => none
 | k + 1 => (bif ((a0.length : Int) != (a1.length : Int)) then (K false) else (f21_0 k K (K true) a0 a1 (a0.length : Int) k 0))
def f21 := hid (@f21d R)
theorem Q11e : @f21 R = @f21d R := Q3
def f138d (k : Nat) (a0 : Int) (K : Bool → Oq R) : Oq R := match k with
 | 0 => none
 | k + 1 => (K (a0 != a0))
def f138 := hid (@f138d R)
theorem Qrr : @f138 R = @f138d R := Q3
def f115d (k : Nat) (a0 a1 : Int) (K : Int → Oq R) : Oq R := match k with
 | 0 => none
 | k + 1 => (f138 k a0 (fun r0_0 => (f138 k a1 (fun r1_0 => (bif r0_0 then (bif r1_0 then (K 0) else (K (-1))) else (bif r1_0 then (K 1) else (bif decide (a0 < a1) then (K (-1)) else (bif decide (a0 > a1) then (K 1) else (K 0)))))))))
def f115 := hid (@f115d R)
theorem Qrb : @f115 R = @f115d R := Q3
def f114d (k : Nat) (a0 a1 a2 a3 a4 : Int) (a5 a6 a7 a8 : LI) (a9 : zL1) (a10 : Int) (K : zK2 R) : Oq R := match k with
 | 0 => none
 | k + 1 => (bif (!(a3 == 0)) then (bif (decide (0 ≤ IntKind.i64.wrap (Int.tdiv a0 a3)) && decide (IntKind.i64.wrap (Int.tdiv a0 a3) < (a6.length : Int))) then (bif (!(a3 == 0)) then (bif (decide (0 ≤ IntKind.i64.wrap (Int.tdiv a1 a3)) && decide (IntKind.i64.wrap (Int.tdiv a1 a3) < (a6.length : Int))) then (f115 k (a6.getD (Int.toNat (IntKind.i64.wrap (Int.tdiv a0 a3))) 0) (a6.getD (Int.toNat (IntKind.i64.wrap (Int.tdiv a1 a3))) 0) (fun r0_0 => (K r0_0 a2 a3 a4 a5 a6 a7 a8 a9 a10))) else none) else none) else none) else none)
def f114 := hid (@f114d R)
theorem Qra : @f114 R = @f114d R := Q3
def Qo8 (k : Nat) (rec : zK3 R) (x2 : zK4 R) (c0 c1 c2 c3 : Int) (c4 : LI) (c5 c6 c7 : Int) (c8 c9 c10 c11 : LI) (c12 : zL1) (c13 : Int) : Oq R :=
 (bif (decide (c3 > c0) == true) then (bif (decide (0 ≤ c3) && decide (c3 < (c4.length : Int))) then (bif (decide (0 ≤ IntKind.i64.wrap (c3 - 1)) && decide (IntKind.i64.wrap (c3 - 1) < (c4.length : Int))) then (f114 k (c4.getD c3.toNat 0) (c4.getD (Int.toNat (IntKind.i64.wrap (c3 - 1))) 0) c5 c6 c7 c8 c9 c10 c11 c12 c13 (fun r0_0 r0_1 r0_2 r0_3 r0_4 r0_5 r0_6 r0_7 r0_8 r0_9 => (bif decide (r0_0 < 0) then (bif (decide (0 ≤ IntKind.i64.wrap (c3 - 1)) && decide (IntKind.i64.wrap (c3 - 1) < (c4.length : Int))) then (bif (decide (0 ≤ c3) && decide (c3 < (c4.length : Int))) then (bif (decide (0 ≤ c3) && decide (c3 < (c4.length : Int))) then (bif (decide (0 ≤ IntKind.i64.wrap (c3 - 1)) && decide (IntKind.i64.wrap (c3 - 1) < ((c4.set c3.toNat (c4.getD (Int.toNat (IntKind.i64.wrap (c3 - 1))) 0)).length : Int))) then (rec (IntKind.i64.wrap (c3 - 1)) ((c4.set c3.toNat (c4.getD (Int.toNat (IntKind.i64.wrap (c3 - 1))) 0)).set (Int.toNat (IntKind.i64.wrap (c3 - 1))) (c4.getD c3.toNat 0)) r0_1 r0_2 r0_3 r0_4 r0_5 r0_6 r0_7 r0_8 r0_9) else none) else none) else none) else none) else (x2 c4 r0_1 r0_2 r0_3 r0_4 r0_5 r0_6 r0_7 r0_8 r0_9)))) else none) else none) else (x2 c4 c5 c6 c7 c8 c9 c10 c11 c12 c13))
def Q5b (k : Nat) (x2 : zK4 R) (c0 c1 c2 : Int) : Nat → Int → LI → Int → Int → Int → LI → LI → LI → LI → zL1 → Int → Oq R
 | 0, _, _, _, _, _, _, _, _, _, _, _ => none
 | m + 1, c3, c4, c5, c6, c7, c8, c9, c10, c11, c12, c13 => Qo8 k (Q5b k x2 c0 c1 c2 m) x2 c0 c1 c2 c3 c4 c5 c6 c7 c8 c9 c10 c11 c12 c13
def Q110 := hid (@Q5b R)
theorem Qew : @Q110 R = @Q5b R := Q3
def Qi5 (k : Nat) (rec : zK3 R) (x0 : zK4 R) (c0 c1 c2 : Int) (c3 : LI) (c4 c5 c6 : Int) (c7 c8 c9 c10 : LI) (c11 : zL1) (c12 : Int) : Oq R :=
 (bif decide (c2 < c1) then (Q110 k (fun p3 p4 p5 p6 p7 p8 p9 p10 p11 p12 => (rec (IntKind.i64.wrap (c2 + 1)) p3 p4 p5 p6 p7 p8 p9 p10 p11 p12)) c0 c1 c2 k c2 c3 c4 c5 c6 c7 c8 c9 c10 c11 c12) else (x0 c3 c4 c5 c6 c7 c8 c9 c10 c11 c12))
def Q3d (k : Nat) (x0 : zK4 R) (c0 c1 : Int) : Nat → Int → LI → Int → Int → Int → LI → LI → LI → LI → zL1 → Int → Oq R
 | 0, _, _, _, _, _, _, _, _, _, _, _ => none
 | m + 1, c2, c3, c4, c5, c6, c7, c8, c9, c10, c11, c12 => Qi5 k (Q3d k x0 c0 c1 m) x0 c0 c1 c2 c3 c4 c5 c6 c7 c8 c9 c10 c11 c12
def Q10z := hid (@Q3d R)
theorem Qev : @Q10z R = @Q3d R := Q3
def f148d (k : Nat) (a0 a1 : Int) (a2 : LI) (a3 a4 a5 : Int) (a6 a7 a8 a9 : LI) (a10 : zL1) (a11 : Int) (K : zK4 R) : Oq R := match k with
 | 0 => none
 | k + 1 => (Q10z k (fun p0 p1 p2 p3 p4 p5 p6 p7 p8 p9 => (K p0 p1 p2 p3 p4 p5 p6 p7 p8 p9)) a0 a1 k (IntKind.i64.wrap (a0 + 1)) a2 a3 a4 a5 a6 a7 a8 a9 a10 a11)
def f148 := hid (@f148d R)
theorem Qrv : @f148 R = @f148d R := Q3
def Qob (k : Nat) (rec : Int → LI → Oq R) (x0 : LI → Oq R) (c0 c1 c2 c5 c6 c7 : Int) (c8 c9 c10 c11 : LI) (c12 : zL1) (c13 c3 : Int) (c4 : LI) : Oq R :=
 (bif decide (c3 < c2) then (bif (decide (0 ≤ IntKind.i64.wrap (c1 + c3)) && decide (IntKind.i64.wrap (c1 + c3) < (c4.length : Int))) then (bif (decide (0 ≤ IntKind.i64.wrap (c0 + c3)) && decide (IntKind.i64.wrap (c0 + c3) < (c4.length : Int))) then (bif (decide (0 ≤ IntKind.i64.wrap (c0 + c3)) && decide (IntKind.i64.wrap (c0 + c3) < (c4.length : Int))) then (bif (decide (0 ≤ IntKind.i64.wrap (c1 + c3)) && decide (IntKind.i64.wrap (c1 + c3) < ((c4.set (Int.toNat (IntKind.i64.wrap (c0 + c3))) (c4.getD (Int.toNat (IntKind.i64.wrap (c1 + c3))) 0)).length : Int))) then (rec (IntKind.i64.wrap (c3 + 1)) ((c4.set (Int.toNat (IntKind.i64.wrap (c0 + c3))) (c4.getD (Int.toNat (IntKind.i64.wrap (c1 + c3))) 0)).set (Int.toNat (IntKind.i64.wrap (c1 + c3))) (c4.getD (Int.toNat (IntKind.i64.wrap (c0 + c3))) 0))) else none) else none) else none) else none) else (x0 c4))
def Q5g (k : Nat) (x0 : LI → Oq R) (c0 c1 c2 c5 c6 c7 : Int) (c8 c9 c10 c11 : LI) (c12 : zL1) (c13 : Int) : Nat → Int → LI → Oq R
 | 0, _, _ => none
 | m + 1, c3, c4 => Qob k (Q5g k x0 c0 c1 c2 c5 c6 c7 c8 c9 c10 c11 c12 c13 m) x0 c0 c1 c2 c5 c6 c7 c8 c9 c10 c11 c12 c13 c3 c4
def Q119 := hid (@Q5g R)
theorem Qf3 : @Q119 R = @Q5g R := Q3
def f202d (k : Nat) (a0 a1 a2 : Int) (a3 : LI) (a4 a5 a6 : Int) (a7 a8 a9 a10 : LI) (a11 : zL1) (a12 : Int) (K : zK4 R) : Oq R := match k with
 | 0 => none
 | k + 1 => (Q119 k (fun p0 => (K p0 a4 a5 a6 a7 a8 a9 a10 a11 a12)) a0 a1 a2 a4 a5 a6 a7 a8 a9 a10 a11 a12 k 0 a3)
def f202 := hid (@f202d R)
theorem Qs4 : @f202 R = @f202d R := Q3
def Q83 (k : Nat) (xN : zK5 R) (c0 c1 c2 : Int) (c3 : Bool) (c4 : LI) (c5 c6 c7 : Int) (c8 c9 c10 c11 : LI) (c12 : zL1) (c13 : Int) : Oq R :=
 (bif c3 then (f202 k (IntKind.i64.wrap (c0 - c1)) c0 c2 c4 c5 c6 c7 c8 c9 c10 c11 c12 c13 (fun r0_0 r0_1 r0_2 r0_3 r0_4 r0_5 r0_6 r0_7 r0_8 r0_9 => (bif (decide (r0_0.length = c4.length) && true) then (xN (IntKind.i64.wrap (c1 - c2)) c2 r0_0 r0_1 r0_2 r0_3 r0_4 r0_5 r0_6 r0_7 r0_8 r0_9) else none))) else (f202 k (IntKind.i64.wrap (c0 - c1)) (IntKind.i64.wrap ((IntKind.i64.wrap (c0 + c2)) - c1)) c1 c4 c5 c6 c7 c8 c9 c10 c11 c12 c13 (fun r1_0 r1_1 r1_2 r1_3 r1_4 r1_5 r1_6 r1_7 r1_8 r1_9 => (bif (decide (r1_0.length = c4.length) && true) then (xN c1 (IntKind.i64.wrap (c2 - c1)) r1_0 r1_1 r1_2 r1_3 r1_4 r1_5 r1_6 r1_7 r1_8 r1_9) else none))))
def Qie := hid (@Q83 R)
theorem Q5f : @Qie R = @Q83 R := Q3
def Qid (k : Nat) (rec : zK5 R) (x0 : zK3 R) (c0 c1 c2 : Int) (c3 : LI) (c4 c5 c6 : Int) (c7 c8 c9 c10 : LI) (c11 : zL1) (c12 : Int) : Oq R :=
 (bif (c1 != c2) then (Qie k (fun p1 p2 p3 p4 p5 p6 p7 p8 p9 p10 p11 p12 => (rec p1 p2 p3 p4 p5 p6 p7 p8 p9 p10 p11 p12)) c0 c1 c2 (decide (c1 > c2)) c3 c4 c5 c6 c7 c8 c9 c10 c11 c12) else (x0 c1 c3 c4 c5 c6 c7 c8 c9 c10 c11 c12))
def Q41 (k : Nat) (x0 : zK3 R) (c0 : Int) : Nat → Int → Int → LI → Int → Int → Int → LI → LI → LI → LI → zL1 → Int → Oq R
 | 0, _, _, _, _, _, _, _, _, _, _, _, _ => none
 | m + 1, c1, c2, c3, c4, c5, c6, c7, c8, c9, c10, c11, c12 => Qid k (Q41 k x0 c0 m) x0 c0 c1 c2 c3 c4 c5 c6 c7 c8 c9 c10 c11 c12
def Q114 := hid (@Q41 R)
theorem Qf2 : @Q114 R = @Q41 R := Q3
def f186d (k : Nat) (a0 a1 a2 : Int) (a3 : LI) (a4 a5 a6 : Int) (a7 a8 a9 a10 : LI) (a11 : zL1) (a12 : Int) (K : zK4 R) : Oq R := match k with
 | 0 => none
 | k + 1 => (Q114 k (fun p1 p2 p3 p4 p5 p6 p7 p8 p9 p10 p11 => (f202 k (IntKind.i64.wrap (a1 - p1)) a1 p1 p2 p3 p4 p5 p6 p7 p8 p9 p10 p11 (fun r0_0 r0_1 r0_2 r0_3 r0_4 r0_5 r0_6 r0_7 r0_8 r0_9 => (bif (decide (r0_0.length = p2.length) && true) then (K r0_0 r0_1 r0_2 r0_3 r0_4 r0_5 r0_6 r0_7 r0_8 r0_9) else none)))) a1 k (IntKind.i64.wrap (a1 - a0)) (IntKind.i64.wrap (a2 - a1)) a3 a4 a5 a6 a7 a8 a9 a10 a11 a12)
def f186 := hid (@f186d R)
theorem Qs2 : @f186 R = @f186d R := Q3
def Qbt (k : Nat) (xN : Int → Int → Oq R) (c1 c2 c3 : Int) (c4 : Bool) : Oq R :=
 (bif c4 then (xN (IntKind.i64.wrap (c3 + 1)) c2) else (xN c1 c3))
def Qi9 := hid (@Qbt R)
theorem Q9y : @Qi9 R = @Qbt R := Q3
def Qi6 (k : Nat) (rec : zK6 R) (x0 : zK2 R) (c0 : Int) (c3 : LI) (c1 c2 c4 c5 c6 : Int) (c7 c8 c9 c10 : LI) (c11 : zL1) (c12 : Int) : Oq R :=
 (bif decide (c1 < c2) then (bif (decide (0 ≤ IntKind.i64.wrap (Int.fdiv (IntKind.u64.wrap (IntKind.i64.wrap (c1 + c2))) (2 ^ 1))) && decide (IntKind.i64.wrap (Int.fdiv (IntKind.u64.wrap (IntKind.i64.wrap (c1 + c2))) (2 ^ 1)) < (c3.length : Int))) then (bif (decide (0 ≤ c0) && decide (c0 < (c3.length : Int))) then (f114 k (c3.getD (Int.toNat (IntKind.i64.wrap (Int.fdiv (IntKind.u64.wrap (IntKind.i64.wrap (c1 + c2))) (2 ^ 1)))) 0) (c3.getD c0.toNat 0) c4 c5 c6 c7 c8 c9 c10 c11 c12 (fun r0_0 r0_1 r0_2 r0_3 r0_4 r0_5 r0_6 r0_7 r0_8 r0_9 => (Qi9 k (fun p1 p2 => (rec p1 p2 r0_1 r0_2 r0_3 r0_4 r0_5 r0_6 r0_7 r0_8 r0_9)) c1 c2 (IntKind.i64.wrap (Int.fdiv (IntKind.u64.wrap (IntKind.i64.wrap (c1 + c2))) (2 ^ 1))) (decide (r0_0 < 0))))) else none) else none) else (x0 c1 c4 c5 c6 c7 c8 c9 c10 c11 c12))
def Q3x (k : Nat) (x0 : zK2 R) (c0 : Int) (c3 : LI) : Nat → Int → Int → Int → Int → Int → LI → LI → LI → LI → zL1 → Int → Oq R
 | 0, _, _, _, _, _, _, _, _, _, _, _ => none
 | m + 1, c1, c2, c4, c5, c6, c7, c8, c9, c10, c11, c12 => Qi6 k (Q3x k x0 c0 c3 m) x0 c0 c3 c1 c2 c4 c5 c6 c7 c8 c9 c10 c11 c12
def Qrw := hid (@Q3x R)
theorem Qex : @Qrw R = @Q3x R := Q3
def Qo9 (k : Nat) (rec : Int → LI → Oq R) (x2 : LI → Oq R) (c0 c3 c4 c5 : Int) (c6 c7 c8 c9 : LI) (c10 : zL1) (c11 c1 : Int) (c2 : LI) : Oq R :=
 (bif decide (c1 < IntKind.i64.wrap (c0 - 1)) then (bif (decide (0 ≤ IntKind.i64.wrap (c1 + 1)) && decide (IntKind.i64.wrap (c1 + 1) < (c2.length : Int))) then (bif (decide (0 ≤ c1) && decide (c1 < (c2.length : Int))) then (bif (decide (0 ≤ c1) && decide (c1 < (c2.length : Int))) then (bif (decide (0 ≤ IntKind.i64.wrap (c1 + 1)) && decide (IntKind.i64.wrap (c1 + 1) < ((c2.set c1.toNat (c2.getD (Int.toNat (IntKind.i64.wrap (c1 + 1))) 0)).length : Int))) then (rec (IntKind.i64.wrap (c1 + 1)) ((c2.set c1.toNat (c2.getD (Int.toNat (IntKind.i64.wrap (c1 + 1))) 0)).set (Int.toNat (IntKind.i64.wrap (c1 + 1))) (c2.getD c1.toNat 0))) else none) else none) else none) else none) else (x2 c2))
def Q5c (k : Nat) (x2 : LI → Oq R) (c0 c3 c4 c5 : Int) (c6 c7 c8 c9 : LI) (c10 : zL1) (c11 : Int) : Nat → Int → LI → Oq R
 | 0, _, _ => none
 | m + 1, c1, c2 => Qo9 k (Q5c k x2 c0 c3 c4 c5 c6 c7 c8 c9 c10 c11 m) x2 c0 c3 c4 c5 c6 c7 c8 c9 c10 c11 c1 c2
def Qrx := hid (@Q5c R)
theorem Qey : @Qrx R = @Q5c R := Q3
def Qbu (k : Nat) (xN : Int → Int → Oq R) (c1 c2 c3 : Int) (c4 : Bool) : Oq R :=
 (bif c4 then (xN (IntKind.i64.wrap (c3 + 1)) c2) else (xN c1 c3))
def Qia := hid (@Qbu R)
theorem Q9z : @Qia R = @Qbu R := Q3
def Qi7 (k : Nat) (rec : zK6 R) (x4 : zK2 R) (c0 : Int) (c3 : LI) (c1 c2 c4 c5 c6 : Int) (c7 c8 c9 c10 : LI) (c11 : zL1) (c12 : Int) : Oq R :=
 (bif decide (c1 < c2) then (bif (decide (0 ≤ c0) && decide (c0 < (c3.length : Int))) then (bif (decide (0 ≤ IntKind.i64.wrap (Int.fdiv (IntKind.u64.wrap (IntKind.i64.wrap (c1 + c2))) (2 ^ 1))) && decide (IntKind.i64.wrap (Int.fdiv (IntKind.u64.wrap (IntKind.i64.wrap (c1 + c2))) (2 ^ 1)) < (c3.length : Int))) then (f114 k (c3.getD c0.toNat 0) (c3.getD (Int.toNat (IntKind.i64.wrap (Int.fdiv (IntKind.u64.wrap (IntKind.i64.wrap (c1 + c2))) (2 ^ 1)))) 0) c4 c5 c6 c7 c8 c9 c10 c11 c12 (fun r0_0 r0_1 r0_2 r0_3 r0_4 r0_5 r0_6 r0_7 r0_8 r0_9 => (Qia k (fun p1 p2 => (rec p1 p2 r0_1 r0_2 r0_3 r0_4 r0_5 r0_6 r0_7 r0_8 r0_9)) c1 c2 (IntKind.i64.wrap (Int.fdiv (IntKind.u64.wrap (IntKind.i64.wrap (c1 + c2))) (2 ^ 1))) (!decide (r0_0 < 0))))) else none) else none) else (x4 c1 c4 c5 c6 c7 c8 c9 c10 c11 c12))
def Q3y (k : Nat) (x4 : zK2 R) (c0 : Int) (c3 : LI) : Nat → Int → Int → Int → Int → Int → LI → LI → LI → LI → zL1 → Int → Oq R
 | 0, _, _, _, _, _, _, _, _, _, _, _ => none
 | m + 1, c1, c2, c4, c5, c6, c7, c8, c9, c10, c11, c12 => Qi7 k (Q3y k x4 c0 c3 m) x4 c0 c3 c1 c2 c4 c5 c6 c7 c8 c9 c10 c11 c12
def Qry := hid (@Q3y R)
theorem Qez : @Qry R = @Q3y R := Q3
def Qoa (k : Nat) (rec : Int → LI → Oq R) (x6 : LI → Oq R) (c0 c3 c4 c5 : Int) (c6 c7 c8 c9 : LI) (c10 : zL1) (c11 c1 : Int) (c2 : LI) : Oq R :=
 (bif decide (c1 > c0) then (bif (decide (0 ≤ IntKind.i64.wrap (c1 - 1)) && decide (IntKind.i64.wrap (c1 - 1) < (c2.length : Int))) then (bif (decide (0 ≤ c1) && decide (c1 < (c2.length : Int))) then (bif (decide (0 ≤ c1) && decide (c1 < (c2.length : Int))) then (bif (decide (0 ≤ IntKind.i64.wrap (c1 - 1)) && decide (IntKind.i64.wrap (c1 - 1) < ((c2.set c1.toNat (c2.getD (Int.toNat (IntKind.i64.wrap (c1 - 1))) 0)).length : Int))) then (rec (IntKind.i64.wrap (c1 - 1)) ((c2.set c1.toNat (c2.getD (Int.toNat (IntKind.i64.wrap (c1 - 1))) 0)).set (Int.toNat (IntKind.i64.wrap (c1 - 1))) (c2.getD c1.toNat 0))) else none) else none) else none) else none) else (x6 c2))
def Q5d (k : Nat) (x6 : LI → Oq R) (c0 c3 c4 c5 : Int) (c6 c7 c8 c9 : LI) (c10 : zL1) (c11 : Int) : Nat → Int → LI → Oq R
 | 0, _, _ => none
 | m + 1, c1, c2 => Qoa k (Q5d k x6 c0 c3 c4 c5 c6 c7 c8 c9 c10 c11 m) x6 c0 c3 c4 c5 c6 c7 c8 c9 c10 c11 c1 c2
def Qrz := hid (@Q5d R)
theorem Qf0 : @Qrz R = @Q5d R := Q3
def Q80 (k : Nat) (xN : Int → Int → Oq R) (c0 c1 c2 c3 c4 : Int) (c5 : Bool) : Oq R :=
 (bif c5 then (xN (IntKind.i64.wrap (c4 - c2)) c3) else (xN c0 c1))
def Q7z := hid (@Q80 R)
theorem Q5e : @Q7z R = @Q80 R := Q3
def Qbv (k : Nat) (xN : Int → Int → Oq R) (c5 c6 c8 : Int) (c9 : Bool) : Oq R :=
 (bif c9 then (xN (IntKind.i64.wrap (c8 + 1)) c6) else (xN c5 c8))
def Qib := hid (@Qbv R)
theorem Qa0 : @Qib R = @Qbv R := Q3
def Qi8 (k : Nat) (rec : zK6 R) (x8 : zK2 R) (c0 c1 c2 c3 c4 c7 : Int) (c8 : LI) (c5 c6 c9 c10 c11 : Int) (c12 c13 c14 c15 : LI) (c16 : zL1) (c17 : Int) : Oq R :=
 (bif decide (c5 < c6) then (bif (decide (0 ≤ IntKind.i64.wrap (c7 - (IntKind.i64.wrap (Int.fdiv (IntKind.u64.wrap (IntKind.i64.wrap (c5 + c6))) (2 ^ 1))))) && decide (IntKind.i64.wrap (c7 - (IntKind.i64.wrap (Int.fdiv (IntKind.u64.wrap (IntKind.i64.wrap (c5 + c6))) (2 ^ 1)))) < (c8.length : Int))) then (bif (decide (0 ≤ IntKind.i64.wrap (Int.fdiv (IntKind.u64.wrap (IntKind.i64.wrap (c5 + c6))) (2 ^ 1))) && decide (IntKind.i64.wrap (Int.fdiv (IntKind.u64.wrap (IntKind.i64.wrap (c5 + c6))) (2 ^ 1)) < (c8.length : Int))) then (f114 k (c8.getD (Int.toNat (IntKind.i64.wrap (c7 - (IntKind.i64.wrap (Int.fdiv (IntKind.u64.wrap (IntKind.i64.wrap (c5 + c6))) (2 ^ 1)))))) 0) (c8.getD (Int.toNat (IntKind.i64.wrap (Int.fdiv (IntKind.u64.wrap (IntKind.i64.wrap (c5 + c6))) (2 ^ 1)))) 0) c9 c10 c11 c12 c13 c14 c15 c16 c17 (fun r0_0 r0_1 r0_2 r0_3 r0_4 r0_5 r0_6 r0_7 r0_8 r0_9 => (Qib k (fun p5 p6 => (rec p5 p6 r0_1 r0_2 r0_3 r0_4 r0_5 r0_6 r0_7 r0_8 r0_9)) c5 c6 (IntKind.i64.wrap (Int.fdiv (IntKind.u64.wrap (IntKind.i64.wrap (c5 + c6))) (2 ^ 1))) (!decide (r0_0 < 0))))) else none) else none) else (x8 c5 c9 c10 c11 c12 c13 c14 c15 c16 c17))
def Q3z (k : Nat) (x8 : zK2 R) (c0 c1 c2 c3 c4 c7 : Int) (c8 : LI) : Nat → Int → Int → Int → Int → Int → LI → LI → LI → LI → zL1 → Int → Oq R
 | 0, _, _, _, _, _, _, _, _, _, _, _ => none
 | m + 1, c5, c6, c9, c10, c11, c12, c13, c14, c15, c16, c17 => Qi8 k (Q3z k x8 c0 c1 c2 c3 c4 c7 c8 m) x8 c0 c1 c2 c3 c4 c7 c8 c5 c6 c9 c10 c11 c12 c13 c14 c15 c16 c17
def Qs0 := hid (@Q3z R)
theorem Qf1 : @Qs0 R = @Q3z R := Q3
def Q81 (k : Nat) (xN : zK4 R) (c1 c4 c5 : Int) (c6 : Bool) (c7 : LI) (c8 c9 c10 : Int) (c11 c12 c13 c14 : LI) (c15 : zL1) (c16 : Int) : Oq R :=
 (bif c6 then (f186 k c4 c1 c5 c7 c8 c9 c10 c11 c12 c13 c14 c15 c16 (fun r0_0 r0_1 r0_2 r0_3 r0_4 r0_5 r0_6 r0_7 r0_8 r0_9 => (bif (decide (r0_0.length = c7.length) && true) then (xN r0_0 r0_1 r0_2 r0_3 r0_4 r0_5 r0_6 r0_7 r0_8 r0_9) else none))) else (xN c7 c8 c9 c10 c11 c12 c13 c14 c15 c16))
def Q40 := hid (@Q81 R)
theorem Qa1 : @Q40 R = @Q81 R := Q3
def f149b (k : Nat) (rc : Int → Int → Int → LI → Int → Int → Int → LI → LI → LI → LI → zL1 → Int → (LI → Int → Int → Int → LI → LI → LI → LI → zL1 → Int → Oq R) → Oq R) (a0 a1 a2 : Int) (a3 : LI) (a4 a5 a6 : Int) (a7 a8 a9 a10 : LI) (a11 : zL1) (a12 : Int) (K : zK4 R) : Oq R :=
 (bif (IntKind.i64.wrap (a1 - a0) == 1) then (Qrw k (fun y0_0_1 y0_0_3 y0_0_4 y0_0_5 y0_0_6 y0_0_7 y0_0_8 y0_0_9 y0_0_10 y0_0_11 => (Qrx k (fun y2_2_0 => (K y2_2_0 y0_0_3 y0_0_4 y0_0_5 y0_0_6 y0_0_7 y0_0_8 y0_0_9 y0_0_10 y0_0_11)) y0_0_1 y0_0_3 y0_0_4 y0_0_5 y0_0_6 y0_0_7 y0_0_8 y0_0_9 y0_0_10 y0_0_11 k a0 a3)) a0 a3 k a1 a2 a4 a5 a6 a7 a8 a9 a10 a11 a12) else (bif (IntKind.i64.wrap (a2 - a1) == 1) then (Qry k (fun y4_4_1 y4_4_3 y4_4_4 y4_4_5 y4_4_6 y4_4_7 y4_4_8 y4_4_9 y4_4_10 y4_4_11 => (Qrz k (fun y6_6_0 => (K y6_6_0 y4_4_3 y4_4_4 y4_4_5 y4_4_6 y4_4_7 y4_4_8 y4_4_9 y4_4_10 y4_4_11)) y4_4_1 y4_4_3 y4_4_4 y4_4_5 y4_4_6 y4_4_7 y4_4_8 y4_4_9 y4_4_10 y4_4_11 k a1 a3)) a1 a3 k a0 a1 a4 a5 a6 a7 a8 a9 a10 a11 a12) else (Q7z k (fun y28_N_5 y28_N_6 => (Qs0 k (fun y8_8_5 y8_8_7 y8_8_8 y8_8_9 y8_8_10 y8_8_11 y8_8_12 y8_8_13 y8_8_14 y8_8_15 => (bif (decide (y8_8_5 < a1) == true) then (Q40 k (fun y40_N_5 y40_N_6 y40_N_7 y40_N_8 y40_N_9 y40_N_10 y40_N_11 y40_N_12 y40_N_13 y40_N_14 => (bif (decide (a0 < y8_8_5) == true) then (bif decide (y8_8_5 < IntKind.i64.wrap (Int.fdiv (IntKind.u64.wrap (IntKind.i64.wrap (a0 + a2))) (2 ^ 1))) then (rc a0 y8_8_5 (IntKind.i64.wrap (Int.fdiv (IntKind.u64.wrap (IntKind.i64.wrap (a0 + a2))) (2 ^ 1))) y40_N_5 y40_N_6 y40_N_7 y40_N_8 y40_N_9 y40_N_10 y40_N_11 y40_N_12 y40_N_13 y40_N_14 (fun r0_0 r0_1 r0_2 r0_3 r0_4 r0_5 r0_6 r0_7 r0_8 r0_9 => (bif (decide (r0_0.length = y40_N_5.length) && true) then (bif (decide (IntKind.i64.wrap (Int.fdiv (IntKind.u64.wrap (IntKind.i64.wrap (a0 + a2))) (2 ^ 1)) < IntKind.i64.wrap ((IntKind.i64.wrap ((IntKind.i64.wrap (Int.fdiv (IntKind.u64.wrap (IntKind.i64.wrap (a0 + a2))) (2 ^ 1))) + a1)) - y8_8_5)) == true) then (bif decide (IntKind.i64.wrap ((IntKind.i64.wrap ((IntKind.i64.wrap (Int.fdiv (IntKind.u64.wrap (IntKind.i64.wrap (a0 + a2))) (2 ^ 1))) + a1)) - y8_8_5) < a2) then (rc (IntKind.i64.wrap (Int.fdiv (IntKind.u64.wrap (IntKind.i64.wrap (a0 + a2))) (2 ^ 1))) (IntKind.i64.wrap ((IntKind.i64.wrap ((IntKind.i64.wrap (Int.fdiv (IntKind.u64.wrap (IntKind.i64.wrap (a0 + a2))) (2 ^ 1))) + a1)) - y8_8_5)) a2 r0_0 r0_1 r0_2 r0_3 r0_4 r0_5 r0_6 r0_7 r0_8 r0_9 (fun r1_0 r1_1 r1_2 r1_3 r1_4 r1_5 r1_6 r1_7 r1_8 r1_9 => (bif (decide (r1_0.length = r0_0.length) && true) then (K r1_0 r1_1 r1_2 r1_3 r1_4 r1_5 r1_6 r1_7 r1_8 r1_9) else none))) else (K r0_0 r0_1 r0_2 r0_3 r0_4 r0_5 r0_6 r0_7 r0_8 r0_9)) else (K r0_0 r0_1 r0_2 r0_3 r0_4 r0_5 r0_6 r0_7 r0_8 r0_9)) else none))) else (bif (decide (IntKind.i64.wrap (Int.fdiv (IntKind.u64.wrap (IntKind.i64.wrap (a0 + a2))) (2 ^ 1)) < IntKind.i64.wrap ((IntKind.i64.wrap ((IntKind.i64.wrap (Int.fdiv (IntKind.u64.wrap (IntKind.i64.wrap (a0 + a2))) (2 ^ 1))) + a1)) - y8_8_5)) == true) then (bif decide (IntKind.i64.wrap ((IntKind.i64.wrap ((IntKind.i64.wrap (Int.fdiv (IntKind.u64.wrap (IntKind.i64.wrap (a0 + a2))) (2 ^ 1))) + a1)) - y8_8_5) < a2) then (rc (IntKind.i64.wrap (Int.fdiv (IntKind.u64.wrap (IntKind.i64.wrap (a0 + a2))) (2 ^ 1))) (IntKind.i64.wrap ((IntKind.i64.wrap ((IntKind.i64.wrap (Int.fdiv (IntKind.u64.wrap (IntKind.i64.wrap (a0 + a2))) (2 ^ 1))) + a1)) - y8_8_5)) a2 y40_N_5 y40_N_6 y40_N_7 y40_N_8 y40_N_9 y40_N_10 y40_N_11 y40_N_12 y40_N_13 y40_N_14 (fun r1_0 r1_1 r1_2 r1_3 r1_4 r1_5 r1_6 r1_7 r1_8 r1_9 => (bif (decide (r1_0.length = y40_N_5.length) && true) then (K r1_0 r1_1 r1_2 r1_3 r1_4 r1_5 r1_6 r1_7 r1_8 r1_9) else none))) else (K y40_N_5 y40_N_6 y40_N_7 y40_N_8 y40_N_9 y40_N_10 y40_N_11 y40_N_12 y40_N_13 y40_N_14)) else (K y40_N_5 y40_N_6 y40_N_7 y40_N_8 y40_N_9 y40_N_10 y40_N_11 y40_N_12 y40_N_13 y40_N_14))) else (bif (decide (IntKind.i64.wrap (Int.fdiv (IntKind.u64.wrap (IntKind.i64.wrap (a0 + a2))) (2 ^ 1)) < IntKind.i64.wrap ((IntKind.i64.wrap ((IntKind.i64.wrap (Int.fdiv (IntKind.u64.wrap (IntKind.i64.wrap (a0 + a2))) (2 ^ 1))) + a1)) - y8_8_5)) == true) then (bif decide (IntKind.i64.wrap ((IntKind.i64.wrap ((IntKind.i64.wrap (Int.fdiv (IntKind.u64.wrap (IntKind.i64.wrap (a0 + a2))) (2 ^ 1))) + a1)) - y8_8_5) < a2) then (rc (IntKind.i64.wrap (Int.fdiv (IntKind.u64.wrap (IntKind.i64.wrap (a0 + a2))) (2 ^ 1))) (IntKind.i64.wrap ((IntKind.i64.wrap ((IntKind.i64.wrap (Int.fdiv (IntKind.u64.wrap (IntKind.i64.wrap (a0 + a2))) (2 ^ 1))) + a1)) - y8_8_5)) a2 y40_N_5 y40_N_6 y40_N_7 y40_N_8 y40_N_9 y40_N_10 y40_N_11 y40_N_12 y40_N_13 y40_N_14 (fun r1_0 r1_1 r1_2 r1_3 r1_4 r1_5 r1_6 r1_7 r1_8 r1_9 => (bif (decide (r1_0.length = y40_N_5.length) && true) then (K r1_0 r1_1 r1_2 r1_3 r1_4 r1_5 r1_6 r1_7 r1_8 r1_9) else none))) else (K y40_N_5 y40_N_6 y40_N_7 y40_N_8 y40_N_9 y40_N_10 y40_N_11 y40_N_12 y40_N_13 y40_N_14)) else (K y40_N_5 y40_N_6 y40_N_7 y40_N_8 y40_N_9 y40_N_10 y40_N_11 y40_N_12 y40_N_13 y40_N_14)))) a1 y8_8_5 (IntKind.i64.wrap ((IntKind.i64.wrap ((IntKind.i64.wrap (Int.fdiv (IntKind.u64.wrap (IntKind.i64.wrap (a0 + a2))) (2 ^ 1))) + a1)) - y8_8_5)) (decide (a1 < IntKind.i64.wrap ((IntKind.i64.wrap ((IntKind.i64.wrap (Int.fdiv (IntKind.u64.wrap (IntKind.i64.wrap (a0 + a2))) (2 ^ 1))) + a1)) - y8_8_5))) a3 y8_8_7 y8_8_8 y8_8_9 y8_8_10 y8_8_11 y8_8_12 y8_8_13 y8_8_14 y8_8_15) else (Q40 k (fun y40_N_5 y40_N_6 y40_N_7 y40_N_8 y40_N_9 y40_N_10 y40_N_11 y40_N_12 y40_N_13 y40_N_14 => (bif (decide (a0 < y8_8_5) == true) then (bif decide (y8_8_5 < IntKind.i64.wrap (Int.fdiv (IntKind.u64.wrap (IntKind.i64.wrap (a0 + a2))) (2 ^ 1))) then (rc a0 y8_8_5 (IntKind.i64.wrap (Int.fdiv (IntKind.u64.wrap (IntKind.i64.wrap (a0 + a2))) (2 ^ 1))) y40_N_5 y40_N_6 y40_N_7 y40_N_8 y40_N_9 y40_N_10 y40_N_11 y40_N_12 y40_N_13 y40_N_14 (fun r0_0 r0_1 r0_2 r0_3 r0_4 r0_5 r0_6 r0_7 r0_8 r0_9 => (bif (decide (r0_0.length = y40_N_5.length) && true) then (bif (decide (IntKind.i64.wrap (Int.fdiv (IntKind.u64.wrap (IntKind.i64.wrap (a0 + a2))) (2 ^ 1)) < IntKind.i64.wrap ((IntKind.i64.wrap ((IntKind.i64.wrap (Int.fdiv (IntKind.u64.wrap (IntKind.i64.wrap (a0 + a2))) (2 ^ 1))) + a1)) - y8_8_5)) == true) then (bif decide (IntKind.i64.wrap ((IntKind.i64.wrap ((IntKind.i64.wrap (Int.fdiv (IntKind.u64.wrap (IntKind.i64.wrap (a0 + a2))) (2 ^ 1))) + a1)) - y8_8_5) < a2) then (rc (IntKind.i64.wrap (Int.fdiv (IntKind.u64.wrap (IntKind.i64.wrap (a0 + a2))) (2 ^ 1))) (IntKind.i64.wrap ((IntKind.i64.wrap ((IntKind.i64.wrap (Int.fdiv (IntKind.u64.wrap (IntKind.i64.wrap (a0 + a2))) (2 ^ 1))) + a1)) - y8_8_5)) a2 r0_0 r0_1 r0_2 r0_3 r0_4 r0_5 r0_6 r0_7 r0_8 r0_9 (fun r1_0 r1_1 r1_2 r1_3 r1_4 r1_5 r1_6 r1_7 r1_8 r1_9 => (bif (decide (r1_0.length = r0_0.length) && true) then (K r1_0 r1_1 r1_2 r1_3 r1_4 r1_5 r1_6 r1_7 r1_8 r1_9) else none))) else (K r0_0 r0_1 r0_2 r0_3 r0_4 r0_5 r0_6 r0_7 r0_8 r0_9)) else (K r0_0 r0_1 r0_2 r0_3 r0_4 r0_5 r0_6 r0_7 r0_8 r0_9)) else none))) else (bif (decide (IntKind.i64.wrap (Int.fdiv (IntKind.u64.wrap (IntKind.i64.wrap (a0 + a2))) (2 ^ 1)) < IntKind.i64.wrap ((IntKind.i64.wrap ((IntKind.i64.wrap (Int.fdiv (IntKind.u64.wrap (IntKind.i64.wrap (a0 + a2))) (2 ^ 1))) + a1)) - y8_8_5)) == true) then (bif decide (IntKind.i64.wrap ((IntKind.i64.wrap ((IntKind.i64.wrap (Int.fdiv (IntKind.u64.wrap (IntKind.i64.wrap (a0 + a2))) (2 ^ 1))) + a1)) - y8_8_5) < a2) then (rc (IntKind.i64.wrap (Int.fdiv (IntKind.u64.wrap (IntKind.i64.wrap (a0 + a2))) (2 ^ 1))) (IntKind.i64.wrap ((IntKind.i64.wrap ((IntKind.i64.wrap (Int.fdiv (IntKind.u64.wrap (IntKind.i64.wrap (a0 + a2))) (2 ^ 1))) + a1)) - y8_8_5)) a2 y40_N_5 y40_N_6 y40_N_7 y40_N_8 y40_N_9 y40_N_10 y40_N_11 y40_N_12 y40_N_13 y40_N_14 (fun r1_0 r1_1 r1_2 r1_3 r1_4 r1_5 r1_6 r1_7 r1_8 r1_9 => (bif (decide (r1_0.length = y40_N_5.length) && true) then (K r1_0 r1_1 r1_2 r1_3 r1_4 r1_5 r1_6 r1_7 r1_8 r1_9) else none))) else (K y40_N_5 y40_N_6 y40_N_7 y40_N_8 y40_N_9 y40_N_10 y40_N_11 y40_N_12 y40_N_13 y40_N_14)) else (K y40_N_5 y40_N_6 y40_N_7 y40_N_8 y40_N_9 y40_N_10 y40_N_11 y40_N_12 y40_N_13 y40_N_14))) else (bif (decide (IntKind.i64.wrap (Int.fdiv (IntKind.u64.wrap (IntKind.i64.wrap (a0 + a2))) (2 ^ 1)) < IntKind.i64.wrap ((IntKind.i64.wrap ((IntKind.i64.wrap (Int.fdiv (IntKind.u64.wrap (IntKind.i64.wrap (a0 + a2))) (2 ^ 1))) + a1)) - y8_8_5)) == true) then (bif decide (IntKind.i64.wrap ((IntKind.i64.wrap ((IntKind.i64.wrap (Int.fdiv (IntKind.u64.wrap (IntKind.i64.wrap (a0 + a2))) (2 ^ 1))) + a1)) - y8_8_5) < a2) then (rc (IntKind.i64.wrap (Int.fdiv (IntKind.u64.wrap (IntKind.i64.wrap (a0 + a2))) (2 ^ 1))) (IntKind.i64.wrap ((IntKind.i64.wrap ((IntKind.i64.wrap (Int.fdiv (IntKind.u64.wrap (IntKind.i64.wrap (a0 + a2))) (2 ^ 1))) + a1)) - y8_8_5)) a2 y40_N_5 y40_N_6 y40_N_7 y40_N_8 y40_N_9 y40_N_10 y40_N_11 y40_N_12 y40_N_13 y40_N_14 (fun r1_0 r1_1 r1_2 r1_3 r1_4 r1_5 r1_6 r1_7 r1_8 r1_9 => (bif (decide (r1_0.length = y40_N_5.length) && true) then (K r1_0 r1_1 r1_2 r1_3 r1_4 r1_5 r1_6 r1_7 r1_8 r1_9) else none))) else (K y40_N_5 y40_N_6 y40_N_7 y40_N_8 y40_N_9 y40_N_10 y40_N_11 y40_N_12 y40_N_13 y40_N_14)) else (K y40_N_5 y40_N_6 y40_N_7 y40_N_8 y40_N_9 y40_N_10 y40_N_11 y40_N_12 y40_N_13 y40_N_14)))) a1 y8_8_5 (IntKind.i64.wrap ((IntKind.i64.wrap ((IntKind.i64.wrap (Int.fdiv (IntKind.u64.wrap (IntKind.i64.wrap (a0 + a2))) (2 ^ 1))) + a1)) - y8_8_5)) false a3 y8_8_7 y8_8_8 y8_8_9 y8_8_10 y8_8_11 y8_8_12 y8_8_13 y8_8_14 y8_8_15))) a0 a1 a2 (IntKind.i64.wrap (Int.fdiv (IntKind.u64.wrap (IntKind.i64.wrap (a0 + a2))) (2 ^ 1))) (IntKind.i64.wrap ((IntKind.i64.wrap (Int.fdiv (IntKind.u64.wrap (IntKind.i64.wrap (a0 + a2))) (2 ^ 1))) + a1)) (IntKind.i64.wrap ((IntKind.i64.wrap ((IntKind.i64.wrap (Int.fdiv (IntKind.u64.wrap (IntKind.i64.wrap (a0 + a2))) (2 ^ 1))) + a1)) - 1)) a3 k y28_N_5 y28_N_6 a4 a5 a6 a7 a8 a9 a10 a11 a12)) a0 a1 a2 (IntKind.i64.wrap (Int.fdiv (IntKind.u64.wrap (IntKind.i64.wrap (a0 + a2))) (2 ^ 1))) (IntKind.i64.wrap ((IntKind.i64.wrap (Int.fdiv (IntKind.u64.wrap (IntKind.i64.wrap (a0 + a2))) (2 ^ 1))) + a1)) (decide (a1 > IntKind.i64.wrap (Int.fdiv (IntKind.u64.wrap (IntKind.i64.wrap (a0 + a2))) (2 ^ 1)))))))
def f149d : Nat → Int → Int → Int → LI → Int → Int → Int → LI → LI → LI → LI → zL1 → Int → (LI → Int → Int → Int → LI → LI → LI → LI → zL1 → Int → Oq R) → Oq R
 | 0, _, _, _, _, _, _, _, _, _, _, _, _, _, _ => none
 | k + 1, a0, a1, a2, a3, a4, a5, a6, a7, a8, a9, a10, a11, a12, K => f149b k (f149d k) a0 a1 a2 a3 a4 a5 a6 a7 a8 a9 a10 a11 a12 K
def f149 := hid (@f149d R)
theorem Qs1 : @f149 R = @f149d R := Q3
theorem Q82 (k : Nat) (a0 a1 a2 : Int) (a3 : LI) (a4 a5 a6 : Int) (a7 a8 a9 a10 : LI) (a11 : zL1) (a12 : Int) (K : zK4 R) : f149 (k + 1) a0 a1 a2 a3 a4 a5 a6 a7 a8 a9 a10 a11 a12 K = f149b k (f149 k) a0 a1 a2 a3 a4 a5 a6 a7 a8 a9 a10 a11 a12 K := by
 rw [Qs1]
 rfl
def Qo4 (k : Nat) (rec : zK5 R) (x0 : zK3 R) (c0 c1 c2 c3 : Int) (c4 : LI) (c5 c6 c7 : Int) (c8 c9 c10 c11 : LI) (c12 : zL1) (c13 : Int) : Oq R :=
 (bif decide (c3 ≤ c0) then (f148 k c2 c3 c4 c5 c6 c7 c8 c9 c10 c11 c12 c13 (fun r0_0 r0_1 r0_2 r0_3 r0_4 r0_5 r0_6 r0_7 r0_8 r0_9 => (bif (decide (r0_0.length = c4.length) && true) then (rec c3 (IntKind.i64.wrap (c3 + c1)) r0_0 r0_1 r0_2 r0_3 r0_4 r0_5 r0_6 r0_7 r0_8 r0_9) else none))) else (x0 c2 c4 c5 c6 c7 c8 c9 c10 c11 c12 c13))
def Q3w (k : Nat) (x0 : zK3 R) (c0 c1 : Int) : Nat → Int → Int → LI → Int → Int → Int → LI → LI → LI → LI → zL1 → Int → Oq R
 | 0, _, _, _, _, _, _, _, _, _, _, _, _ => none
 | m + 1, c2, c3, c4, c5, c6, c7, c8, c9, c10, c11, c12, c13 => Qo4 k (Q3w k x0 c0 c1 m) x0 c0 c1 c2 c3 c4 c5 c6 c7 c8 c9 c10 c11 c12 c13
def Q10v := hid (@Q3w R)
theorem Qer : @Q10v R = @Q3w R := Q3
def Qo6 (k : Nat) (rec : zK5 R) (x4 : zK3 R) (c0 c1 c2 c3 : Int) (c4 : LI) (c5 c6 c7 : Int) (c8 c9 c10 c11 : LI) (c12 : zL1) (c13 : Int) : Oq R :=
 (bif decide (c3 ≤ c0) then (f149 k c2 (IntKind.i64.wrap (c2 + c1)) c3 c4 c5 c6 c7 c8 c9 c10 c11 c12 c13 (fun r0_0 r0_1 r0_2 r0_3 r0_4 r0_5 r0_6 r0_7 r0_8 r0_9 => (bif (decide (r0_0.length = c4.length) && true) then (rec c3 (IntKind.i64.wrap (c3 + (IntKind.i64.wrap (2 * c1)))) r0_0 r0_1 r0_2 r0_3 r0_4 r0_5 r0_6 r0_7 r0_8 r0_9) else none))) else (x4 c2 c4 c5 c6 c7 c8 c9 c10 c11 c12 c13))
def Q58 (k : Nat) (x4 : zK3 R) (c0 c1 : Int) : Nat → Int → Int → LI → Int → Int → Int → LI → LI → LI → LI → zL1 → Int → Oq R
 | 0, _, _, _, _, _, _, _, _, _, _, _, _ => none
 | m + 1, c2, c3, c4, c5, c6, c7, c8, c9, c10, c11, c12, c13 => Qo6 k (Q58 k x4 c0 c1 m) x4 c0 c1 c2 c3 c4 c5 c6 c7 c8 c9 c10 c11 c12 c13
def Q10x := hid (@Q58 R)
theorem Qet : @Q10x R = @Q58 R := Q3
def Q59 (k : Nat) (xN : zK4 R) (c0 c2 c3 : Int) (c4 : Bool) (c5 : LI) (c6 c7 c8 : Int) (c9 c10 c11 c12 : LI) (c13 : zL1) (c14 : Int) : Oq R :=
 (bif c4 then (f149 k c2 c3 c0 c5 c6 c7 c8 c9 c10 c11 c12 c13 c14 (fun r0_0 r0_1 r0_2 r0_3 r0_4 r0_5 r0_6 r0_7 r0_8 r0_9 => (bif (decide (r0_0.length = c5.length) && true) then (xN r0_0 r0_1 r0_2 r0_3 r0_4 r0_5 r0_6 r0_7 r0_8 r0_9) else none))) else (xN c5 c6 c7 c8 c9 c10 c11 c12 c13 c14))
def Qaz := hid (@Q59 R)
theorem Q9x : @Qaz R = @Q59 R := Q3
def Qo5 (k : Nat) (rec : zK3 R) (x2 : zK4 R) (c0 c1 : Int) (c2 : LI) (c3 c4 c5 : Int) (c6 c7 c8 c9 : LI) (c10 : zL1) (c11 : Int) : Oq R :=
 (bif decide (c1 < c0) then (Q10x k (fun y4_4_2 y4_4_3 y4_4_4 y4_4_5 y4_4_6 y4_4_7 y4_4_8 y4_4_9 y4_4_10 y4_4_11 y4_4_12 => (Qaz k (fun y15_N_2 y15_N_3 y15_N_4 y15_N_5 y15_N_6 y15_N_7 y15_N_8 y15_N_9 y15_N_10 y15_N_11 => (rec (IntKind.i64.wrap (c1 * 2)) y15_N_2 y15_N_3 y15_N_4 y15_N_5 y15_N_6 y15_N_7 y15_N_8 y15_N_9 y15_N_10 y15_N_11)) c0 y4_4_2 (IntKind.i64.wrap (y4_4_2 + c1)) (decide (IntKind.i64.wrap (y4_4_2 + c1) < c0)) y4_4_3 y4_4_4 y4_4_5 y4_4_6 y4_4_7 y4_4_8 y4_4_9 y4_4_10 y4_4_11 y4_4_12)) c0 c1 k 0 (IntKind.i64.wrap (2 * c1)) c2 c3 c4 c5 c6 c7 c8 c9 c10 c11) else (x2 c2 c3 c4 c5 c6 c7 c8 c9 c10 c11))
def Q3c (k : Nat) (x2 : zK4 R) (c0 : Int) : Nat → Int → LI → Int → Int → Int → LI → LI → LI → LI → zL1 → Int → Oq R
 | 0, _, _, _, _, _, _, _, _, _, _, _ => none
 | m + 1, c1, c2, c3, c4, c5, c6, c7, c8, c9, c10, c11 => Qo5 k (Q3c k x2 c0 m) x2 c0 c1 c2 c3 c4 c5 c6 c7 c8 c9 c10 c11
def Q10w := hid (@Q3c R)
theorem Qes : @Q10w R = @Q3c R := Q3
def f137d (k : Nat) (a0 : Int) (a1 : LI) (a2 a3 a4 : Int) (a5 a6 a7 a8 : LI) (a9 : zL1) (a10 : Int) (K : zK4 R) : Oq R := match k with
 | 0 => none
 | k + 1 => (Q10v k (fun y0_0_2 y0_0_3 y0_0_4 y0_0_5 y0_0_6 y0_0_7 y0_0_8 y0_0_9 y0_0_10 y0_0_11 y0_0_12 => (f148 k y0_0_2 a0 y0_0_3 y0_0_4 y0_0_5 y0_0_6 y0_0_7 y0_0_8 y0_0_9 y0_0_10 y0_0_11 y0_0_12 (fun r0_0 r0_1 r0_2 r0_3 r0_4 r0_5 r0_6 r0_7 r0_8 r0_9 => (bif (decide (r0_0.length = y0_0_3.length) && true) then (Q10w k (fun y2_2_0 y2_2_1 y2_2_2 y2_2_3 y2_2_4 y2_2_5 y2_2_6 y2_2_7 y2_2_8 y2_2_9 => (K y2_2_0 y2_2_1 y2_2_2 y2_2_3 y2_2_4 y2_2_5 y2_2_6 y2_2_7 y2_2_8 y2_2_9)) a0 k 20 r0_0 r0_1 r0_2 r0_3 r0_4 r0_5 r0_6 r0_7 r0_8 r0_9) else none)))) a0 20 k 0 20 a1 a2 a3 a4 a5 a6 a7 a8 a9 a10)
def f137 := hid (@f137d R)
theorem Qrq : @f137 R = @f137d R := Q3
def f113d (k : Nat) (a0 : LI) (a1 a2 a3 : Int) (a4 a5 a6 a7 : LI) (a8 : zL1) (a9 : Int) (K : zK4 R) : Oq R := match k with
 | 0 => none
 | k + 1 => (f137 k (a0.length : Int) a0 a1 a2 a3 a4 a5 a6 a7 a8 a9 (fun r0_0 r0_1 r0_2 r0_3 r0_4 r0_5 r0_6 r0_7 r0_8 r0_9 => (bif (decide (r0_0.length = a0.length) && true) then (K r0_0 r0_1 r0_2 r0_3 r0_4 r0_5 r0_6 r0_7 r0_8 r0_9) else none)))
def f113 := hid (@f113d R)
theorem Qr9 : @f113 R = @f113d R := Q3
def Qik (k : Nat) (xN : LI → Oq R) (c0 : Int) (c4 : Bool) (c14 : LI) : Oq R :=
 (bif c4 then (bif decide (c14.length + ([c0] : LI).length ≤ LIM 8) then (xN (c14 ++ ([c0] : LI))) else none) else (xN c14))
def Qod := hid (@Qik R)
theorem Qc0 : @Qod R = @Qik R := Q3
def Q124 (k : Nat) (rec : Int → LI → Oq R) (x0 : LI → Oq R) (c0 : LI) (c1 c3 c4 c5 : Int) (c6 c7 c8 c9 : LI) (c10 : zL1) (c11 c2 : Int) (c12 : LI) : Oq R :=
 (bif decide (c2 < c1) then (bif (decide (0 ≤ c2) && decide (c2 < (c0.length : Int))) then (Qod k (fun p12 => (rec (IntKind.i64.wrap (c2 + 1)) p12)) c2 ((c0.getD c2.toNat 0) == 1) c12) else none) else (x0 c12))
def Qab (k : Nat) (x0 : LI → Oq R) (c0 : LI) (c1 c3 c4 c5 : Int) (c6 c7 c8 c9 : LI) (c10 : zL1) (c11 : Int) : Nat → Int → LI → Oq R
 | 0, _, _ => none
 | m + 1, c2, c12 => Q124 k (Qab k x0 c0 c1 c3 c4 c5 c6 c7 c8 c9 c10 c11 m) x0 c0 c1 c3 c4 c5 c6 c7 c8 c9 c10 c11 c2 c12
def f67_0 := hid (@Qab R)
theorem Qku : @f67_0 R = @Qab R := Q3
def f67d (k : Nat) (a0 a1 a2 : Int) (a3 a4 a5 a6 : LI) (a7 : zL1) (a8 : Int) (K : LI → Oq R) : Oq R := match k with
 | 0 => none
 | k + 1 => (f67_0 k (fun p9 => (f113 k p9 a0 a1 a2 a3 a4 a5 a6 a7 a8 (fun r0_0 r0_1 r0_2 r0_3 r0_4 r0_5 r0_6 r0_7 r0_8 r0_9 => (bif (decide (r0_0.length = p9.length) && true) then (K r0_0) else none)))) a6 (a6.length : Int) a0 a1 a2 a3 a4 a5 a6 a7 a8 k 0 ([] : LI))
def f67 := hid (@f67d R)
theorem Q125 : @f67 R = @f67d R := Q3
def f22d (k : Nat) (a0 a1 a2 : Int) (a3 a4 a5 : LI) (K : Int → LI → Oq R) : Oq R := match k with
 | 0 => none
 | k + 1 => (f19 k a0 a1 a2 a3 a4 a5 (fun r0_0 => (bif (r0_0 != 0) then (K r0_0 ([] : LI)) else (f46 k a0 a1 a2 a3 a4 a5 (fun r1_0 r1_1 r1_2 r1_3 r1_4 r1_5 r1_6 r1_7 r1_8 => (f67 k r1_0 r1_1 r1_2 r1_3 r1_4 r1_5 r1_7 r1_8 r1_6 (fun r2_0 => (K 0 r2_0))))))))
def f22 := hid (@f22d R)
theorem Q11f : @f22 R = @f22d R := Q3
def Q11s (k : Nat) (rec x2 : Int → Oq R) (c0 c1 c3 c4 c5 : Int) (c6 c7 c8 c9 : LI) (c2 : Int) : Oq R :=
 (bif (decide (c2 > 0) == true) then (bif (decide (0 ≤ IntKind.i64.wrap (c2 - 1)) && decide (IntKind.i64.wrap (c2 - 1) < (c9.length : Int))) then (bif (!(c4 == 0)) then (bif (decide (0 ≤ IntKind.i64.wrap (Int.tdiv (c9.getD (Int.toNat (IntKind.i64.wrap (c2 - 1))) 0) c4)) && decide (IntKind.i64.wrap (Int.tdiv (c9.getD (Int.toNat (IntKind.i64.wrap (c2 - 1))) 0) c4) < (c7.length : Int))) then (bif (!(c4 == 0)) then (bif (decide (0 ≤ IntKind.i64.wrap (Int.tdiv c1 c4)) && decide (IntKind.i64.wrap (Int.tdiv c1 c4) < (c7.length : Int))) then (bif decide ((c7.getD (Int.toNat (IntKind.i64.wrap (Int.tdiv (c9.getD (Int.toNat (IntKind.i64.wrap (c2 - 1))) 0) c4))) 0) > (c7.getD (Int.toNat (IntKind.i64.wrap (Int.tdiv c1 c4))) 0)) then (rec (IntKind.i64.wrap (c2 - 1))) else (x2 c2)) else none) else none) else none) else none) else none) else (x2 c2))
def Qa9 (k : Nat) (x2 : Int → Oq R) (c0 c1 c3 c4 c5 : Int) (c6 c7 c8 c9 : LI) : Nat → Int → Oq R
 | 0, _ => none
 | m + 1, c2 => Q11s k (Qa9 k x2 c0 c1 c3 c4 c5 c6 c7 c8 c9 m) x2 c0 c1 c3 c4 c5 c6 c7 c8 c9 c2
def f51_2 := hid (@Qa9 R)
theorem Qkr : @f51_2 R = @Qa9 R := Q3
def Q11r (k : Nat) (x1 : LI → Oq R) (c0 c1 c2 c3 c4 : Int) (c5 c6 c7 c8 : LI) : Oq R :=
 (bif (!(c3 == 0)) then (bif ((IntKind.i64.wrap (Int.tdiv c1 c3) == c0) == false) then (f61 k c2 c3 c4 c5 c6 c7 c1 (fun r0_0 => (bif (r0_0 != 1) then (x1 c8) else (f51_2 k (fun p2 => (bif (decide (0 ≤ p2) && decide (p2 ≤ (c8.length : Int))) then (bif decide (((c8.drop 0).take p2.toNat).length ≤ LIM 8) then (bif decide (((c8.drop 0).take p2.toNat).length + ([c1] : LI).length ≤ LIM 8) then (bif (decide (0 ≤ p2) && decide (p2 ≤ (c8.length : Int))) then (bif decide ((((c8.drop 0).take p2.toNat) ++ ([c1] : LI)).length + ((c8.drop p2.toNat).take (c8.length - p2.toNat)).length ≤ LIM 8) then (x1 ((((c8.drop 0).take p2.toNat) ++ ([c1] : LI)) ++ ((c8.drop p2.toNat).take (c8.length - p2.toNat)))) else none) else none) else none) else none) else none)) c0 c1 c2 c3 c4 c5 c6 c7 c8 k (c8.length : Int))))) else (x1 c8)) else none)
def f51_1 := hid (@Q11r R)
theorem Qkq : @f51_1 R = @Q11r R := Q3
def Q11q (k : Nat) (rec : Int → LI → Oq R) (x0 : LI → Oq R) (c0 c2 c3 c4 : Int) (c5 c6 c7 : LI) (c1 : Int) (c8 : LI) : Oq R :=
 (f60 k c2 c3 c4 c5 c6 c7 (fun r0_0 => (bif decide (c1 < r0_0) then (f51_1 k (fun p8 => (rec (IntKind.i64.wrap (c1 + 1)) p8)) c0 c1 c2 c3 c4 c5 c6 c7 c8) else (x0 c8))))
def Q84 (k : Nat) (x0 : LI → Oq R) (c0 c2 c3 c4 : Int) (c5 c6 c7 : LI) : Nat → Int → LI → Oq R
 | 0, _, _ => none
 | m + 1, c1, c8 => Q11q k (Q84 k x0 c0 c2 c3 c4 c5 c6 c7 m) x0 c0 c2 c3 c4 c5 c6 c7 c1 c8
def f51_0 := hid (@Q84 R)
theorem Qkp : @f51_0 R = @Q84 R := Q3
def f51d (k : Nat) (a0 a1 a2 : Int) (a3 a4 a5 : LI) (a6 : Int) (K : LI → Oq R) : Oq R := match k with
 | 0 => none
 | k + 1 => (f51_0 k (fun p0 => (K p0)) a6 a0 a1 a2 a3 a4 a5 k 0 ([] : LI))
def f51 := hid (@f51d R)
theorem Q11t : @f51 R = @f51d R := Q3
def f23d (k : Nat) (a0 a1 a2 : Int) (a3 a4 a5 : LI) (K : Int → LI → Oq R) : Oq R := match k with
 | 0 => none
 | k + 1 => (f20 k a0 a1 a2 a3 a4 a5 (fun r0_0 => (bif (r0_0 != 0) then (K r0_0 ([] : LI)) else (f51 k a0 a1 a2 a3 a4 a5 (-1) (fun r1_0 => (K 0 r1_0))))))
def f23 := hid (@f23d R)
theorem Q11g : @f23 R = @f23d R := Q3
def f122d (k : Nat) (a0 : List BA) (K : List BA → Oq R) : Oq R := match k with
 | 0 => none
 | _ + 1 => bif ssOk a0 then K (ssL a0) else none
def f122 := hid (@f122d R)
theorem Qrh : @f122 R = @f122d R := Q3
end
end Go.Proofs.YtecnlienmpdlaaaGreat.PM
