/- Functions of the program in typed form (printed by a program of this work). -/
import Derived.Test.YtoepnomdklhhlaaPmE
import Derived.Test.YtoepnomdklhhlaaSrtD
import Derived.Test.YtoepnomdklhhlaaRpD
set_option linter.unusedVariables false
set_option linter.unusedSimpArgs false
set_option maxRecDepth 100000
namespace Go.Proofs.Ytoepnomdklhhlaa.PM
open Go
noncomputable section
variable {R : Type}
abbrev zL1 := List (Int × ((Int × (Int × (ByteArray × (Int × (Int × (Int × (List Int × (List ((Int × (Int × Unit))) × (Bool × Unit))))))))) × Unit))
abbrev zL2 := List ((Int × (Int × (ByteArray × (Int × (Int × (Int × (List Int × (List ((Int × (Int × Unit))) × (Bool × Unit))))))))))
abbrev zL3 := List (Int × (Int × (ByteArray × (Int × (Int × (Int × (List Int × (List ((Int × (Int × Unit))) × (Bool × Unit)))))))))
abbrev zL5 := List ((Int × (Int × Unit)))
abbrev zL6 := List (Int × (Int × Unit))
abbrev zP1 : Ty := .prod (.int .i64) (.prod (.int .i64) .unit)
abbrev zT1 : Ty := .slice zP1
abbrev zT2 : Ty := .slice (.int .u8)
abbrev zT3 : Ty := .slice .bool
abbrev zD0 : (Int × (Int × (ByteArray × (Int × (Int × (Int × (List Int × (zL5 × (Bool × Unit))))))))) := ((0 : Int), ((0 : Int), ((⟨#[]⟩ : ByteArray), ((0 : Int), ((0 : Int), ((0 : Int), (([] : List Int), (([] : zL5), (false, ())))))))))
abbrev zi (x : Int) : PV := .val [] (.int .i64) x
abbrev zP0 : Ty := .prod (.int .i64) (.prod (.int .i64) (.prod .str (.prod (.int .i64) (.prod (.int .i64) (.prod (.int .i64) (.prod zT2 (.prod zT1 (.prod .bool .unit))))))))
abbrev zP2 : Ty := .prod (.int .i64) (.prod zP0 .unit)
abbrev zP3 : Ty := .slice (.int .i64)
theorem hidx {α : Sort _} (x : α) : ∃ y, y = x := ⟨x, rfl⟩
def hid {α : Sort _} (x : α) : α := Classical.choose (hidx x)
theorem hid_eq {α : Sort _} {x : α} : hid x = x := Classical.choose_spec (hidx x)
abbrev zK0 (R : Type) := Int → Int → ByteArray → Int → Int → Int → Int → List Int → Option R
abbrev zK1 (R : Type) := Int → Int → Int → Int → Int → Int → Int → ByteArray → List Int → Int → zL5 → Int → Int → Int → Int → ByteArray → List Int → zL5 → Int → Int → Int → Int → List Bool → Int → List Bool → Int → Int → zL1 → zL1 → zL3 → Option R
abbrev zK10 (R : Type) := Int → Int → ByteArray → List Int → Int → zL5 → Int → Int → Int → Int → ByteArray → List Int → zL5 → Int → Int → Int → Int → Int → List Int → Option R
abbrev zK2 (R : Type) := Int → Int → ByteArray → List Int → zL5 → Int → Int → Int → Int → Int → zL3 → Option R
abbrev zK3 (R : Type) := Int → Int → Int → Int → Int → Int → Int → ByteArray → List Int → Int → zL5 → Int → Int → Int → Int → ByteArray → List Int → zL5 → Int → Int → Int → Int → List Bool → Int → List Bool → Int → Int → zL1 → zL1 → Option R
abbrev zK4 (R : Type) := Int → Int → ByteArray → List Int → Int → zL5 → Int → Int → Int → Option R
abbrev zK5 (R : Type) := Int → Int → ByteArray → Int → Int → Int → Bool → List Int → Option R
abbrev zK6 (R : Type) := Int → Int → ByteArray → List Int → Int → zL5 → Int → Int → Int → Int → ByteArray → Int → Int → Int → Bool → List Int → Option R
abbrev zK7 (R : Type) := Int → Int → ByteArray → List Int → Int → zL5 → Int → Int → zL3 → Option R
abbrev zK8 (R : Type) := Int → Int → Int → Int → Int → Int → Int → Int → ByteArray → List Int → Int → zL5 → Int → Int → Int → Int → ByteArray → List Int → zL5 → Int → Int → Int → Int → List Bool → Int → List Bool → Int → Int → zL1 → zL1 → Option R
abbrev zK9 (R : Type) := Int → Int → ByteArray → List Int → Int → zL5 → Int → Int → Option R
def f9d (k : Nat) (a0 a1 a2 : Int) (K : Bool → Option R) : Option R := match k with
 | 0 => none
 | k + 1 => (bif (decide (a1 ≤ a0) == true) then (K (decide (a0 ≤ a2))) else (K false))
def f9 := hid (@f9d R)
theorem f9_def : @f9 R = @f9d R := hid_eq
def f20_0b (k : Nat) (rec x0 : Int → List Int → Option R) (c0 : Int) (c1 : List Int) : Option R :=
 (bif decide (c0 > 127) then (bif decide (c1.length + ([IntKind.u8.wrap (IntKind.i64.wrap ((Int.tmod c0 128) + 128))] : List Int).length ≤ LIM 1) then (rec (IntKind.i64.wrap (Int.tdiv c0 128)) (c1 ++ ([IntKind.u8.wrap (IntKind.i64.wrap ((Int.tmod c0 128) + 128))] : List Int))) else none) else (x0 c0 c1))
def f20_0d (k : Nat) (x0 : Int → List Int → Option R) : Nat → Int → List Int → Option R
 | 0, _, _ => none
 | m + 1, c0, c1 => f20_0b k (f20_0d k x0 m) x0 c0 c1
def f20_0 := hid (@f20_0d R)
theorem f20_0_def : @f20_0 R = @f20_0d R := hid_eq
def f20d (k : Nat) (a0 : Int) (a1 : List Int) (K : List Int → Option R) : Option R := match k with
 | 0 => none
 | k + 1 => (f20_0 k (fun p0 p1 => (bif decide (p1.length + ([IntKind.u8.wrap p0] : List Int).length ≤ LIM 1) then (K (p1 ++ ([IntKind.u8.wrap p0] : List Int))) else none)) k a0 a1)
def f20 := hid (@f20d R)
theorem f20_def : @f20 R = @f20d R := hid_eq
def f10_2b (k : Nat) (rec x2 : Int → Option R) (c0 : List Int) (c1 c2 : Int) (c4 : List Int) (c3 : Int) : Option R :=
 (bif (decide (IntKind.i64.wrap (c2 + c3) < (c0.length : Int)) == true) then (bif (decide (0 ≤ IntKind.i64.wrap (c2 + c3)) && decide (IntKind.i64.wrap (c2 + c3) < (c0.length : Int))) then (bif ((c0.getD (Int.toNat (IntKind.i64.wrap (c2 + c3))) 0) == c1) then (rec (IntKind.i64.wrap (c3 + 1))) else (x2 c3)) else none) else (x2 c3))
def f10_2d (k : Nat) (x2 : Int → Option R) (c0 : List Int) (c1 c2 : Int) (c4 : List Int) : Nat → Int → Option R
 | 0, _ => none
 | m + 1, c3 => f10_2b k (f10_2d k x2 c0 c1 c2 c4 m) x2 c0 c1 c2 c4 c3
def f10_2 := hid (@f10_2d R)
theorem f10_2_def : @f10_2 R = @f10_2d R := hid_eq
def f10_5b (k : Nat) (rec : Int → List Int → Option R) (x5 : List Int → Option R) (c0 : List Int) (c1 c2 c3 c4 c5 : Int) (c6 : List Int) : Option R :=
 (bif decide (c5 < c4) then (bif decide (c6.length + ([0] : List Int).length ≤ LIM 1) then (rec (IntKind.i64.wrap (c5 + 1)) (c6 ++ ([0] : List Int))) else none) else (x5 c6))
def f10_5d (k : Nat) (x5 : List Int → Option R) (c0 : List Int) (c1 c2 c3 c4 : Int) : Nat → Int → List Int → Option R
 | 0, _, _ => none
 | m + 1, c5, c6 => f10_5b k (f10_5d k x5 c0 c1 c2 c3 c4 m) x5 c0 c1 c2 c3 c4 c5 c6
def f10_5 := hid (@f10_5d R)
theorem f10_5_def : @f10_5 R = @f10_5d R := hid_eq
def f10_1000010d (k : Nat) (xN : Int → Option R) (c2 : Int) (c3 : Bool) : Option R :=
 (bif c3 then (xN (IntKind.i64.wrap ((IntKind.i64.wrap (0 - c2)) - 1))) else (xN c2))
def f10_1000010 := hid (@f10_1000010d R)
theorem f10_1000010_def : @f10_1000010 R = @f10_1000010d R := hid_eq
def f10_1000018d (k : Nat) (xN : Int → Int → List Int → Option R) (c0 : List Int) (c1 c2 c3 : Int) (c4 : Bool) (c5 : List Int) : Option R :=
 (bif c4 then (f10_5 k (fun y5_5_4 => (xN c1 (IntKind.i64.wrap (c2 + c3)) y5_5_4)) c0 c1 c2 c3 c3 k 0 c5) else (bif (decide (0 ≤ c2) && decide (c2 < (c0.length : Int))) then (f10_1000010 k (fun y10_N_2 => (f20 k y10_N_2 c5 (fun r0_0 => (bif (decide (0 ≤ c2) && decide (c2 < (c0.length : Int))) then (xN (c0.getD (Int.toNat c2) 0) (IntKind.i64.wrap (c2 + 1)) r0_0) else none)))) (IntKind.i64.wrap (2 * (IntKind.i64.wrap ((c0.getD (Int.toNat c2) 0) - c1)))) (decide (IntKind.i64.wrap (2 * (IntKind.i64.wrap ((c0.getD (Int.toNat c2) 0) - c1))) < 0))) else none))
def f10_1000018 := hid (@f10_1000018d R)
theorem f10_1000018_def : @f10_1000018 R = @f10_1000018d R := hid_eq
def f10_1000015d (k : Nat) (xN : Int → Int → List Int → Option R) (c0 : List Int) (c1 c2 c3 : Int) (c4 : Bool) (c5 : List Int) : Option R :=
 (bif c4 then (bif decide (c5.length + ([(128 : Int), 0] : List Int).length ≤ LIM 1) then (f20 k c3 (c5 ++ ([(128 : Int), 0] : List Int)) (fun r0_0 => (xN c1 (IntKind.i64.wrap (c2 + c3)) r0_0))) else none) else (f10_1000018 k (fun p1 p2 p3 => (xN p1 p2 p3)) c0 c1 c2 c3 (decide (c3 > 0)) c5))
def f10_1000015 := hid (@f10_1000015d R)
theorem f10_1000015_def : @f10_1000015 R = @f10_1000015d R := hid_eq
def f10_0b (k : Nat) (rec : Int → Int → List Int → Option R) (x0 : List Int → Option R) (c0 : List Int) (c1 c2 : Int) (c3 : List Int) : Option R :=
 (bif decide (c2 < (c0.length : Int)) then (f10_2 k (fun y2_2_3 => (f10_1000015 k (fun y15_N_1 y15_N_2 y15_N_3 => (rec y15_N_1 y15_N_2 y15_N_3)) c0 c1 c2 y2_2_3 (decide (y2_2_3 ≥ 3)) c3)) c0 c1 c2 c3 k 0) else (x0 c3))
def f10_0d (k : Nat) (x0 : List Int → Option R) (c0 : List Int) : Nat → Int → Int → List Int → Option R
 | 0, _, _, _ => none
 | m + 1, c1, c2, c3 => f10_0b k (f10_0d k x0 c0 m) x0 c0 c1 c2 c3
def f10_0 := hid (@f10_0d R)
theorem f10_0_def : @f10_0 R = @f10_0d R := hid_eq
def f10d (k : Nat) (a0 : List Int) (K : List Int → Option R) : Option R := match k with
 | 0 => none
 | k + 1 => (f10_0 k (fun p0 => (K p0)) a0 k 0 0 ([IntKind.u8.wrap (IntKind.i64.wrap (Int.tdiv (a0.length : Int) 256)), IntKind.u8.wrap (a0.length : Int)] : List Int))
def f10 := hid (@f10d R)
theorem f10_def : @f10 R = @f10d R := hid_eq
def f4_0b (k : Nat) (rec : Int → Option R) (K : Int → List Int → Option R) (x0 : Option R) (c0 c1 : List Int) (c2 c3 : Int) : Option R :=
 (bif decide (c3 < c2) then (bif (decide (0 ≤ c3) && decide (c3 < (c1.length : Int))) then (f9 k (c1.getD (Int.toNat c3) 0) (-1000000000) 1000000000 (fun r0_0 => (bif (!r0_0) then (K 1 ([] : List Int)) else (rec (IntKind.i64.wrap (c3 + 1)))))) else none) else x0)
def f4_0d (k : Nat) (K : Int → List Int → Option R) (x0 : Option R) (c0 c1 : List Int) (c2 : Int) : Nat → Int → Option R
 | 0, _ => none
 | m + 1, c3 => f4_0b k (f4_0d k K x0 c0 c1 c2 m) K x0 c0 c1 c2 c3
def f4_0 := hid (@f4_0d R)
theorem f4_0_def : @f4_0 R = @f4_0d R := hid_eq
def f4d (k : Nat) (a0 : List Int) (K : Int → List Int → Option R) : Option R := match k with
 | 0 => none
 | k + 1 => (bif decide ((a0.length : Int) > 5000) then (K 2 ([] : List Int)) else (f4_0 k K (f10 k a0 (fun r0_0 => (K 0 r0_0))) a0 a0 (a0.length : Int) k 0))
def f4 := hid (@f4d R)
theorem f4_def : @f4 R = @f4d R := hid_eq
def f21d (k : Nat) (a0 : Int) (K : Bool → Option R) : Option R := match k with
 | 0 => none
 | k + 1 => (bif ((bits .and .i64 a0 (IntKind.i64.wrap (a0 - 1)) == 0) == false) then (K (a0 == 22)) else (K true))
def f21 := hid (@f21d R)
theorem f21_def : @f21 R = @f21d R := hid_eq
def f22d (k : Nat) (a0 : Int) (K : Int → Option R) : Option R := match k with
 | 0 => none
 | k + 1 => (bif decide (0 ≤ IntKind.i64.wrap (a0 - 1)) then (K (IntKind.i64.wrap (1 * 2 ^ min (Int.toNat (IntKind.i64.wrap (a0 - 1))) 64))) else none)
def f22 := hid (@f22d R)
theorem f22_def : @f22 R = @f22d R := hid_eq
def f23_1000006d (k : Nat) (xN : Int → Option R) (c1 c2 : Int) (c3 : Bool) : Option R :=
 (bif c3 then (xN (bits .xor .i64 c1 c2)) else (xN c1))
def f23_1000006 := hid (@f23_1000006d R)
theorem f23_1000006_def : @f23_1000006 R = @f23_1000006d R := hid_eq
def f23_0b (k : Nat) (rec : Int → Int → Option R) (x0 : Int → Option R) (c0 c1 c2 : Int) : Option R :=
 (bif decide (c2 < 22) then (f22 k c2 (fun r0_0 => (f23_1000006 k (fun p1 => (rec p1 (IntKind.i64.wrap (c2 + 1)))) c1 c2 (bits .and .i64 c0 r0_0 != 0)))) else (x0 c1))
def f23_0d (k : Nat) (x0 : Int → Option R) (c0 : Int) : Nat → Int → Int → Option R
 | 0, _, _ => none
 | m + 1, c1, c2 => f23_0b k (f23_0d k x0 c0 m) x0 c0 c1 c2
def f23_0 := hid (@f23_0d R)
theorem f23_0_def : @f23_0 R = @f23_0d R := hid_eq
def f23d (k : Nat) (a0 : Int) (K : Int → Option R) : Option R := match k with
 | 0 => none
 | k + 1 => (f23_0 k (fun p0 => (K p0)) a0 k 0 1)
def f23 := hid (@f23d R)
theorem f23_def : @f23 R = @f23d R := hid_eq
def f47d (k : Nat) (a0 : Int) (K : Int → Option R) : Option R := match k with
 | 0 => none
 | k + 1 => (K (bits .and .i64 (IntKind.i64.wrap (IntKind.u64.wrap ((IntKind.u64.wrap ((IntKind.u64.wrap ((bits .and .u64 (IntKind.u64.wrap ((Int.fdiv (IntKind.u64.wrap ((bits .and .u64 (Int.fdiv (IntKind.u64.wrap ((bits .and .u64 (Int.fdiv a0 (2 ^ 1)) 6148914691236517205) + (bits .and .u64 a0 6148914691236517205))) (2 ^ 2)) 3689348814741910323) + (bits .and .u64 (IntKind.u64.wrap ((bits .and .u64 (Int.fdiv a0 (2 ^ 1)) 6148914691236517205) + (bits .and .u64 a0 6148914691236517205))) 3689348814741910323))) (2 ^ 4)) + (IntKind.u64.wrap ((bits .and .u64 (Int.fdiv (IntKind.u64.wrap ((bits .and .u64 (Int.fdiv a0 (2 ^ 1)) 6148914691236517205) + (bits .and .u64 a0 6148914691236517205))) (2 ^ 2)) 3689348814741910323) + (bits .and .u64 (IntKind.u64.wrap ((bits .and .u64 (Int.fdiv a0 (2 ^ 1)) 6148914691236517205) + (bits .and .u64 a0 6148914691236517205))) 3689348814741910323))))) 1085102592571150095) + (Int.fdiv (bits .and .u64 (IntKind.u64.wrap ((Int.fdiv (IntKind.u64.wrap ((bits .and .u64 (Int.fdiv (IntKind.u64.wrap ((bits .and .u64 (Int.fdiv a0 (2 ^ 1)) 6148914691236517205) + (bits .and .u64 a0 6148914691236517205))) (2 ^ 2)) 3689348814741910323) + (bits .and .u64 (IntKind.u64.wrap ((bits .and .u64 (Int.fdiv a0 (2 ^ 1)) 6148914691236517205) + (bits .and .u64 a0 6148914691236517205))) 3689348814741910323))) (2 ^ 4)) + (IntKind.u64.wrap ((bits .and .u64 (Int.fdiv (IntKind.u64.wrap ((bits .and .u64 (Int.fdiv a0 (2 ^ 1)) 6148914691236517205) + (bits .and .u64 a0 6148914691236517205))) (2 ^ 2)) 3689348814741910323) + (bits .and .u64 (IntKind.u64.wrap ((bits .and .u64 (Int.fdiv a0 (2 ^ 1)) 6148914691236517205) + (bits .and .u64 a0 6148914691236517205))) 3689348814741910323))))) 1085102592571150095) (2 ^ 8)))) + (Int.fdiv (IntKind.u64.wrap ((bits .and .u64 (IntKind.u64.wrap ((Int.fdiv (IntKind.u64.wrap ((bits .and .u64 (Int.fdiv (IntKind.u64.wrap ((bits .and .u64 (Int.fdiv a0 (2 ^ 1)) 6148914691236517205) + (bits .and .u64 a0 6148914691236517205))) (2 ^ 2)) 3689348814741910323) + (bits .and .u64 (IntKind.u64.wrap ((bits .and .u64 (Int.fdiv a0 (2 ^ 1)) 6148914691236517205) + (bits .and .u64 a0 6148914691236517205))) 3689348814741910323))) (2 ^ 4)) + (IntKind.u64.wrap ((bits .and .u64 (Int.fdiv (IntKind.u64.wrap ((bits .and .u64 (Int.fdiv a0 (2 ^ 1)) 6148914691236517205) + (bits .and .u64 a0 6148914691236517205))) (2 ^ 2)) 3689348814741910323) + (bits .and .u64 (IntKind.u64.wrap ((bits .and .u64 (Int.fdiv a0 (2 ^ 1)) 6148914691236517205) + (bits .and .u64 a0 6148914691236517205))) 3689348814741910323))))) 1085102592571150095) + (Int.fdiv (bits .and .u64 (IntKind.u64.wrap ((Int.fdiv (IntKind.u64.wrap ((bits .and .u64 (Int.fdiv (IntKind.u64.wrap ((bits .and .u64 (Int.fdiv a0 (2 ^ 1)) 6148914691236517205) + (bits .and .u64 a0 6148914691236517205))) (2 ^ 2)) 3689348814741910323) + (bits .and .u64 (IntKind.u64.wrap ((bits .and .u64 (Int.fdiv a0 (2 ^ 1)) 6148914691236517205) + (bits .and .u64 a0 6148914691236517205))) 3689348814741910323))) (2 ^ 4)) + (IntKind.u64.wrap ((bits .and .u64 (Int.fdiv (IntKind.u64.wrap ((bits .and .u64 (Int.fdiv a0 (2 ^ 1)) 6148914691236517205) + (bits .and .u64 a0 6148914691236517205))) (2 ^ 2)) 3689348814741910323) + (bits .and .u64 (IntKind.u64.wrap ((bits .and .u64 (Int.fdiv a0 (2 ^ 1)) 6148914691236517205) + (bits .and .u64 a0 6148914691236517205))) 3689348814741910323))))) 1085102592571150095) (2 ^ 8)))) (2 ^ 16)))) + (Int.fdiv (IntKind.u64.wrap ((IntKind.u64.wrap ((bits .and .u64 (IntKind.u64.wrap ((Int.fdiv (IntKind.u64.wrap ((bits .and .u64 (Int.fdiv (IntKind.u64.wrap ((bits .and .u64 (Int.fdiv a0 (2 ^ 1)) 6148914691236517205) + (bits .and .u64 a0 6148914691236517205))) (2 ^ 2)) 3689348814741910323) + (bits .and .u64 (IntKind.u64.wrap ((bits .and .u64 (Int.fdiv a0 (2 ^ 1)) 6148914691236517205) + (bits .and .u64 a0 6148914691236517205))) 3689348814741910323))) (2 ^ 4)) + (IntKind.u64.wrap ((bits .and .u64 (Int.fdiv (IntKind.u64.wrap ((bits .and .u64 (Int.fdiv a0 (2 ^ 1)) 6148914691236517205) + (bits .and .u64 a0 6148914691236517205))) (2 ^ 2)) 3689348814741910323) + (bits .and .u64 (IntKind.u64.wrap ((bits .and .u64 (Int.fdiv a0 (2 ^ 1)) 6148914691236517205) + (bits .and .u64 a0 6148914691236517205))) 3689348814741910323))))) 1085102592571150095) + (Int.fdiv (bits .and .u64 (IntKind.u64.wrap ((Int.fdiv (IntKind.u64.wrap ((bits .and .u64 (Int.fdiv (IntKind.u64.wrap ((bits .and .u64 (Int.fdiv a0 (2 ^ 1)) 6148914691236517205) + (bits .and .u64 a0 6148914691236517205))) (2 ^ 2)) 3689348814741910323) + (bits .and .u64 (IntKind.u64.wrap ((bits .and .u64 (Int.fdiv a0 (2 ^ 1)) 6148914691236517205) + (bits .and .u64 a0 6148914691236517205))) 3689348814741910323))) (2 ^ 4)) + (IntKind.u64.wrap ((bits .and .u64 (Int.fdiv (IntKind.u64.wrap ((bits .and .u64 (Int.fdiv a0 (2 ^ 1)) 6148914691236517205) + (bits .and .u64 a0 6148914691236517205))) (2 ^ 2)) 3689348814741910323) + (bits .and .u64 (IntKind.u64.wrap ((bits .and .u64 (Int.fdiv a0 (2 ^ 1)) 6148914691236517205) + (bits .and .u64 a0 6148914691236517205))) 3689348814741910323))))) 1085102592571150095) (2 ^ 8)))) + (Int.fdiv (IntKind.u64.wrap ((bits .and .u64 (IntKind.u64.wrap ((Int.fdiv (IntKind.u64.wrap ((bits .and .u64 (Int.fdiv (IntKind.u64.wrap ((bits .and .u64 (Int.fdiv a0 (2 ^ 1)) 6148914691236517205) + (bits .and .u64 a0 6148914691236517205))) (2 ^ 2)) 3689348814741910323) + (bits .and .u64 (IntKind.u64.wrap ((bits .and .u64 (Int.fdiv a0 (2 ^ 1)) 6148914691236517205) + (bits .and .u64 a0 6148914691236517205))) 3689348814741910323))) (2 ^ 4)) + (IntKind.u64.wrap ((bits .and .u64 (Int.fdiv (IntKind.u64.wrap ((bits .and .u64 (Int.fdiv a0 (2 ^ 1)) 6148914691236517205) + (bits .and .u64 a0 6148914691236517205))) (2 ^ 2)) 3689348814741910323) + (bits .and .u64 (IntKind.u64.wrap ((bits .and .u64 (Int.fdiv a0 (2 ^ 1)) 6148914691236517205) + (bits .and .u64 a0 6148914691236517205))) 3689348814741910323))))) 1085102592571150095) + (Int.fdiv (bits .and .u64 (IntKind.u64.wrap ((Int.fdiv (IntKind.u64.wrap ((bits .and .u64 (Int.fdiv (IntKind.u64.wrap ((bits .and .u64 (Int.fdiv a0 (2 ^ 1)) 6148914691236517205) + (bits .and .u64 a0 6148914691236517205))) (2 ^ 2)) 3689348814741910323) + (bits .and .u64 (IntKind.u64.wrap ((bits .and .u64 (Int.fdiv a0 (2 ^ 1)) 6148914691236517205) + (bits .and .u64 a0 6148914691236517205))) 3689348814741910323))) (2 ^ 4)) + (IntKind.u64.wrap ((bits .and .u64 (Int.fdiv (IntKind.u64.wrap ((bits .and .u64 (Int.fdiv a0 (2 ^ 1)) 6148914691236517205) + (bits .and .u64 a0 6148914691236517205))) (2 ^ 2)) 3689348814741910323) + (bits .and .u64 (IntKind.u64.wrap ((bits .and .u64 (Int.fdiv a0 (2 ^ 1)) 6148914691236517205) + (bits .and .u64 a0 6148914691236517205))) 3689348814741910323))))) 1085102592571150095) (2 ^ 8)))) (2 ^ 16)))) (2 ^ 32))))) 127))
def f47 := hid (@f47d R)
theorem f47_def : @f47 R = @f47d R := hid_eq
def f36d (k : Nat) (a0 : Int) (K : Int → Option R) : Option R := match k with
 | 0 => none
 | k + 1 => (f47 k a0 (fun r0_0 => (K r0_0)))
def f36 := hid (@f36d R)
theorem f36_def : @f36 R = @f36d R := hid_eq
def f24d (k : Nat) (a0 : Int) (K : Bool → Option R) : Option R := match k with
 | 0 => none
 | k + 1 => (f36 k (IntKind.u64.wrap a0) (fun r0_0 => (K (Int.tmod r0_0 2 == 1))))
def f24 := hid (@f24d R)
theorem f24_def : @f24 R = @f24d R := hid_eq
def f11_1000009d (k : Nat) (xN : Int → Option R) (c1 c2 : Int) (c3 : Bool) : Option R :=
 (bif c3 then (f22 k c2 (fun r0_0 => (xN (bits .or .i64 c1 r0_0)))) else (xN c1))
def f11_1000009 := hid (@f11_1000009d R)
theorem f11_1000009_def : @f11_1000009 R = @f11_1000009d R := hid_eq
def f11_1000008d (k : Nat) (xN : Int → Int → Option R) (c0 c1 c2 : Int) (c3 : Bool) : Option R :=
 (bif c3 then (f11_1000009 k (fun p1 => (xN (Int.fdiv c0 (2 ^ 1)) p1)) c1 c2 (bits .and .i64 c0 1 != 0)) else (xN c0 c1))
def f11_1000008 := hid (@f11_1000008d R)
theorem f11_1000008_def : @f11_1000008 R = @f11_1000008d R := hid_eq
def f11_0b (k : Nat) (rec : Int → Int → Int → Option R) (x0 : Int → Option R) (c0 c1 c2 : Int) : Option R :=
 (bif decide (c2 < 22) then (f21 k c2 (fun r0_0 => (f11_1000008 k (fun p0 p1 => (rec p0 p1 (IntKind.i64.wrap (c2 + 1)))) c0 c1 c2 (!r0_0)))) else (x0 c1))
def f11_0d (k : Nat) (x0 : Int → Option R) : Nat → Int → Int → Int → Option R
 | 0, _, _, _ => none
 | m + 1, c0, c1, c2 => f11_0b k (f11_0d k x0 m) x0 c0 c1 c2
def f11_0 := hid (@f11_0d R)
theorem f11_0_def : @f11_0 R = @f11_0d R := hid_eq
def f11_1000016d (k : Nat) (xN : Int → Option R) (c0 c2 : Int) (c3 : Bool) : Option R :=
 (bif c3 then (f22 k c2 (fun r0_0 => (xN (bits .or .i64 c0 r0_0)))) else (xN c0))
def f11_1000016 := hid (@f11_1000016d R)
theorem f11_1000016_def : @f11_1000016 R = @f11_1000016d R := hid_eq
def f11_2b (k : Nat) (rec : Int → Int → Option R) (x2 : Int → Option R) (c1 c0 c2 : Int) : Option R :=
 (bif decide (c2 < 22) then (f11_1000016 k (fun p0 => (rec p0 (IntKind.i64.wrap (c2 * 2)))) c0 c2 (bits .and .i64 c1 c2 != 0)) else (x2 c0))
def f11_2d (k : Nat) (x2 : Int → Option R) (c1 : Int) : Nat → Int → Int → Option R
 | 0, _, _ => none
 | m + 1, c0, c2 => f11_2b k (f11_2d k x2 c1 m) x2 c1 c0 c2
def f11_2 := hid (@f11_2d R)
theorem f11_2_def : @f11_2 R = @f11_2d R := hid_eq
def f11_1000018d (k : Nat) (xN : Int → Option R) (c0 : Int) (c1 : Bool) : Option R :=
 (bif c1 then (f22 k 22 (fun r0_0 => (xN (bits .or .i64 c0 r0_0)))) else (xN c0))
def f11_1000018 := hid (@f11_1000018d R)
theorem f11_1000018_def : @f11_1000018 R = @f11_1000018d R := hid_eq
def f11d (k : Nat) (a0 : Int) (K : Int → Int → Option R) : Option R := match k with
 | 0 => none
 | k + 1 => (f9 k a0 0 65535 (fun r0_0 => (bif (!r0_0) then (K 0 1) else (f11_0 k (fun y0_0_0 => (f23 k y0_0_0 (fun r1_0 => (f11_2 k (fun y2_2_0 => (f24 k y2_2_0 (fun r2_0 => (f11_1000018 k (fun y18_N_0 => (K y18_N_0 0)) y2_2_0 r2_0)))) r1_0 k y0_0_0 1)))) k a0 0 1))))
def f11 := hid (@f11d R)
theorem f11_def : @f11 R = @f11d R := hid_eq
def f25_1000011d (k : Nat) (xN : Int → Option R) (c0 : Int) (c5 : Bool) : Option R :=
 (bif c5 then (xN (bits .xor .i64 c0 4129)) else (xN c0))
def f25_1000011 := hid (@f25_1000011d R)
theorem f25_1000011_def : @f25_1000011 R = @f25_1000011d R := hid_eq
def f25_2b (k : Nat) (rec : Int → Int → Option R) (x2 : Int → Option R) (c1 : List Int) (c2 c3 c0 c4 : Int) : Option R :=
 (bif decide (c4 < 8) then (f25_1000011 k (fun p0 => (rec p0 (IntKind.i64.wrap (c4 + 1)))) (Int.tmod (IntKind.i64.wrap (c0 * 2)) 65536) (decide (c0 ≥ 32768))) else (x2 c0))
def f25_2d (k : Nat) (x2 : Int → Option R) (c1 : List Int) (c2 c3 : Int) : Nat → Int → Int → Option R
 | 0, _, _ => none
 | m + 1, c0, c4 => f25_2b k (f25_2d k x2 c1 c2 c3 m) x2 c1 c2 c3 c0 c4
def f25_2 := hid (@f25_2d R)
theorem f25_2_def : @f25_2 R = @f25_2d R := hid_eq
def f25_0b (k : Nat) (rec : Int → Int → Option R) (x0 : Int → Option R) (c1 : List Int) (c2 c0 c3 : Int) : Option R :=
 (bif decide (c3 < c2) then (bif (decide (0 ≤ c3) && decide (c3 < (c1.length : Int))) then (f25_2 k (fun p0 => (rec p0 (IntKind.i64.wrap (c3 + 1)))) c1 c2 c3 k (bits .xor .i64 c0 (IntKind.i64.wrap ((IntKind.i64.wrap (c1.getD (Int.toNat c3) 0)) * 256))) 0) else none) else (x0 c0))
def f25_0d (k : Nat) (x0 : Int → Option R) (c1 : List Int) (c2 : Int) : Nat → Int → Int → Option R
 | 0, _, _ => none
 | m + 1, c0, c3 => f25_0b k (f25_0d k x0 c1 c2 m) x0 c1 c2 c0 c3
def f25_0 := hid (@f25_0d R)
theorem f25_0_def : @f25_0 R = @f25_0d R := hid_eq
def f25d (k : Nat) (a0 : List Int) (K : Int → Option R) : Option R := match k with
 | 0 => none
 | k + 1 => (f25_0 k (fun p0 => (K p0)) a0 (a0.length : Int) k 65535 0)
def f25 := hid (@f25d R)
theorem f25_def : @f25 R = @f25d R := hid_eq
def f12d (k : Nat) (a0 : List Int) (K : Int → Int → Option R) : Option R := match k with
 | 0 => none
 | k + 1 => (bif decide ((a0.length : Int) > 262144) then (K 0 2) else (f25 k a0 (fun r0_0 => (K r0_0 0))))
def f12 := hid (@f12d R)
theorem f12_def : @f12 R = @f12d R := hid_eq
def f13_1000010d (k : Nat) (xN : Int → Option R) (c0 : Int) (c5 : Bool) : Option R :=
 (bif c5 then (xN (bits .xor .i64 c0 69665)) else (xN c0))
def f13_1000010 := hid (@f13_1000010d R)
theorem f13_1000010_def : @f13_1000010 R = @f13_1000010d R := hid_eq
def f13_2b (k : Nat) (rec : Int → Int → Option R) (x2 : Int → Option R) (c1 : List Int) (c2 c3 c0 c4 : Int) : Option R :=
 (bif decide (c4 < 8) then (f13_1000010 k (fun p0 => (rec p0 (IntKind.i64.wrap (c4 + 1)))) (IntKind.i64.wrap (c0 * 2 ^ 1)) (bits .and .i64 (IntKind.i64.wrap (c0 * 2 ^ 1)) 65536 != 0)) else (x2 c0))
def f13_2d (k : Nat) (x2 : Int → Option R) (c1 : List Int) (c2 c3 : Int) : Nat → Int → Int → Option R
 | 0, _, _ => none
 | m + 1, c0, c4 => f13_2b k (f13_2d k x2 c1 c2 c3 m) x2 c1 c2 c3 c0 c4
def f13_2 := hid (@f13_2d R)
theorem f13_2_def : @f13_2 R = @f13_2d R := hid_eq
def f13_0b (k : Nat) (rec : Int → Int → Option R) (x0 : Int → Option R) (c1 : List Int) (c2 c0 c3 : Int) : Option R :=
 (bif decide (c3 < c2) then (bif (decide (0 ≤ c3) && decide (c3 < (c1.length : Int))) then (f13_2 k (fun p0 => (rec p0 (IntKind.i64.wrap (c3 + 1)))) c1 c2 c3 k (bits .xor .i64 c0 (IntKind.i64.wrap ((IntKind.i64.wrap (c1.getD (Int.toNat c3) 0)) * 2 ^ 8))) 0) else none) else (x0 c0))
def f13_0d (k : Nat) (x0 : Int → Option R) (c1 : List Int) (c2 : Int) : Nat → Int → Int → Option R
 | 0, _, _ => none
 | m + 1, c0, c3 => f13_0b k (f13_0d k x0 c1 c2 m) x0 c1 c2 c0 c3
def f13_0 := hid (@f13_0d R)
theorem f13_0_def : @f13_0 R = @f13_0d R := hid_eq
def f13d (k : Nat) (a0 : List Int) (K : Int → Option R) : Option R := match k with
 | 0 => none
 | k + 1 => (f13_0 k (fun p0 => (K p0)) a0 (a0.length : Int) k 65535 0)
def f13 := hid (@f13d R)
theorem f13_def : @f13 R = @f13d R := hid_eq
def f5d (k : Nat) (K : Bool → Option R) : Option R := match k with
 | 0 => none
 | k + 1 => (f11 k 1 (fun r0_0 r0_1 => (bif decide (0 < ([(49 : Int), (50 : Int), (51 : Int), (52 : Int), (53 : Int), (54 : Int), (55 : Int), (56 : Int), 57] : List Int).length) then (f12 k ([(49 : Int), (50 : Int), (51 : Int), (52 : Int), (53 : Int), (54 : Int), (55 : Int), (56 : Int), 57] : List Int) (fun r1_0 r1_1 => (bif ((r0_1 == 0) == true) then (bif ((r1_1 == 0) == true) then (bif ((r0_0 == 2097159) == true) then (bif decide (0 < ([(49 : Int), (50 : Int), (51 : Int), (52 : Int), (53 : Int), (54 : Int), (55 : Int), (56 : Int), 57] : List Int).length) then (f13 k ([(49 : Int), (50 : Int), (51 : Int), (52 : Int), (53 : Int), (54 : Int), (55 : Int), (56 : Int), 57] : List Int) (fun r2_0 => (K (r1_0 == r2_0)))) else none) else (K false)) else (K false)) else (K false)))) else none)))
def f5 := hid (@f5d R)
theorem f5_def : @f5 R = @f5d R := hid_eq
def f14d (k : Nat) (a0 a1 a2 a3 a4 : Int) (K : Int → Option R) : Option R := match k with
 | 0 => none
 | k + 1 => (f9 k a0 1 4096 (fun r0_0 => (bif ((!r0_0) == false) then (f9 k a1 1 1000000 (fun r1_0 => (bif ((!r1_0) == false) then (f9 k a2 1 100 (fun r2_0 => (bif ((!r2_0) == false) then (f9 k a3 1 1000000 (fun r3_0 => (bif ((!r3_0) == false) then (f9 k a4 0 50 (fun r4_0 => (bif (!r4_0) then (K 1) else (K 0)))) else (K 1)))) else (K 1)))) else (K 1)))) else (K 1))))
def f14 := hid (@f14d R)
theorem f14_def : @f14 R = @f14d R := hid_eq
def f37_0b (k : Nat) (rec : Int → Option R) (K : Bool → Option R) (x0 : Option R) (c0 : ByteArray) (c1 c2 : Int) : Option R :=
 (bif decide (c2 < c1) then (bif (decide (0 ≤ c2) && decide (c2 < (c0.size : Int))) then (bif (decide (((bytesOf c0).getD (Int.toNat c2) 0) < 97) == false) then (bif (decide (((bytesOf c0).getD (Int.toNat c2) 0) > 122) == true) then (bif ((c2 == 0) == false) then (bif ((((bytesOf c0).getD (Int.toNat c2) 0) != 45) == true) then (bif ((((bytesOf c0).getD (Int.toNat c2) 0) != 95) == true) then (bif (decide (((bytesOf c0).getD (Int.toNat c2) 0) < 48) == false) then (bif decide (((bytesOf c0).getD (Int.toNat c2) 0) > 57) then (K false) else (rec (IntKind.i64.wrap (c2 + 1)))) else (K false)) else (rec (IntKind.i64.wrap (c2 + 1)))) else (rec (IntKind.i64.wrap (c2 + 1)))) else (K false)) else (rec (IntKind.i64.wrap (c2 + 1)))) else (bif ((c2 == 0) == false) then (bif ((((bytesOf c0).getD (Int.toNat c2) 0) != 45) == true) then (bif ((((bytesOf c0).getD (Int.toNat c2) 0) != 95) == true) then (bif (decide (((bytesOf c0).getD (Int.toNat c2) 0) < 48) == false) then (bif decide (((bytesOf c0).getD (Int.toNat c2) 0) > 57) then (K false) else (rec (IntKind.i64.wrap (c2 + 1)))) else (K false)) else (rec (IntKind.i64.wrap (c2 + 1)))) else (rec (IntKind.i64.wrap (c2 + 1)))) else (K false))) else none) else x0)
def f37_0d (k : Nat) (K : Bool → Option R) (x0 : Option R) (c0 : ByteArray) (c1 : Int) : Nat → Int → Option R
 | 0, _ => none
 | m + 1, c2 => f37_0b k (f37_0d k K x0 c0 c1 m) K x0 c0 c1 c2
def f37_0 := hid (@f37_0d R)
theorem f37_0_def : @f37_0 R = @f37_0d R := hid_eq
def f37d (k : Nat) (a0 : ByteArray) (K : Bool → Option R) : Option R := match k with
 | 0 => none
 | k + 1 => (bif ((a0.toList == (⟨#[]⟩ : ByteArray).toList) == false) then (bif decide ((a0.size : Int) > 40) then (K false) else (f37_0 k K (K true) a0 (a0.size : Int) k 0)) else (K false))
def f37 := hid (@f37d R)
theorem f37_def : @f37 R = @f37d R := hid_eq
def f26d (k : Nat) (a0 : Int) (a1 : ByteArray) (a2 : List Int) (K : Int → Option R) : Option R := match k with
 | 0 => none
 | k + 1 => (f9 k a0 0 65535 (fun r0_0 => (bif (!r0_0) then (K 1) else (f37 k a1 (fun r1_0 => (bif (!r1_0) then (K 5) else (bif decide ((a2.length : Int) > 100000) then (K 2) else (K 0))))))))
def f26 := hid (@f26d R)
theorem f26_def : @f26 R = @f26d R := hid_eq
def f27d (k : Nat) (a0 : List Int) (K : List Int → Option R) : Option R := match k with
 | 0 => none
 | _ + 1 => bif decide (a0.length ≤ LIM 1) then K a0 else none
def f27 := hid (@f27d R)
theorem f27_def : @f27 R = @f27d R := hid_eq
def f15d (k : Nat) (a0 : Int) (a1 : ByteArray) (a2 : List Int) (K : zK0 R) : Option R := match k with
 | 0 => none
 | k + 1 => (f26 k a0 a1 a2 (fun r0_0 => (bif (r0_0 != 0) then (K 0 0 (⟨#[]⟩ : ByteArray) 0 0 0 r0_0 ([] : List Int)) else (f27 k a2 (fun r1_0 => (K 1 a0 a1 (-1) 0 0 0 r1_0))))))
def f15 := hid (@f15d R)
theorem f15_def : @f15 R = @f15d R := hid_eq
def f16d (k : Nat) (a0 : Int) (K : Int → Int → ByteArray → Int → Int → Int → Int → Int → Option R) : Option R := match k with
 | 0 => none
 | k + 1 => (f9 k a0 0 65535 (fun r0_0 => (bif (!r0_0) then (K 0 0 (⟨#[]⟩ : ByteArray) 0 0 0 0 1) else (K 0 a0 (⟨#[]⟩ : ByteArray) (-1) 0 0 0 0))))
def f16 := hid (@f16d R)
theorem f16_def : @f16 R = @f16d R := hid_eq
def f28_0b (k : Nat) (rec x0 : zL1 → zL3 → Option R) (c0 c1 c2 c3 c4 c5 c6 c7 : Int) (c8 : ByteArray) (c9 : List Int) (c10 : Int) (c11 : zL5) (c12 c13 c14 c15 : Int) (c16 : ByteArray) (c17 : List Int) (c18 : zL5) (c19 c20 c21 c22 : Int) (c23 : List Bool) (c24 : Int) (c25 : List Bool) (c26 c27 : Int) (c29 c28 : zL1) (c30 : zL3) : Option R :=
 (bif (decide ((c28.length : Int) > 0) == true) then (bif decide (0 < (c28.length : Int)) then (bif decide ((c28.getD 0 ((0 : Int), (zD0, ()))).1 ≤ c0) then (bif decide (0 < (c28.length : Int)) then (bif decide (c30.length + ([((((c28.getD 0 ((0 : Int), (zD0, ()))).2).1).1, (((((c28.getD 0 ((0 : Int), (zD0, ()))).2).1).2).1, ((((((c28.getD 0 ((0 : Int), (zD0, ()))).2).1).2).2).1, (((((((c28.getD 0 ((0 : Int), (zD0, ()))).2).1).2).2).2).1, ((((((((c28.getD 0 ((0 : Int), (zD0, ()))).2).1).2).2).2).2).1, (((((((((c28.getD 0 ((0 : Int), (zD0, ()))).2).1).2).2).2).2).2).1, ((((((((((c28.getD 0 ((0 : Int), (zD0, ()))).2).1).2).2).2).2).2).2).1, (((((((((((c28.getD 0 ((0 : Int), (zD0, ()))).2).1).2).2).2).2).2).2).2).1, ((((((((((((c28.getD 0 ((0 : Int), (zD0, ()))).2).1).2).2).2).2).2).2).2).2).1, ())))))))))] : zL3).length ≤ LIM 112) then (bif decide (1 ≤ (c28.length : Int)) then (rec ((c28.drop 1).take (c28.length - 1)) (c30 ++ ([((((c28.getD 0 ((0 : Int), (zD0, ()))).2).1).1, (((((c28.getD 0 ((0 : Int), (zD0, ()))).2).1).2).1, ((((((c28.getD 0 ((0 : Int), (zD0, ()))).2).1).2).2).1, (((((((c28.getD 0 ((0 : Int), (zD0, ()))).2).1).2).2).2).1, ((((((((c28.getD 0 ((0 : Int), (zD0, ()))).2).1).2).2).2).2).1, (((((((((c28.getD 0 ((0 : Int), (zD0, ()))).2).1).2).2).2).2).2).1, ((((((((((c28.getD 0 ((0 : Int), (zD0, ()))).2).1).2).2).2).2).2).2).1, (((((((((((c28.getD 0 ((0 : Int), (zD0, ()))).2).1).2).2).2).2).2).2).2).1, ((((((((((((c28.getD 0 ((0 : Int), (zD0, ()))).2).1).2).2).2).2).2).2).2).2).1, ())))))))))] : zL3))) else none) else none) else none) else (x0 c28 c30)) else none) else (x0 c28 c30))
def f28_0d (k : Nat) (x0 : zL1 → zL3 → Option R) (c0 c1 c2 c3 c4 c5 c6 c7 : Int) (c8 : ByteArray) (c9 : List Int) (c10 : Int) (c11 : zL5) (c12 c13 c14 c15 : Int) (c16 : ByteArray) (c17 : List Int) (c18 : zL5) (c19 c20 c21 c22 : Int) (c23 : List Bool) (c24 : Int) (c25 : List Bool) (c26 c27 : Int) (c29 : zL1) : Nat → zL1 → zL3 → Option R
 | 0, _, _ => none
 | m + 1, c28, c30 => f28_0b k (f28_0d k x0 c0 c1 c2 c3 c4 c5 c6 c7 c8 c9 c10 c11 c12 c13 c14 c15 c16 c17 c18 c19 c20 c21 c22 c23 c24 c25 c26 c27 c29 m) x0 c0 c1 c2 c3 c4 c5 c6 c7 c8 c9 c10 c11 c12 c13 c14 c15 c16 c17 c18 c19 c20 c21 c22 c23 c24 c25 c26 c27 c29 c28 c30
def f28_0 := hid (@f28_0d R)
theorem f28_0_def : @f28_0 R = @f28_0d R := hid_eq
def f28d (k : Nat) (a0 a1 a2 a3 a4 a5 a6 a7 : Int) (a8 : ByteArray) (a9 : List Int) (a10 : Int) (a11 : zL5) (a12 a13 a14 a15 : Int) (a16 : ByteArray) (a17 : List Int) (a18 : zL5) (a19 a20 a21 a22 : Int) (a23 : List Bool) (a24 : Int) (a25 : List Bool) (a26 a27 : Int) (a28 a29 : zL1) (K : zK1 R) : Option R := match k with
 | 0 => none
 | k + 1 => (f28_0 k (fun p27 p29 => (K a1 a2 a3 a4 a5 a6 a7 a8 a9 a10 a11 a12 a13 a14 a15 a16 a17 a18 a19 a20 a21 a22 a23 a24 a25 a26 a27 p27 a29 p29)) a0 a1 a2 a3 a4 a5 a6 a7 a8 a9 a10 a11 a12 a13 a14 a15 a16 a17 a18 a19 a20 a21 a22 a23 a24 a25 a26 a27 a29 k a28 ([] : zL2))
def f28 := hid (@f28d R)
theorem f28_def : @f28 R = @f28d R := hid_eq
def f38d (k : Nat) (a0 a1 : Int) (a2 : ByteArray) (a3 : List Int) (a4 : zL5) (a5 a6 a7 a8 a9 a10 : Int) (a11 : ByteArray) (a12 a13 a14 : Int) (a15 : List Int) (a16 : zL5) (a17 : Bool) (K : Bool → Option R) : Option R := match k with
 | 0 => none
 | k + 1 => (bif (a9 == 2) then (bif (decide (a5 ≥ 0) == true) then (K (decide (IntKind.i64.wrap (a14 + (a15.length : Int)) > a5))) else (K false)) else (bif (decide (a5 ≥ 0) == true) then (bif ((a12 != a5) == false) then (bif ((a13 != a6) == false) then (bif ((a9 == 1) == true) then (bif ((!(a2.toList == (⟨#[]⟩ : ByteArray).toList)) == true) then (bif ((!(a11.toList == a2.toList)) == false) then (K (decide (a12 < (a3.length : Int)))) else (K true)) else (K (decide (a12 < (a3.length : Int))))) else (K (decide (a12 < (a3.length : Int))))) else (K true)) else (K true)) else (bif ((a9 == 1) == true) then (bif ((!(a2.toList == (⟨#[]⟩ : ByteArray).toList)) == true) then (bif ((!(a11.toList == a2.toList)) == false) then (K (decide (a12 < (a3.length : Int)))) else (K true)) else (K (decide (a12 < (a3.length : Int))))) else (K (decide (a12 < (a3.length : Int)))))))
def f38 := hid (@f38d R)
theorem f38_def : @f38 R = @f38d R := hid_eq
def f48d (k : Nat) (a0 : List Int) (a1 : Int) (K : List Int → Option R) : Option R := match k with
 | 0 => none
 | _ + 1 => bif repOk a0 a1 then K (repL a0 a1) else none
def f48 := hid (@f48d R)
theorem f48_def : @f48 R = @f48d R := hid_eq
def f49_1000007d (k : Nat) (xN : zL6 → Option R) (c1 : Int) (c5 : Bool) (c6 : zL6) (c7 : Int) : Option R :=
 (bif c5 then (bif decide (c6.length + ([(c1, (c7, ()))] : zL6).length ≤ LIM 16) then (xN (c6 ++ ([(c1, (c7, ()))] : zL6))) else none) else (xN c6))
def f49_1000007 := hid (@f49_1000007d R)
theorem f49_1000007_def : @f49_1000007 R = @f49_1000007d R := hid_eq
def f49_0b (k : Nat) (rec : Int → Int → zL6 → Option R) (x0 : Int → zL6 → Option R) (c0 : Int) (c2 : zL5) (c3 c1 c4 : Int) (c5 : zL6) : Option R :=
 (bif decide (c4 < c3) then (bif (decide (0 ≤ c4) && decide (c4 < (c2.length : Int))) then (f49_1000007 k (fun p4 => (rec (((c2.getD (Int.toNat c4) ((0 : Int), ((0 : Int), ()))).2).1) (IntKind.i64.wrap (c4 + 1)) p4)) c1 (decide ((c2.getD (Int.toNat c4) ((0 : Int), ((0 : Int), ()))).1 > c1)) c5 ((c2.getD (Int.toNat c4) ((0 : Int), ((0 : Int), ()))).1)) else none) else (x0 c1 c5))
def f49_0d (k : Nat) (x0 : Int → zL6 → Option R) (c0 : Int) (c2 : zL5) (c3 : Int) : Nat → Int → Int → zL6 → Option R
 | 0, _, _, _ => none
 | m + 1, c1, c4, c5 => f49_0b k (f49_0d k x0 c0 c2 c3 m) x0 c0 c2 c3 c1 c4 c5
def f49_0 := hid (@f49_0d R)
theorem f49_0_def : @f49_0 R = @f49_0d R := hid_eq
def f49_1000011d (k : Nat) (xN : zL6 → Option R) (c0 c1 : Int) (c2 : Bool) (c3 : zL6) : Option R :=
 (bif c2 then (bif decide (c3.length + ([(c1, (c0, ()))] : zL6).length ≤ LIM 16) then (xN (c3 ++ ([(c1, (c0, ()))] : zL6))) else none) else (xN c3))
def f49_1000011 := hid (@f49_1000011d R)
theorem f49_1000011_def : @f49_1000011 R = @f49_1000011d R := hid_eq
def f49d (k : Nat) (a0 : zL5) (a1 : Int) (K : zL6 → Option R) : Option R := match k with
 | 0 => none
 | k + 1 => (f49_0 k (fun y0_0_1 y0_0_2 => (f49_1000011 k (fun y11_N_0 => (K y11_N_0)) a1 y0_0_1 (decide (y0_0_1 < a1)) y0_0_2)) a1 a0 (a0.length : Int) k 0 0 ([] : zL5))
def f49 := hid (@f49d R)
theorem f49_def : @f49 R = @f49d R := hid_eq
def f63_1000002d (k : Nat) (xN : Option R) (c1 : Bool) : Option R :=
 (bif c1 then none else xN)
def f63_1000002 := hid (@f63_1000002d R)
theorem f63_1000002_def : @f63_1000002 R = @f63_1000002d R := hid_eq
def f63_1000005d (k : Nat) (xN : zL6 → Option R) (c0 : Int) (c1 : Bool) : Option R :=
 (bif c1 then (bif (decide (0 ≤ c0) && decide ((List.replicate (Int.toNat c0) ((0 : Int), ((0 : Int), ()))).length ≤ LIM 16)) then (bif decide (0 ≤ ((List.replicate (Int.toNat c0) ((0 : Int), ((0 : Int), ()))).length : Int)) then (xN (((List.replicate (Int.toNat c0) ((0 : Int), ((0 : Int), ()))).drop 0).take 0)) else none) else none) else (xN ([] : zL5)))
def f63_1000005 := hid (@f63_1000005d R)
theorem f63_1000005_def : @f63_1000005 R = @f63_1000005d R := hid_eq
def f63d (k : Nat) (a0 : Int) (K : zL6 → Option R) : Option R := match k with
 | 0 => none
 | k + 1 => (f63_1000002 k (f63_1000005 k (fun p0 => (K p0)) (IntKind.i64.wrap (a0 - 0)) (decide (IntKind.i64.wrap (a0 - 0) > 0))) (decide (a0 < 0)))
def f63 := hid (@f63d R)
theorem f63_def : @f63 R = @f63d R := hid_eq
def f58_1000007d (k : Nat) (xN : Option R) (c5 : Bool) : Option R :=
 (bif c5 then none else xN)
def f58_1000007 := hid (@f58_1000007d R)
theorem f58_1000007_def : @f58_1000007 R = @f58_1000007d R := hid_eq
def f58_0b (k : Nat) (rec : Int → Int → Option R) (x0 : Int → Option R) (c0 c2 : List (zL5)) (c3 c1 c4 : Int) : Option R :=
 (bif decide (c4 < c3) then (bif (decide (0 ≤ c4) && decide (c4 < (c2.length : Int))) then (f58_1000007 k (rec (IntKind.i64.wrap (c1 + ((c2.getD (Int.toNat c4) ([] : zL5)).length : Int))) (IntKind.i64.wrap (c4 + 1))) (decide (IntKind.i64.wrap (c1 + ((c2.getD (Int.toNat c4) ([] : zL5)).length : Int)) < 0))) else none) else (x0 c1))
def f58_0d (k : Nat) (x0 : Int → Option R) (c0 c2 : List (zL5)) (c3 : Int) : Nat → Int → Int → Option R
 | 0, _, _ => none
 | m + 1, c1, c4 => f58_0b k (f58_0d k x0 c0 c2 c3 m) x0 c0 c2 c3 c1 c4
def f58_0 := hid (@f58_0d R)
theorem f58_0_def : @f58_0 R = @f58_0d R := hid_eq
def f58_2b (k : Nat) (rec : Int → zL6 → Option R) (x2 : zL6 → Option R) (c0 : List (zL5)) (c1 c2 : Int) (c3 : zL6) : Option R :=
 (bif decide (c2 < c1) then (bif (decide (0 ≤ c2) && decide (c2 < (c0.length : Int))) then (bif decide (c3.length + (c0.getD (Int.toNat c2) ([] : zL5)).length ≤ LIM 16) then (rec (IntKind.i64.wrap (c2 + 1)) (c3 ++ (c0.getD (Int.toNat c2) ([] : zL5)))) else none) else none) else (x2 c3))
def f58_2d (k : Nat) (x2 : zL6 → Option R) (c0 : List (zL5)) (c1 : Int) : Nat → Int → zL6 → Option R
 | 0, _, _ => none
 | m + 1, c2, c3 => f58_2b k (f58_2d k x2 c0 c1 m) x2 c0 c1 c2 c3
def f58_2 := hid (@f58_2d R)
theorem f58_2_def : @f58_2 R = @f58_2d R := hid_eq
def f58d (k : Nat) (a0 : List (zL5)) (K : zL6 → Option R) : Option R := match k with
 | 0 => none
 | k + 1 => (f58_0 k (fun y0_0_1 => (f63 k y0_0_1 (fun r0_0 => (f58_2 k (fun y2_2_0 => (K y2_2_0)) a0 (a0.length : Int) k 0 r0_0)))) a0 a0 (a0.length : Int) k 0 0)
def f58 := hid (@f58d R)
theorem f58_def : @f58 R = @f58d R := hid_eq
def f59d (k : Nat) (a0 : zL6) (K : zL6 → Option R) : Option R := match k with
 | 0 => none
 | _ + 1 => bif sortOk a0 then K (srtL a0) else none
def f59 := hid (@f59d R)
theorem f59_def : @f59 R = @f59d R := hid_eq
def f50_1000009d (k : Nat) (xN : zL6 → Option R) (c0 : Int) (c3 : Bool) (c4 : zL6) (c5 c6 : Int) : Option R :=
 (bif c3 then (bif (decide (0 ≤ IntKind.i64.wrap (c0 - 1)) && decide (IntKind.i64.wrap (c0 - 1) < (c4.length : Int))) then (bif (decide (0 ≤ IntKind.i64.wrap (c0 - 1)) && decide (IntKind.i64.wrap (c0 - 1) < (c4.length : Int))) then (xN (c4.set (Int.toNat (IntKind.i64.wrap (c0 - 1))) ((c4.getD (Int.toNat (IntKind.i64.wrap (c0 - 1))) ((0 : Int), ((0 : Int), ()))).1, ((if ((c4.getD (Int.toNat (IntKind.i64.wrap (c0 - 1))) ((0 : Int), ((0 : Int), ()))).2).1 < c6 then c6 else ((c4.getD (Int.toNat (IntKind.i64.wrap (c0 - 1))) ((0 : Int), ((0 : Int), ()))).2).1), ())))) else none) else none) else (bif decide (c4.length + ([(c5, (c6, ()))] : zL6).length ≤ LIM 16) then (xN (c4 ++ ([(c5, (c6, ()))] : zL6))) else none))
def f50_1000009 := hid (@f50_1000009d R)
theorem f50_1000009_def : @f50_1000009 R = @f50_1000009d R := hid_eq
def f50_0b (k : Nat) (rec : Int → zL6 → Option R) (x0 : zL6 → Option R) (c0 : Int) (c3 : zL6) (c1 : Int) (c2 : zL6) : Option R :=
 (bif decide (c1 < c0) then (bif (decide (0 ≤ c1) && decide (c1 < (c3.length : Int))) then (bif (decide ((c2.length : Int) > 0) == true) then (bif (decide (0 ≤ IntKind.i64.wrap ((c2.length : Int) - 1)) && decide (IntKind.i64.wrap ((c2.length : Int) - 1) < (c2.length : Int))) then (f50_1000009 k (fun p2 => (rec (IntKind.i64.wrap (c1 + 1)) p2)) (c2.length : Int) (decide ((c3.getD (Int.toNat c1) ((0 : Int), ((0 : Int), ()))).1 ≤ ((c2.getD (Int.toNat (IntKind.i64.wrap ((c2.length : Int) - 1))) ((0 : Int), ((0 : Int), ()))).2).1)) c2 ((c3.getD (Int.toNat c1) ((0 : Int), ((0 : Int), ()))).1) (((c3.getD (Int.toNat c1) ((0 : Int), ((0 : Int), ()))).2).1)) else none) else (f50_1000009 k (fun p2 => (rec (IntKind.i64.wrap (c1 + 1)) p2)) (c2.length : Int) false c2 ((c3.getD (Int.toNat c1) ((0 : Int), ((0 : Int), ()))).1) (((c3.getD (Int.toNat c1) ((0 : Int), ((0 : Int), ()))).2).1))) else none) else (x0 c2))
def f50_0d (k : Nat) (x0 : zL6 → Option R) (c0 : Int) (c3 : zL6) : Nat → Int → zL6 → Option R
 | 0, _, _ => none
 | m + 1, c1, c2 => f50_0b k (f50_0d k x0 c0 c3 m) x0 c0 c3 c1 c2
def f50_0 := hid (@f50_0d R)
theorem f50_0_def : @f50_0 R = @f50_0d R := hid_eq
def f50d (k : Nat) (a0 a1 : zL5) (K : zL6 → Option R) : Option R := match k with
 | 0 => none
 | k + 1 => (f58 k ([a0, a1] : List (zL5)) (fun r0_0 => (f59 k r0_0 (fun r1_0 => (bif (decide (r1_0.length = r0_0.length) && true) then (f50_0 k (fun p0 => (K p0)) (r1_0.length : Int) r1_0 k 0 ([] : zL5)) else none)))))
def f50 := hid (@f50d R)
theorem f50_def : @f50 R = @f50d R := hid_eq
def f39_1000004d (k : Nat) (xN : List Int → Option R) (c4 : Int) (c5 : Bool) (c6 : List Int) : Option R :=
 (bif c5 then (f48 k ([0] : List Int) (IntKind.i64.wrap (c4 - (c6.length : Int))) (fun r0_0 => (bif decide (c6.length + r0_0.length ≤ LIM 1) then (xN (c6 ++ r0_0)) else none))) else (xN c6))
def f39_1000004 := hid (@f39_1000004d R)
theorem f39_1000004_def : @f39_1000004 R = @f39_1000004d R := hid_eq
def f39_1000011d (k : Nat) (xN : Bool → List Int → Option R) (c1 : Int) (c2 : List Int) (c4 : Bool) (c5 c6 : Int) (c9 : Bool) (c10 : List Int) : Option R :=
 (bif c9 then (bif (decide (0 ≤ c5) && (decide (c5 ≤ c6) && decide (c6 ≤ (c10.length : Int)))) then (bif (decide (0 ≤ IntKind.i64.wrap (c5 - c1)) && (decide (IntKind.i64.wrap (c5 - c1) ≤ IntKind.i64.wrap (c6 - c1)) && decide (IntKind.i64.wrap (c6 - c1) ≤ (c2.length : Int)))) then (xN true (splice c10 (Int.toNat c5) (((c2.take (Int.toNat (IntKind.i64.wrap (c6 - c1)))).drop (Int.toNat (IntKind.i64.wrap (c5 - c1)))).take (min ((c2.take (Int.toNat (IntKind.i64.wrap (c6 - c1)))).drop (Int.toNat (IntKind.i64.wrap (c5 - c1)))).length ((Int.toNat c6) - (Int.toNat c5)))))) else none) else none) else (xN c4 c10))
def f39_1000011 := hid (@f39_1000011d R)
theorem f39_1000011_def : @f39_1000011 R = @f39_1000011d R := hid_eq
def f39_0b (k : Nat) (rec : Bool → Int → List Int → Option R) (x0 : Bool → List Int → Option R) (c0 : zL5) (c1 : Int) (c2 : List Int) (c3 c5 : Int) (c8 : zL6) (c4 : Bool) (c6 : Int) (c7 : List Int) : Option R :=
 (bif decide (c6 < c5) then (bif (decide (0 ≤ c6) && decide (c6 < (c8.length : Int))) then (f39_1000011 k (fun p4 p7 => (rec p4 (IntKind.i64.wrap (c6 + 1)) p7)) c1 c2 c4 (if (c8.getD (Int.toNat c6) ((0 : Int), ((0 : Int), ()))).1 < c1 then c1 else (c8.getD (Int.toNat c6) ((0 : Int), ((0 : Int), ()))).1) (if c3 < ((c8.getD (Int.toNat c6) ((0 : Int), ((0 : Int), ()))).2).1 then c3 else ((c8.getD (Int.toNat c6) ((0 : Int), ((0 : Int), ()))).2).1) (decide ((if (c8.getD (Int.toNat c6) ((0 : Int), ((0 : Int), ()))).1 < c1 then c1 else (c8.getD (Int.toNat c6) ((0 : Int), ((0 : Int), ()))).1) < (if c3 < ((c8.getD (Int.toNat c6) ((0 : Int), ((0 : Int), ()))).2).1 then c3 else ((c8.getD (Int.toNat c6) ((0 : Int), ((0 : Int), ()))).2).1))) c7) else none) else (x0 c4 c7))
def f39_0d (k : Nat) (x0 : Bool → List Int → Option R) (c0 : zL5) (c1 : Int) (c2 : List Int) (c3 c5 : Int) (c8 : zL6) : Nat → Bool → Int → List Int → Option R
 | 0, _, _, _ => none
 | m + 1, c4, c6, c7 => f39_0b k (f39_0d k x0 c0 c1 c2 c3 c5 c8 m) x0 c0 c1 c2 c3 c5 c8 c4 c6 c7
def f39_0 := hid (@f39_0d R)
theorem f39_0_def : @f39_0 R = @f39_0d R := hid_eq
def f39d (k : Nat) (a0 : List Int) (a1 : zL5) (a2 : Int) (a3 : List Int) (K : Bool → List Int → zL6 → Option R) : Option R := match k with
 | 0 => none
 | k + 1 => (f27 k a0 (fun r0_0 => (f39_1000004 k (fun y4_N_5 => (f49 k a1 (if IntKind.i64.wrap (a2 + (a3.length : Int)) < (a0.length : Int) then (a0.length : Int) else IntKind.i64.wrap (a2 + (a3.length : Int))) (fun r1_0 => (f39_0 k (fun y0_0_3 y0_0_4 => (f50 k a1 ([(a2, (IntKind.i64.wrap (a2 + (a3.length : Int)), ()))] : zL6) (fun r2_0 => (K y0_0_3 y0_0_4 r2_0)))) a1 a2 a3 (IntKind.i64.wrap (a2 + (a3.length : Int))) (r1_0.length : Int) r1_0 k false 0 y4_N_5)))) (IntKind.i64.wrap (a2 + (a3.length : Int))) (decide (IntKind.i64.wrap (a2 + (a3.length : Int)) > (r0_0.length : Int))) r0_0)))
def f39 := hid (@f39d R)
theorem f39_def : @f39 R = @f39d R := hid_eq
def f40d (k : Nat) (a0 a1 : Int) (a2 : ByteArray) (a3 : List Int) (a4 : zL5) (a5 a6 a7 a8 : Int) (K : zL6 → Option R) : Option R := match k with
 | 0 => none
 | k + 1 => (f49 k a4 a5 (fun r0_0 => (K r0_0)))
def f40 := hid (@f40d R)
theorem f40_def : @f40 R = @f40d R := hid_eq
def f41_0b (k : Nat) (rec : Int → Int → Option R) (x0 : Int → Option R) (c1 : List Int) (c2 c0 c3 : Int) : Option R :=
 (bif decide (c3 < c2) then (bif (decide (0 ≤ c3) && decide (c3 < (c1.length : Int))) then (bif decide (0 ≤ IntKind.i64.wrap (24 - (IntKind.i64.wrap (8 * (Int.tmod c3 4))))) then (rec (IntKind.i64.wrap (c0 + (IntKind.i64.wrap ((IntKind.i64.wrap (c1.getD (Int.toNat c3) 0)) * 2 ^ min (Int.toNat (IntKind.i64.wrap (24 - (IntKind.i64.wrap (8 * (Int.tmod c3 4)))))) 64)))) (IntKind.i64.wrap (c3 + 1))) else none) else none) else (x0 c0))
def f41_0d (k : Nat) (x0 : Int → Option R) (c1 : List Int) (c2 : Int) : Nat → Int → Int → Option R
 | 0, _, _ => none
 | m + 1, c0, c3 => f41_0b k (f41_0d k x0 c1 c2 m) x0 c1 c2 c0 c3
def f41_0 := hid (@f41_0d R)
theorem f41_0_def : @f41_0 R = @f41_0d R := hid_eq
def f41d (k : Nat) (a0 : List Int) (K : Int → Option R) : Option R := match k with
 | 0 => none
 | k + 1 => (f41_0 k (fun p0 => (K (bits .and .i64 p0 4294967295))) a0 (a0.length : Int) k 0 0)
def f41 := hid (@f41d R)
theorem f41_def : @f41 R = @f41d R := hid_eq
def f53d (k : Nat) (K : Int → Int → Option R) : Option R := match k with
 | 0 => none
 | k + 1 => (K (-1) 0)
def f53 := hid (@f53d R)
theorem f53_def : @f53 R = @f53d R := hid_eq
def f51d (k : Nat) (a0 : zL5) (a1 : Bool) (K : zL5 → Option R) : Option R := match k with
 | 0 => none
 | k + 1 => (bif a1 then (f53 k (fun r0_0 r0_1 => (f58 k ([([(r0_0, (r0_1, ()))] : zL6), a0] : List (zL5)) (fun r1_0 => (K r1_0))))) else (K a0))
def f51 := hid (@f51d R)
theorem f51_def : @f51 R = @f51d R := hid_eq
def f42d (k : Nat) (a0 a1 : Int) (a2 : ByteArray) (a3 : List Int) (a4 : zL5) (a5 a6 a7 a8 : Int) (K : zL5 → Int → Option R) : Option R := match k with
 | 0 => none
 | k + 1 => (f40 k a0 a1 a2 a3 a4 a5 a6 a7 a8 (fun r0_0 => (bif decide ((r0_0.length : Int) > 2000) then (K ([] : zL5) 2) else (f51 k r0_0 (a2.toList == (⟨#[]⟩ : ByteArray).toList) (fun r1_0 => (K r1_0 0))))))
def f42 := hid (@f42d R)
theorem f42_def : @f42 R = @f42d R := hid_eq
def f29_1000018d (k : Nat) (xN : Int → Option R) (c0 : Bool) (c12 : Int) : Option R :=
 (bif c0 then (xN 0) else (xN c12))
def f29_1000018 := hid (@f29_1000018d R)
theorem f29_1000018_def : @f29_1000018 R = @f29_1000018d R := hid_eq
def f29_1000023d (k : Nat) (xN : ByteArray → Option R) (c0 : Bool) (c8 c17 : ByteArray) : Option R :=
 (bif c0 then (xN c17) else (xN c8))
def f29_1000023 := hid (@f29_1000023d R)
theorem f29_1000023_def : @f29_1000023 R = @f29_1000023d R := hid_eq
def f29_1000015d (k : Nat) (K : zK2 R) (xN : ByteArray → List Int → zL5 → Int → Int → Int → Option R) (c0 : Bool) (c8 : ByteArray) (c9 : List Int) (c10 : zL5) (c11 c12 c14 c15 : Int) (c17 : ByteArray) (c18 c19 c20 : Int) (c21 : List Int) : Option R :=
 (bif c0 then (f39 k c9 c10 c20 c21 (fun r0_0 r0_1 r0_2 => (f29_1000018 k (fun y18_N_11 => (bif decide ((r0_2.length : Int) > 2000) then (K 0 0 (⟨#[]⟩ : ByteArray) ([] : List Int) ([] : zL5) 0 0 0 0 2 ([] : zL2)) else (xN c8 r0_1 r0_2 c11 c12 y18_N_11))) r0_0 c14))) else (f29_1000023 k (fun y23_N_7 => (xN y23_N_7 c9 c10 c18 c19 c14)) (c15 == 1) c8 c17))
def f29_1000015 := hid (@f29_1000015d R)
theorem f29_1000015_def : @f29_1000015 R = @f29_1000015d R := hid_eq
def f29_1000025d (k : Nat) (xN : Int → Option R) (c0 : Bool) (c6 : Int) : Option R :=
 (bif c0 then (xN 1) else (xN c6))
def f29_1000025 := hid (@f29_1000025d R)
theorem f29_1000025_def : @f29_1000025 R = @f29_1000025d R := hid_eq
def f29_1000030d (k : Nat) (xN : Int → Option R) (c1 : Bool) (c2 : Int) : Option R :=
 (bif c1 then (xN 3) else (xN c2))
def f29_1000030 := hid (@f29_1000030d R)
theorem f29_1000030_def : @f29_1000030 R = @f29_1000030d R := hid_eq
def f29d (k : Nat) (a0 a1 a2 a3 a4 a5 a6 : Int) (a7 : ByteArray) (a8 : List Int) (a9 : zL5) (a10 a11 a12 a13 a14 a15 : Int) (a16 : ByteArray) (a17 a18 a19 : Int) (a20 : List Int) (a21 : zL5) (a22 : Bool) (K : zK2 R) : Option R := match k with
 | 0 => none
 | k + 1 => (bif ((a14 == 1) == false) then (bif ((a14 == 2) == false) then (bif ((a14 == 3) == false) then (bif ((a15 != a6) == false) then (bif ((!(a14 == 6)) == false) then (bif (a5 == 4) then (K a5 a6 a7 a8 a9 a10 a11 a12 a13 0 ([] : zL2)) else (bif (a5 == 3) then (bif (a14 == 3) then (K a5 a6 a7 a8 a9 a10 a11 a12 a13 0 ([((5 : Int), (a6, ((⟨#[]⟩ : ByteArray), ((0 : Int), ((0 : Int), ((0 : Int), (([] : List Int), (([] : zL5), (true, ())))))))))] : zL3)) else (K a5 a6 a7 a8 a9 a10 a11 a12 a13 0 ([] : zL2))) else (bif (a14 == 6) then (K 4 a6 a7 a8 a9 a10 a11 0 a13 0 ([] : zL2)) else (f38 k a5 a6 a7 a8 a9 a10 a11 a12 a13 a14 a15 a16 a17 a18 a19 a20 a21 a22 (fun r0_0 => (bif r0_0 then (K 4 a6 a7 a8 a9 a10 a11 0 a13 0 ([((6 : Int), (a6, ((⟨#[]⟩ : ByteArray), ((0 : Int), ((0 : Int), ((0 : Int), (([] : List Int), (([] : zL5), (false, ())))))))))] : zL3)) else (f29_1000015 k K (fun y15_N_7 y15_N_8 y15_N_9 y15_N_10 y15_N_11 y15_N_13 => (f29_1000025 k (fun y25_N_5 => (bif ((!(y15_N_7.toList == (⟨#[]⟩ : ByteArray).toList)) == true) then (bif (decide (y15_N_10 ≥ 0) == true) then (f40 k y25_N_5 a6 y15_N_7 y15_N_8 y15_N_9 y15_N_10 y15_N_11 a12 y15_N_13 (fun r1_0 => (bif ((r1_0.length : Int) == 0) then (f41 k y15_N_8 (fun r2_0 => (f29_1000030 k (fun y30_N_1 => (K y30_N_1 a6 y15_N_7 y15_N_8 y15_N_9 y15_N_10 y15_N_11 0 y15_N_13 0 ([((5 : Int), (a6, ((⟨#[]⟩ : ByteArray), ((0 : Int), ((0 : Int), ((0 : Int), (([] : List Int), (([] : zL5), ((r2_0 == y15_N_11), ())))))))))] : zL3))) (r2_0 == y15_N_11) 4))) else (bif (a14 != 3) then (K y25_N_5 a6 y15_N_7 y15_N_8 y15_N_9 y15_N_10 y15_N_11 a12 y15_N_13 0 ([] : zL2)) else (f42 k 2 a6 y15_N_7 y15_N_8 y15_N_9 y15_N_10 y15_N_11 a3 y15_N_13 (fun r3_0 r3_1 => (bif (r3_1 != 0) then (K 0 0 (⟨#[]⟩ : ByteArray) ([] : List Int) ([] : zL5) 0 0 0 0 r3_1 ([] : zL2)) else (K 2 a6 y15_N_7 y15_N_8 y15_N_9 y15_N_10 y15_N_11 a3 y15_N_13 0 ([((4 : Int), (a6, ((⟨#[]⟩ : ByteArray), ((0 : Int), ((0 : Int), ((0 : Int), (([] : List Int), (r3_0, (false, ())))))))))] : zL3))))))))) else (bif (a14 != 3) then (K y25_N_5 a6 y15_N_7 y15_N_8 y15_N_9 y15_N_10 y15_N_11 a12 y15_N_13 0 ([] : zL2)) else (f42 k 2 a6 y15_N_7 y15_N_8 y15_N_9 y15_N_10 y15_N_11 a3 y15_N_13 (fun r3_0 r3_1 => (bif (r3_1 != 0) then (K 0 0 (⟨#[]⟩ : ByteArray) ([] : List Int) ([] : zL5) 0 0 0 0 r3_1 ([] : zL2)) else (K 2 a6 y15_N_7 y15_N_8 y15_N_9 y15_N_10 y15_N_11 a3 y15_N_13 0 ([((4 : Int), (a6, ((⟨#[]⟩ : ByteArray), ((0 : Int), ((0 : Int), ((0 : Int), (([] : List Int), (r3_0, (false, ())))))))))] : zL3))))))) else (bif (a14 != 3) then (K y25_N_5 a6 y15_N_7 y15_N_8 y15_N_9 y15_N_10 y15_N_11 a12 y15_N_13 0 ([] : zL2)) else (f42 k 2 a6 y15_N_7 y15_N_8 y15_N_9 y15_N_10 y15_N_11 a3 y15_N_13 (fun r3_0 r3_1 => (bif (r3_1 != 0) then (K 0 0 (⟨#[]⟩ : ByteArray) ([] : List Int) ([] : zL5) 0 0 0 0 r3_1 ([] : zL2)) else (K 2 a6 y15_N_7 y15_N_8 y15_N_9 y15_N_10 y15_N_11 a3 y15_N_13 0 ([((4 : Int), (a6, ((⟨#[]⟩ : ByteArray), ((0 : Int), ((0 : Int), ((0 : Int), (([] : List Int), (r3_0, (false, ())))))))))] : zL3)))))))) (a5 == 0) a5)) (a14 == 2) a7 a8 a9 a10 a11 a13 a14 a16 a17 a18 a19 a20))))))) else (K a5 a6 a7 a8 a9 a10 a11 a12 a13 0 ([] : zL2))) else (K a5 a6 a7 a8 a9 a10 a11 a12 a13 0 ([] : zL2))) else (bif ((a15 != a6) == false) then (bif (a5 == 4) then (K a5 a6 a7 a8 a9 a10 a11 a12 a13 0 ([] : zL2)) else (bif (a5 == 3) then (bif (a14 == 3) then (K a5 a6 a7 a8 a9 a10 a11 a12 a13 0 ([((5 : Int), (a6, ((⟨#[]⟩ : ByteArray), ((0 : Int), ((0 : Int), ((0 : Int), (([] : List Int), (([] : zL5), (true, ())))))))))] : zL3)) else (K a5 a6 a7 a8 a9 a10 a11 a12 a13 0 ([] : zL2))) else (bif (a14 == 6) then (K 4 a6 a7 a8 a9 a10 a11 0 a13 0 ([] : zL2)) else (f38 k a5 a6 a7 a8 a9 a10 a11 a12 a13 a14 a15 a16 a17 a18 a19 a20 a21 a22 (fun r0_0 => (bif r0_0 then (K 4 a6 a7 a8 a9 a10 a11 0 a13 0 ([((6 : Int), (a6, ((⟨#[]⟩ : ByteArray), ((0 : Int), ((0 : Int), ((0 : Int), (([] : List Int), (([] : zL5), (false, ())))))))))] : zL3)) else (f29_1000015 k K (fun y15_N_7 y15_N_8 y15_N_9 y15_N_10 y15_N_11 y15_N_13 => (f29_1000025 k (fun y25_N_5 => (bif ((!(y15_N_7.toList == (⟨#[]⟩ : ByteArray).toList)) == true) then (bif (decide (y15_N_10 ≥ 0) == true) then (f40 k y25_N_5 a6 y15_N_7 y15_N_8 y15_N_9 y15_N_10 y15_N_11 a12 y15_N_13 (fun r1_0 => (bif ((r1_0.length : Int) == 0) then (f41 k y15_N_8 (fun r2_0 => (f29_1000030 k (fun y30_N_1 => (K y30_N_1 a6 y15_N_7 y15_N_8 y15_N_9 y15_N_10 y15_N_11 0 y15_N_13 0 ([((5 : Int), (a6, ((⟨#[]⟩ : ByteArray), ((0 : Int), ((0 : Int), ((0 : Int), (([] : List Int), (([] : zL5), ((r2_0 == y15_N_11), ())))))))))] : zL3))) (r2_0 == y15_N_11) 4))) else (bif (a14 != 3) then (K y25_N_5 a6 y15_N_7 y15_N_8 y15_N_9 y15_N_10 y15_N_11 a12 y15_N_13 0 ([] : zL2)) else (f42 k 2 a6 y15_N_7 y15_N_8 y15_N_9 y15_N_10 y15_N_11 a3 y15_N_13 (fun r3_0 r3_1 => (bif (r3_1 != 0) then (K 0 0 (⟨#[]⟩ : ByteArray) ([] : List Int) ([] : zL5) 0 0 0 0 r3_1 ([] : zL2)) else (K 2 a6 y15_N_7 y15_N_8 y15_N_9 y15_N_10 y15_N_11 a3 y15_N_13 0 ([((4 : Int), (a6, ((⟨#[]⟩ : ByteArray), ((0 : Int), ((0 : Int), ((0 : Int), (([] : List Int), (r3_0, (false, ())))))))))] : zL3))))))))) else (bif (a14 != 3) then (K y25_N_5 a6 y15_N_7 y15_N_8 y15_N_9 y15_N_10 y15_N_11 a12 y15_N_13 0 ([] : zL2)) else (f42 k 2 a6 y15_N_7 y15_N_8 y15_N_9 y15_N_10 y15_N_11 a3 y15_N_13 (fun r3_0 r3_1 => (bif (r3_1 != 0) then (K 0 0 (⟨#[]⟩ : ByteArray) ([] : List Int) ([] : zL5) 0 0 0 0 r3_1 ([] : zL2)) else (K 2 a6 y15_N_7 y15_N_8 y15_N_9 y15_N_10 y15_N_11 a3 y15_N_13 0 ([((4 : Int), (a6, ((⟨#[]⟩ : ByteArray), ((0 : Int), ((0 : Int), ((0 : Int), (([] : List Int), (r3_0, (false, ())))))))))] : zL3))))))) else (bif (a14 != 3) then (K y25_N_5 a6 y15_N_7 y15_N_8 y15_N_9 y15_N_10 y15_N_11 a12 y15_N_13 0 ([] : zL2)) else (f42 k 2 a6 y15_N_7 y15_N_8 y15_N_9 y15_N_10 y15_N_11 a3 y15_N_13 (fun r3_0 r3_1 => (bif (r3_1 != 0) then (K 0 0 (⟨#[]⟩ : ByteArray) ([] : List Int) ([] : zL5) 0 0 0 0 r3_1 ([] : zL2)) else (K 2 a6 y15_N_7 y15_N_8 y15_N_9 y15_N_10 y15_N_11 a3 y15_N_13 0 ([((4 : Int), (a6, ((⟨#[]⟩ : ByteArray), ((0 : Int), ((0 : Int), ((0 : Int), (([] : List Int), (r3_0, (false, ())))))))))] : zL3)))))))) (a5 == 0) a5)) (a14 == 2) a7 a8 a9 a10 a11 a13 a14 a16 a17 a18 a19 a20))))))) else (K a5 a6 a7 a8 a9 a10 a11 a12 a13 0 ([] : zL2)))) else (bif ((a15 != a6) == false) then (bif (a5 == 4) then (K a5 a6 a7 a8 a9 a10 a11 a12 a13 0 ([] : zL2)) else (bif (a5 == 3) then (bif (a14 == 3) then (K a5 a6 a7 a8 a9 a10 a11 a12 a13 0 ([((5 : Int), (a6, ((⟨#[]⟩ : ByteArray), ((0 : Int), ((0 : Int), ((0 : Int), (([] : List Int), (([] : zL5), (true, ())))))))))] : zL3)) else (K a5 a6 a7 a8 a9 a10 a11 a12 a13 0 ([] : zL2))) else (bif (a14 == 6) then (K 4 a6 a7 a8 a9 a10 a11 0 a13 0 ([] : zL2)) else (f38 k a5 a6 a7 a8 a9 a10 a11 a12 a13 a14 a15 a16 a17 a18 a19 a20 a21 a22 (fun r0_0 => (bif r0_0 then (K 4 a6 a7 a8 a9 a10 a11 0 a13 0 ([((6 : Int), (a6, ((⟨#[]⟩ : ByteArray), ((0 : Int), ((0 : Int), ((0 : Int), (([] : List Int), (([] : zL5), (false, ())))))))))] : zL3)) else (f29_1000015 k K (fun y15_N_7 y15_N_8 y15_N_9 y15_N_10 y15_N_11 y15_N_13 => (f29_1000025 k (fun y25_N_5 => (bif ((!(y15_N_7.toList == (⟨#[]⟩ : ByteArray).toList)) == true) then (bif (decide (y15_N_10 ≥ 0) == true) then (f40 k y25_N_5 a6 y15_N_7 y15_N_8 y15_N_9 y15_N_10 y15_N_11 a12 y15_N_13 (fun r1_0 => (bif ((r1_0.length : Int) == 0) then (f41 k y15_N_8 (fun r2_0 => (f29_1000030 k (fun y30_N_1 => (K y30_N_1 a6 y15_N_7 y15_N_8 y15_N_9 y15_N_10 y15_N_11 0 y15_N_13 0 ([((5 : Int), (a6, ((⟨#[]⟩ : ByteArray), ((0 : Int), ((0 : Int), ((0 : Int), (([] : List Int), (([] : zL5), ((r2_0 == y15_N_11), ())))))))))] : zL3))) (r2_0 == y15_N_11) 4))) else (bif (a14 != 3) then (K y25_N_5 a6 y15_N_7 y15_N_8 y15_N_9 y15_N_10 y15_N_11 a12 y15_N_13 0 ([] : zL2)) else (f42 k 2 a6 y15_N_7 y15_N_8 y15_N_9 y15_N_10 y15_N_11 a3 y15_N_13 (fun r3_0 r3_1 => (bif (r3_1 != 0) then (K 0 0 (⟨#[]⟩ : ByteArray) ([] : List Int) ([] : zL5) 0 0 0 0 r3_1 ([] : zL2)) else (K 2 a6 y15_N_7 y15_N_8 y15_N_9 y15_N_10 y15_N_11 a3 y15_N_13 0 ([((4 : Int), (a6, ((⟨#[]⟩ : ByteArray), ((0 : Int), ((0 : Int), ((0 : Int), (([] : List Int), (r3_0, (false, ())))))))))] : zL3))))))))) else (bif (a14 != 3) then (K y25_N_5 a6 y15_N_7 y15_N_8 y15_N_9 y15_N_10 y15_N_11 a12 y15_N_13 0 ([] : zL2)) else (f42 k 2 a6 y15_N_7 y15_N_8 y15_N_9 y15_N_10 y15_N_11 a3 y15_N_13 (fun r3_0 r3_1 => (bif (r3_1 != 0) then (K 0 0 (⟨#[]⟩ : ByteArray) ([] : List Int) ([] : zL5) 0 0 0 0 r3_1 ([] : zL2)) else (K 2 a6 y15_N_7 y15_N_8 y15_N_9 y15_N_10 y15_N_11 a3 y15_N_13 0 ([((4 : Int), (a6, ((⟨#[]⟩ : ByteArray), ((0 : Int), ((0 : Int), ((0 : Int), (([] : List Int), (r3_0, (false, ())))))))))] : zL3))))))) else (bif (a14 != 3) then (K y25_N_5 a6 y15_N_7 y15_N_8 y15_N_9 y15_N_10 y15_N_11 a12 y15_N_13 0 ([] : zL2)) else (f42 k 2 a6 y15_N_7 y15_N_8 y15_N_9 y15_N_10 y15_N_11 a3 y15_N_13 (fun r3_0 r3_1 => (bif (r3_1 != 0) then (K 0 0 (⟨#[]⟩ : ByteArray) ([] : List Int) ([] : zL5) 0 0 0 0 r3_1 ([] : zL2)) else (K 2 a6 y15_N_7 y15_N_8 y15_N_9 y15_N_10 y15_N_11 a3 y15_N_13 0 ([((4 : Int), (a6, ((⟨#[]⟩ : ByteArray), ((0 : Int), ((0 : Int), ((0 : Int), (([] : List Int), (r3_0, (false, ())))))))))] : zL3)))))))) (a5 == 0) a5)) (a14 == 2) a7 a8 a9 a10 a11 a13 a14 a16 a17 a18 a19 a20))))))) else (K a5 a6 a7 a8 a9 a10 a11 a12 a13 0 ([] : zL2)))) else (bif ((a15 != a6) == false) then (bif (a5 == 4) then (K a5 a6 a7 a8 a9 a10 a11 a12 a13 0 ([] : zL2)) else (bif (a5 == 3) then (bif (a14 == 3) then (K a5 a6 a7 a8 a9 a10 a11 a12 a13 0 ([((5 : Int), (a6, ((⟨#[]⟩ : ByteArray), ((0 : Int), ((0 : Int), ((0 : Int), (([] : List Int), (([] : zL5), (true, ())))))))))] : zL3)) else (K a5 a6 a7 a8 a9 a10 a11 a12 a13 0 ([] : zL2))) else (bif (a14 == 6) then (K 4 a6 a7 a8 a9 a10 a11 0 a13 0 ([] : zL2)) else (f38 k a5 a6 a7 a8 a9 a10 a11 a12 a13 a14 a15 a16 a17 a18 a19 a20 a21 a22 (fun r0_0 => (bif r0_0 then (K 4 a6 a7 a8 a9 a10 a11 0 a13 0 ([((6 : Int), (a6, ((⟨#[]⟩ : ByteArray), ((0 : Int), ((0 : Int), ((0 : Int), (([] : List Int), (([] : zL5), (false, ())))))))))] : zL3)) else (f29_1000015 k K (fun y15_N_7 y15_N_8 y15_N_9 y15_N_10 y15_N_11 y15_N_13 => (f29_1000025 k (fun y25_N_5 => (bif ((!(y15_N_7.toList == (⟨#[]⟩ : ByteArray).toList)) == true) then (bif (decide (y15_N_10 ≥ 0) == true) then (f40 k y25_N_5 a6 y15_N_7 y15_N_8 y15_N_9 y15_N_10 y15_N_11 a12 y15_N_13 (fun r1_0 => (bif ((r1_0.length : Int) == 0) then (f41 k y15_N_8 (fun r2_0 => (f29_1000030 k (fun y30_N_1 => (K y30_N_1 a6 y15_N_7 y15_N_8 y15_N_9 y15_N_10 y15_N_11 0 y15_N_13 0 ([((5 : Int), (a6, ((⟨#[]⟩ : ByteArray), ((0 : Int), ((0 : Int), ((0 : Int), (([] : List Int), (([] : zL5), ((r2_0 == y15_N_11), ())))))))))] : zL3))) (r2_0 == y15_N_11) 4))) else (bif (a14 != 3) then (K y25_N_5 a6 y15_N_7 y15_N_8 y15_N_9 y15_N_10 y15_N_11 a12 y15_N_13 0 ([] : zL2)) else (f42 k 2 a6 y15_N_7 y15_N_8 y15_N_9 y15_N_10 y15_N_11 a3 y15_N_13 (fun r3_0 r3_1 => (bif (r3_1 != 0) then (K 0 0 (⟨#[]⟩ : ByteArray) ([] : List Int) ([] : zL5) 0 0 0 0 r3_1 ([] : zL2)) else (K 2 a6 y15_N_7 y15_N_8 y15_N_9 y15_N_10 y15_N_11 a3 y15_N_13 0 ([((4 : Int), (a6, ((⟨#[]⟩ : ByteArray), ((0 : Int), ((0 : Int), ((0 : Int), (([] : List Int), (r3_0, (false, ())))))))))] : zL3))))))))) else (bif (a14 != 3) then (K y25_N_5 a6 y15_N_7 y15_N_8 y15_N_9 y15_N_10 y15_N_11 a12 y15_N_13 0 ([] : zL2)) else (f42 k 2 a6 y15_N_7 y15_N_8 y15_N_9 y15_N_10 y15_N_11 a3 y15_N_13 (fun r3_0 r3_1 => (bif (r3_1 != 0) then (K 0 0 (⟨#[]⟩ : ByteArray) ([] : List Int) ([] : zL5) 0 0 0 0 r3_1 ([] : zL2)) else (K 2 a6 y15_N_7 y15_N_8 y15_N_9 y15_N_10 y15_N_11 a3 y15_N_13 0 ([((4 : Int), (a6, ((⟨#[]⟩ : ByteArray), ((0 : Int), ((0 : Int), ((0 : Int), (([] : List Int), (r3_0, (false, ())))))))))] : zL3))))))) else (bif (a14 != 3) then (K y25_N_5 a6 y15_N_7 y15_N_8 y15_N_9 y15_N_10 y15_N_11 a12 y15_N_13 0 ([] : zL2)) else (f42 k 2 a6 y15_N_7 y15_N_8 y15_N_9 y15_N_10 y15_N_11 a3 y15_N_13 (fun r3_0 r3_1 => (bif (r3_1 != 0) then (K 0 0 (⟨#[]⟩ : ByteArray) ([] : List Int) ([] : zL5) 0 0 0 0 r3_1 ([] : zL2)) else (K 2 a6 y15_N_7 y15_N_8 y15_N_9 y15_N_10 y15_N_11 a3 y15_N_13 0 ([((4 : Int), (a6, ((⟨#[]⟩ : ByteArray), ((0 : Int), ((0 : Int), ((0 : Int), (([] : List Int), (r3_0, (false, ())))))))))] : zL3)))))))) (a5 == 0) a5)) (a14 == 2) a7 a8 a9 a10 a11 a13 a14 a16 a17 a18 a19 a20))))))) else (K a5 a6 a7 a8 a9 a10 a11 a12 a13 0 ([] : zL2))))
def f29 := hid (@f29d R)
theorem f29_def : @f29 R = @f29d R := hid_eq
def f30_1000004d (k : Nat) (xN : zL1 → Option R) (c0 : Int) (c4 : Bool) (c33 : zL1) (c34 c35 : Int) (c36 : ByteArray) (c37 c38 c39 : Int) (c40 : List Int) (c41 : zL5) (c42 : Bool) : Option R :=
 (bif c4 then (bif decide (c33.length + ([(c0, ((c34, (c35, (c36, (c37, (c38, (c39, (c40, (c41, (c42, ()))))))))), ()))] : zL1).length ≤ LIM 120) then (xN (c33 ++ ([(c0, ((c34, (c35, (c36, (c37, (c38, (c39, (c40, (c41, (c42, ()))))))))), ()))] : zL1))) else none) else (xN c33))
def f30_1000004 := hid (@f30_1000004d R)
theorem f30_1000004_def : @f30_1000004 R = @f30_1000004d R := hid_eq
def f30_0b (k : Nat) (rec : Int → Int → zL1 → Option R) (x0 : Int → zL1 → Option R) (c0 : Int) (c1 : zL2) (c2 c4 c5 c6 c7 c8 c9 c10 : Int) (c11 : ByteArray) (c12 : List Int) (c13 : Int) (c14 : zL5) (c15 c16 c17 c18 : Int) (c19 : ByteArray) (c20 : List Int) (c21 : zL5) (c22 c23 c24 c25 : Int) (c26 : List Bool) (c27 : Int) (c28 : List Bool) (c30 : Int) (c31 : zL1) (c3 c29 : Int) (c32 : zL1) : Option R :=
 (bif decide (c3 < c2) then (bif (decide (0 ≤ c3) && decide (c3 < (c1.length : Int))) then (bif (decide (c29 ≥ (c28.length : Int)) == false) then (bif (decide (0 ≤ c29) && decide (c29 < (c28.length : Int))) then (f30_1000004 k (fun p32 => (rec (IntKind.i64.wrap (c3 + 1)) (IntKind.i64.wrap (c29 + 1)) p32)) c0 (!(c28.getD (Int.toNat c29) false)) c32 ((c1.getD (Int.toNat c3) zD0).1) (((c1.getD (Int.toNat c3) zD0).2).1) ((((c1.getD (Int.toNat c3) zD0).2).2).1) (((((c1.getD (Int.toNat c3) zD0).2).2).2).1) ((((((c1.getD (Int.toNat c3) zD0).2).2).2).2).1) (((((((c1.getD (Int.toNat c3) zD0).2).2).2).2).2).1) ((((((((c1.getD (Int.toNat c3) zD0).2).2).2).2).2).2).1) (((((((((c1.getD (Int.toNat c3) zD0).2).2).2).2).2).2).2).1) ((((((((((c1.getD (Int.toNat c3) zD0).2).2).2).2).2).2).2).2).1)) else none) else (f30_1000004 k (fun p32 => (rec (IntKind.i64.wrap (c3 + 1)) (IntKind.i64.wrap (c29 + 1)) p32)) c0 true c32 ((c1.getD (Int.toNat c3) zD0).1) (((c1.getD (Int.toNat c3) zD0).2).1) ((((c1.getD (Int.toNat c3) zD0).2).2).1) (((((c1.getD (Int.toNat c3) zD0).2).2).2).1) ((((((c1.getD (Int.toNat c3) zD0).2).2).2).2).1) (((((((c1.getD (Int.toNat c3) zD0).2).2).2).2).2).1) ((((((((c1.getD (Int.toNat c3) zD0).2).2).2).2).2).2).1) (((((((((c1.getD (Int.toNat c3) zD0).2).2).2).2).2).2).2).1) ((((((((((c1.getD (Int.toNat c3) zD0).2).2).2).2).2).2).2).2).1))) else none) else (x0 c29 c32))
def f30_0d (k : Nat) (x0 : Int → zL1 → Option R) (c0 : Int) (c1 : zL2) (c2 c4 c5 c6 c7 c8 c9 c10 : Int) (c11 : ByteArray) (c12 : List Int) (c13 : Int) (c14 : zL5) (c15 c16 c17 c18 : Int) (c19 : ByteArray) (c20 : List Int) (c21 : zL5) (c22 c23 c24 c25 : Int) (c26 : List Bool) (c27 : Int) (c28 : List Bool) (c30 : Int) (c31 : zL1) : Nat → Int → Int → zL1 → Option R
 | 0, _, _, _ => none
 | m + 1, c3, c29, c32 => f30_0b k (f30_0d k x0 c0 c1 c2 c4 c5 c6 c7 c8 c9 c10 c11 c12 c13 c14 c15 c16 c17 c18 c19 c20 c21 c22 c23 c24 c25 c26 c27 c28 c30 c31 m) x0 c0 c1 c2 c4 c5 c6 c7 c8 c9 c10 c11 c12 c13 c14 c15 c16 c17 c18 c19 c20 c21 c22 c23 c24 c25 c26 c27 c28 c30 c31 c3 c29 c32
def f30_0 := hid (@f30_0d R)
theorem f30_0_def : @f30_0 R = @f30_0d R := hid_eq
def f30d (k : Nat) (a0 : Int) (a1 : zL2) (a2 a3 a4 a5 a6 a7 a8 : Int) (a9 : ByteArray) (a10 : List Int) (a11 : Int) (a12 : zL5) (a13 a14 a15 a16 : Int) (a17 : ByteArray) (a18 : List Int) (a19 : zL5) (a20 a21 a22 a23 : Int) (a24 : List Bool) (a25 : Int) (a26 : List Bool) (a27 a28 : Int) (a29 a30 : zL1) (K : zK3 R) : Option R := match k with
 | 0 => none
 | k + 1 => (f30_0 k (fun p25 p28 => (K a2 a3 a4 a5 a6 a7 a8 a9 a10 a11 a12 a13 a14 a15 a16 a17 a18 a19 a20 a21 a22 a23 a24 a25 a26 p25 a28 a29 p28)) a0 a1 (a1.length : Int) a2 a3 a4 a5 a6 a7 a8 a9 a10 a11 a12 a13 a14 a15 a16 a17 a18 a19 a20 a21 a22 a23 a24 a25 a26 a28 a29 k 0 a27 a30)
def f30 := hid (@f30d R)
theorem f30_def : @f30 R = @f30d R := hid_eq
def f28v1_0b (k : Nat) (rec x0 : zL1 → zL3 → Option R) (c0 c1 c2 c3 c4 c5 c6 c7 : Int) (c8 : ByteArray) (c9 : List Int) (c10 : Int) (c11 : zL5) (c12 c13 c14 c15 : Int) (c16 : ByteArray) (c17 : List Int) (c18 : zL5) (c19 c20 c21 c22 : Int) (c23 : List Bool) (c24 : Int) (c25 : List Bool) (c26 c27 : Int) (c28 c29 : zL1) (c30 : zL3) : Option R :=
 (bif (decide ((c29.length : Int) > 0) == true) then (bif decide (0 < (c29.length : Int)) then (bif decide ((c29.getD 0 ((0 : Int), (zD0, ()))).1 ≤ c0) then (bif decide (0 < (c29.length : Int)) then (bif decide (c30.length + ([((((c29.getD 0 ((0 : Int), (zD0, ()))).2).1).1, (((((c29.getD 0 ((0 : Int), (zD0, ()))).2).1).2).1, ((((((c29.getD 0 ((0 : Int), (zD0, ()))).2).1).2).2).1, (((((((c29.getD 0 ((0 : Int), (zD0, ()))).2).1).2).2).2).1, ((((((((c29.getD 0 ((0 : Int), (zD0, ()))).2).1).2).2).2).2).1, (((((((((c29.getD 0 ((0 : Int), (zD0, ()))).2).1).2).2).2).2).2).1, ((((((((((c29.getD 0 ((0 : Int), (zD0, ()))).2).1).2).2).2).2).2).2).1, (((((((((((c29.getD 0 ((0 : Int), (zD0, ()))).2).1).2).2).2).2).2).2).2).1, ((((((((((((c29.getD 0 ((0 : Int), (zD0, ()))).2).1).2).2).2).2).2).2).2).2).1, ())))))))))] : zL3).length ≤ LIM 112) then (bif decide (1 ≤ (c29.length : Int)) then (rec ((c29.drop 1).take (c29.length - 1)) (c30 ++ ([((((c29.getD 0 ((0 : Int), (zD0, ()))).2).1).1, (((((c29.getD 0 ((0 : Int), (zD0, ()))).2).1).2).1, ((((((c29.getD 0 ((0 : Int), (zD0, ()))).2).1).2).2).1, (((((((c29.getD 0 ((0 : Int), (zD0, ()))).2).1).2).2).2).1, ((((((((c29.getD 0 ((0 : Int), (zD0, ()))).2).1).2).2).2).2).1, (((((((((c29.getD 0 ((0 : Int), (zD0, ()))).2).1).2).2).2).2).2).1, ((((((((((c29.getD 0 ((0 : Int), (zD0, ()))).2).1).2).2).2).2).2).2).1, (((((((((((c29.getD 0 ((0 : Int), (zD0, ()))).2).1).2).2).2).2).2).2).2).1, ((((((((((((c29.getD 0 ((0 : Int), (zD0, ()))).2).1).2).2).2).2).2).2).2).2).1, ())))))))))] : zL3))) else none) else none) else none) else (x0 c29 c30)) else none) else (x0 c29 c30))
def f28v1_0d (k : Nat) (x0 : zL1 → zL3 → Option R) (c0 c1 c2 c3 c4 c5 c6 c7 : Int) (c8 : ByteArray) (c9 : List Int) (c10 : Int) (c11 : zL5) (c12 c13 c14 c15 : Int) (c16 : ByteArray) (c17 : List Int) (c18 : zL5) (c19 c20 c21 c22 : Int) (c23 : List Bool) (c24 : Int) (c25 : List Bool) (c26 c27 : Int) (c28 : zL1) : Nat → zL1 → zL3 → Option R
 | 0, _, _ => none
 | m + 1, c29, c30 => f28v1_0b k (f28v1_0d k x0 c0 c1 c2 c3 c4 c5 c6 c7 c8 c9 c10 c11 c12 c13 c14 c15 c16 c17 c18 c19 c20 c21 c22 c23 c24 c25 c26 c27 c28 m) x0 c0 c1 c2 c3 c4 c5 c6 c7 c8 c9 c10 c11 c12 c13 c14 c15 c16 c17 c18 c19 c20 c21 c22 c23 c24 c25 c26 c27 c28 c29 c30
def f28v1_0 := hid (@f28v1_0d R)
theorem f28v1_0_def : @f28v1_0 R = @f28v1_0d R := hid_eq
def f28v1d (k : Nat) (a0 a1 a2 a3 a4 a5 a6 a7 : Int) (a8 : ByteArray) (a9 : List Int) (a10 : Int) (a11 : zL5) (a12 a13 a14 a15 : Int) (a16 : ByteArray) (a17 : List Int) (a18 : zL5) (a19 a20 a21 a22 : Int) (a23 : List Bool) (a24 : Int) (a25 : List Bool) (a26 a27 : Int) (a28 a29 : zL1) (K : zK1 R) : Option R := match k with
 | 0 => none
 | k + 1 => (f28v1_0 k (fun p28 p29 => (K a1 a2 a3 a4 a5 a6 a7 a8 a9 a10 a11 a12 a13 a14 a15 a16 a17 a18 a19 a20 a21 a22 a23 a24 a25 a26 a27 a28 p28 p29)) a0 a1 a2 a3 a4 a5 a6 a7 a8 a9 a10 a11 a12 a13 a14 a15 a16 a17 a18 a19 a20 a21 a22 a23 a24 a25 a26 a27 a28 k a29 ([] : zL2))
def f28v1 := hid (@f28v1d R)
theorem f28v1_def : @f28v1 R = @f28v1d R := hid_eq
def f52d (k : Nat) (a0 : zL5) (K : zL5 → Bool → Option R) : Option R := match k with
 | 0 => none
 | k + 1 => (bif (decide ((a0.length : Int) > 0) == true) then (bif decide (0 < (a0.length : Int)) then (f53 k (fun r0_0 r0_1 => (bif ((((a0.getD 0 ((0 : Int), ((0 : Int), ()))).1, (((a0.getD 0 ((0 : Int), ((0 : Int), ()))).2).1, ())).1 == (r0_0, (r0_1, ())).1) && (((((a0.getD 0 ((0 : Int), ((0 : Int), ()))).1, (((a0.getD 0 ((0 : Int), ((0 : Int), ()))).2).1, ())).2).1 == ((r0_0, (r0_1, ())).2).1) && true)) then (bif decide (1 ≤ (a0.length : Int)) then (K (a0.drop 1) true) else none) else (K a0 false)))) else none) else (K a0 false))
def f52 := hid (@f52d R)
theorem f52_def : @f52 R = @f52d R := hid_eq
def f43_1000008d (k : Nat) (xN : zL6 → Option R) (c6 : Bool) (c21 : zL6) (c22 c23 : Int) : Option R :=
 (bif c6 then (bif decide (c21.length + ([(c22, (c23, ()))] : zL6).length ≤ LIM 16) then (xN (c21 ++ ([(c22, (c23, ()))] : zL6))) else none) else (xN c21))
def f43_1000008 := hid (@f43_1000008d R)
theorem f43_1000008_def : @f43_1000008 R = @f43_1000008d R := hid_eq
def f43_0b (k : Nat) (rec : Int → zL6 → Option R) (x0 : zL6 → Option R) (c0 : Bool) (c1 : zL5) (c2 : Bool) (c3 : zL5) (c4 c6 c7 : Int) (c8 : ByteArray) (c9 : List Int) (c10 : Int) (c11 : zL5) (c12 c13 c14 c15 : Int) (c16 : ByteArray) (c17 c18 c19 c5 : Int) (c20 : zL6) : Option R :=
 (bif decide (c5 < c4) then (bif (decide (0 ≤ c5) && decide (c5 < (c3.length : Int))) then (f43_1000008 k (fun p20 => (rec (IntKind.i64.wrap (c5 + 1)) p20)) (decide (((c3.getD (Int.toNat c5) ((0 : Int), ((0 : Int), ()))).2).1 ≤ c10)) c20 ((c3.getD (Int.toNat c5) ((0 : Int), ((0 : Int), ()))).1) (((c3.getD (Int.toNat c5) ((0 : Int), ((0 : Int), ()))).2).1)) else none) else (x0 c20))
def f43_0d (k : Nat) (x0 : zL6 → Option R) (c0 : Bool) (c1 : zL5) (c2 : Bool) (c3 : zL5) (c4 c6 c7 : Int) (c8 : ByteArray) (c9 : List Int) (c10 : Int) (c11 : zL5) (c12 c13 c14 c15 : Int) (c16 : ByteArray) (c17 c18 c19 : Int) : Nat → Int → zL6 → Option R
 | 0, _, _ => none
 | m + 1, c5, c20 => f43_0b k (f43_0d k x0 c0 c1 c2 c3 c4 c6 c7 c8 c9 c10 c11 c12 c13 c14 c15 c16 c17 c18 c19 m) x0 c0 c1 c2 c3 c4 c6 c7 c8 c9 c10 c11 c12 c13 c14 c15 c16 c17 c18 c19 c5 c20
def f43_0 := hid (@f43_0d R)
theorem f43_0_def : @f43_0 R = @f43_0d R := hid_eq
def f43_1000016d (k : Nat) (xN : Int → Int → Option R) (c0 : Bool) (c1 c7 : Int) : Option R :=
 (bif c0 then (xN 1 0) else (xN c1 c7))
def f43_1000016 := hid (@f43_1000016d R)
theorem f43_1000016_def : @f43_1000016 R = @f43_1000016d R := hid_eq
def f43d (k : Nat) (a0 a1 : Int) (a2 : ByteArray) (a3 : List Int) (a4 : Int) (a5 : zL5) (a6 a7 : Int) (a8 : zL5) (K : zK4 R) : Option R := match k with
 | 0 => none
 | k + 1 => (f52 k a8 (fun r0_0 r0_1 => (f52 k a5 (fun r1_0 r1_1 => (f43_0 k (fun y0_0_17 => (f50 k r1_0 y0_0_17 (fun r2_0 => (bif decide ((r2_0.length : Int) > 2000) then (K 0 0 (⟨#[]⟩ : ByteArray) ([] : List Int) 0 ([] : zL5) 0 0 2) else (bif (r1_1 == false) then (bif (r0_1 == true) then (f51 k r2_0 (a4 != (-1)) (fun r3_0 => (f43_1000016 k (fun y16_N_0 y16_N_6 => (K y16_N_0 a1 a2 a3 a4 r3_0 y16_N_6 0 0)) (decide ((r3_0.length : Int) > 0)) a0 a6))) else (f51 k r2_0 false (fun r3_0 => (f43_1000016 k (fun y16_N_0 y16_N_6 => (K y16_N_0 a1 a2 a3 a4 r3_0 y16_N_6 0 0)) (decide ((r3_0.length : Int) > 0)) a0 a6)))) else (f51 k r2_0 true (fun r3_0 => (f43_1000016 k (fun y16_N_0 y16_N_6 => (K y16_N_0 a1 a2 a3 a4 r3_0 y16_N_6 0 0)) (decide ((r3_0.length : Int) > 0)) a0 a6)))))))) r0_1 r1_0 r1_1 r0_0 (r0_0.length : Int) a0 a1 a2 a3 a4 a5 a6 a7 0 0 (⟨#[]⟩ : ByteArray) 0 0 0 k 0 ([] : zL5))))))
def f43 := hid (@f43d R)
theorem f43_def : @f43 R = @f43d R := hid_eq
def f31_1000008d (k : Nat) (xN : Int → zL5 → Int → Option R) (c0 : Bool) (c1 : Int) (c6 : zL5) (c7 : Int) : Option R :=
 (bif c0 then (xN 4 ([] : zL5) 0) else (xN c1 c6 c7))
def f31_1000008 := hid (@f31_1000008d R)
theorem f31_1000008_def : @f31_1000008 R = @f31_1000008d R := hid_eq
def f31_1000006d (k : Nat) (xN : Int → zL5 → Int → Option R) (c0 : Bool) (c1 : Int) (c6 : zL5) (c7 c9 : Int) : Option R :=
 (bif c0 then (xN 3 ([] : zL5) 0) else (bif ((c9 == 5) == false) then (f31_1000008 k (fun p0 p5 p6 => (xN p0 p5 p6)) (c9 == 6) c1 c6 c7) else (f31_1000008 k (fun p0 p5 p6 => (xN p0 p5 p6)) true c1 c6 c7)))
def f31_1000006 := hid (@f31_1000006d R)
theorem f31_1000006_def : @f31_1000006 R = @f31_1000006d R := hid_eq
def f31d (k : Nat) (a0 a1 : Int) (a2 : ByteArray) (a3 : List Int) (a4 : Int) (a5 : zL5) (a6 a7 a8 a9 : Int) (a10 : ByteArray) (a11 a12 a13 : Int) (a14 : List Int) (a15 : zL5) (a16 : Bool) (K : zK4 R) : Option R := match k with
 | 0 => none
 | k + 1 => (bif ((a9 != a1) == false) then (bif ((a0 == 3) == false) then (bif (a0 == 4) then (K a0 a1 a2 a3 a4 a5 a6 a7 0) else (bif (a8 == 4) then (f43 k a0 a1 a2 a3 a4 a5 a6 a7 a15 (fun r0_0 r0_1 r0_2 r0_3 r0_4 r0_5 r0_6 r0_7 r0_8 => (K r0_0 r0_1 r0_2 r0_3 r0_4 r0_5 r0_6 r0_7 r0_8))) else (bif ((a8 == 5) == true) then (f31_1000006 k (fun p0 p5 p6 => (K p0 a1 a2 a3 a4 p5 p6 a7 0)) a16 a0 a5 a6 a8) else (f31_1000006 k (fun p0 p5 p6 => (K p0 a1 a2 a3 a4 p5 p6 a7 0)) false a0 a5 a6 a8)))) else (K a0 a1 a2 a3 a4 a5 a6 a7 0)) else (K a0 a1 a2 a3 a4 a5 a6 a7 0))
def f31 := hid (@f31d R)
theorem f31_def : @f31 R = @f31d R := hid_eq
def f44d (k : Nat) (a0 a1 : Int) (a2 : ByteArray) (a3 : List Int) (a4 : Int) (a5 : zL5) (a6 a7 : Int) (K : Int → Int → ByteArray → Int → Int → Int → Bool → Option R) : Option R := match k with
 | 0 => none
 | k + 1 => (f41 k a3 (fun r0_0 => (K 3 a1 (⟨#[]⟩ : ByteArray) (a3.length : Int) r0_0 0 false)))
def f44 := hid (@f44d R)
theorem f44_def : @f44 R = @f44d R := hid_eq
def f54d (k : Nat) (a0 : zL6) (K : zL6 → Option R) : Option R := match k with
 | 0 => none
 | _ + 1 => bif decide (a0.length ≤ LIM 16) then K a0 else none
def f54 := hid (@f54d R)
theorem f54_def : @f54 R = @f54d R := hid_eq
def f55d (k : Nat) (a0 a1 : Int) (a2 : ByteArray) (a3 : List Int) (a4 : Int) (a5 : zL5) (a6 a7 a8 a9 : Int) (K : zK5 R) : Option R := match k with
 | 0 => none
 | k + 1 => (bif (decide (0 ≤ a8) && (decide (a8 ≤ IntKind.i64.wrap (a8 + a9)) && decide (IntKind.i64.wrap (a8 + a9) ≤ (a3.length : Int)))) then (f27 k ((a3.take (Int.toNat (IntKind.i64.wrap (a8 + a9)))).drop (Int.toNat a8)) (fun r0_0 => (K 2 a1 (⟨#[]⟩ : ByteArray) 0 0 a8 false r0_0))) else none)
def f55 := hid (@f55d R)
theorem f55_def : @f55 R = @f55d R := hid_eq
def f45_1000018d (k : Nat) (xN : zL6 → Option R) (c0 : Bool) (c8 : zL6) : Option R :=
 (bif c0 then (bif decide (1 ≤ (c8.length : Int)) then (xN ((c8.drop 1).take (c8.length - 1))) else none) else (xN c8))
def f45_1000018 := hid (@f45_1000018d R)
theorem f45_1000018_def : @f45_1000018 R = @f45_1000018d R := hid_eq
def f45d (k : Nat) (a0 a1 a2 a3 a4 a5 a6 : Int) (a7 : ByteArray) (a8 : List Int) (a9 : Int) (a10 : zL5) (a11 a12 : Int) (K : zK6 R) : Option R := match k with
 | 0 => none
 | k + 1 => (bif (a9 == (-1)) then (f41 k a8 (fun r0_0 => (K a5 a6 a7 a8 0 a10 a11 a12 1 a6 a7 (a8.length : Int) r0_0 0 false ([] : List Int)))) else (bif (decide ((a10.length : Int) > 0) == true) then (bif decide (0 < (a10.length : Int)) then (f53 k (fun r1_0 r1_1 => (bif ((((a10.getD 0 ((0 : Int), ((0 : Int), ()))).1, (((a10.getD 0 ((0 : Int), ((0 : Int), ()))).2).1, ())).1 == (r1_0, (r1_1, ())).1) && (((((a10.getD 0 ((0 : Int), ((0 : Int), ()))).1, (((a10.getD 0 ((0 : Int), ((0 : Int), ()))).2).1, ())).2).1 == ((r1_0, (r1_1, ())).2).1) && true)) then (bif decide (1 ≤ (a10.length : Int)) then (f54 k (a10.drop 1) (fun r2_0 => (f41 k a8 (fun r3_0 => (K a5 a6 a7 a8 a9 r2_0 a11 a12 1 a6 a7 (a8.length : Int) r3_0 0 false ([] : List Int)))))) else none) else (bif decide ((a10.length : Int) > 0) then (bif decide (0 < (a10.length : Int)) then (f55 k a5 a6 a7 a8 a9 a10 a11 a12 ((a10.getD 0 ((0 : Int), ((0 : Int), ()))).1) (if a0 < IntKind.i64.wrap ((((a10.getD 0 ((0 : Int), ((0 : Int), ()))).2).1) - ((a10.getD 0 ((0 : Int), ((0 : Int), ()))).1)) then a0 else IntKind.i64.wrap ((((a10.getD 0 ((0 : Int), ((0 : Int), ()))).2).1) - ((a10.getD 0 ((0 : Int), ((0 : Int), ()))).1))) (fun r4_0 r4_1 r4_2 r4_3 r4_4 r4_5 r4_6 r4_7 => (f54 k a10 (fun r5_0 => (bif decide (0 < (r5_0.length : Int)) then (bif decide (0 < (r5_0.length : Int)) then (bif decide (0 < ((r5_0.set 0 (IntKind.i64.wrap (((r5_0.getD 0 ((0 : Int), ((0 : Int), ()))).1) + (if a0 < IntKind.i64.wrap ((((a10.getD 0 ((0 : Int), ((0 : Int), ()))).2).1) - ((a10.getD 0 ((0 : Int), ((0 : Int), ()))).1)) then a0 else IntKind.i64.wrap ((((a10.getD 0 ((0 : Int), ((0 : Int), ()))).2).1) - ((a10.getD 0 ((0 : Int), ((0 : Int), ()))).1)))), (((r5_0.getD 0 ((0 : Int), ((0 : Int), ()))).2).1, ()))).length : Int)) then (f45_1000018 k (fun p7 => (K a5 a6 a7 a8 a9 p7 a11 a12 r4_0 r4_1 r4_2 r4_3 r4_4 r4_5 r4_6 r4_7)) (((r5_0.set 0 (IntKind.i64.wrap (((r5_0.getD 0 ((0 : Int), ((0 : Int), ()))).1) + (if a0 < IntKind.i64.wrap ((((a10.getD 0 ((0 : Int), ((0 : Int), ()))).2).1) - ((a10.getD 0 ((0 : Int), ((0 : Int), ()))).1)) then a0 else IntKind.i64.wrap ((((a10.getD 0 ((0 : Int), ((0 : Int), ()))).2).1) - ((a10.getD 0 ((0 : Int), ((0 : Int), ()))).1)))), (((r5_0.getD 0 ((0 : Int), ((0 : Int), ()))).2).1, ()))).getD 0 ((0 : Int), ((0 : Int), ()))).1 == ((a10.getD 0 ((0 : Int), ((0 : Int), ()))).2).1) (r5_0.set 0 (IntKind.i64.wrap (((r5_0.getD 0 ((0 : Int), ((0 : Int), ()))).1) + (if a0 < IntKind.i64.wrap ((((a10.getD 0 ((0 : Int), ((0 : Int), ()))).2).1) - ((a10.getD 0 ((0 : Int), ((0 : Int), ()))).1)) then a0 else IntKind.i64.wrap ((((a10.getD 0 ((0 : Int), ((0 : Int), ()))).2).1) - ((a10.getD 0 ((0 : Int), ((0 : Int), ()))).1)))), (((r5_0.getD 0 ((0 : Int), ((0 : Int), ()))).2).1, ())))) else none) else none) else none))))) else none) else (bif decide (a9 < (a8.length : Int)) then (f55 k a5 a6 a7 a8 a9 a10 a11 a12 a9 (if a0 < IntKind.i64.wrap ((a8.length : Int) - a9) then a0 else IntKind.i64.wrap ((a8.length : Int) - a9)) (fun r6_0 r6_1 r6_2 r6_3 r6_4 r6_5 r6_6 r6_7 => (K a5 a6 a7 a8 (IntKind.i64.wrap (a9 + (if a0 < IntKind.i64.wrap ((a8.length : Int) - a9) then a0 else IntKind.i64.wrap ((a8.length : Int) - a9)))) a10 a11 a12 r6_0 r6_1 r6_2 r6_3 r6_4 r6_5 r6_6 r6_7))) else (f44 k 2 a6 a7 a8 a9 a10 a3 a12 (fun r7_0 r7_1 r7_2 r7_3 r7_4 r7_5 r7_6 => (K 2 a6 a7 a8 a9 a10 a3 a12 r7_0 r7_1 r7_2 r7_3 r7_4 r7_5 r7_6 ([] : List Int))))))))) else none) else (bif decide ((a10.length : Int) > 0) then (bif decide (0 < (a10.length : Int)) then (f55 k a5 a6 a7 a8 a9 a10 a11 a12 ((a10.getD 0 ((0 : Int), ((0 : Int), ()))).1) (if a0 < IntKind.i64.wrap ((((a10.getD 0 ((0 : Int), ((0 : Int), ()))).2).1) - ((a10.getD 0 ((0 : Int), ((0 : Int), ()))).1)) then a0 else IntKind.i64.wrap ((((a10.getD 0 ((0 : Int), ((0 : Int), ()))).2).1) - ((a10.getD 0 ((0 : Int), ((0 : Int), ()))).1))) (fun r4_0 r4_1 r4_2 r4_3 r4_4 r4_5 r4_6 r4_7 => (f54 k a10 (fun r5_0 => (bif decide (0 < (r5_0.length : Int)) then (bif decide (0 < (r5_0.length : Int)) then (bif decide (0 < ((r5_0.set 0 (IntKind.i64.wrap (((r5_0.getD 0 ((0 : Int), ((0 : Int), ()))).1) + (if a0 < IntKind.i64.wrap ((((a10.getD 0 ((0 : Int), ((0 : Int), ()))).2).1) - ((a10.getD 0 ((0 : Int), ((0 : Int), ()))).1)) then a0 else IntKind.i64.wrap ((((a10.getD 0 ((0 : Int), ((0 : Int), ()))).2).1) - ((a10.getD 0 ((0 : Int), ((0 : Int), ()))).1)))), (((r5_0.getD 0 ((0 : Int), ((0 : Int), ()))).2).1, ()))).length : Int)) then (f45_1000018 k (fun p7 => (K a5 a6 a7 a8 a9 p7 a11 a12 r4_0 r4_1 r4_2 r4_3 r4_4 r4_5 r4_6 r4_7)) (((r5_0.set 0 (IntKind.i64.wrap (((r5_0.getD 0 ((0 : Int), ((0 : Int), ()))).1) + (if a0 < IntKind.i64.wrap ((((a10.getD 0 ((0 : Int), ((0 : Int), ()))).2).1) - ((a10.getD 0 ((0 : Int), ((0 : Int), ()))).1)) then a0 else IntKind.i64.wrap ((((a10.getD 0 ((0 : Int), ((0 : Int), ()))).2).1) - ((a10.getD 0 ((0 : Int), ((0 : Int), ()))).1)))), (((r5_0.getD 0 ((0 : Int), ((0 : Int), ()))).2).1, ()))).getD 0 ((0 : Int), ((0 : Int), ()))).1 == ((a10.getD 0 ((0 : Int), ((0 : Int), ()))).2).1) (r5_0.set 0 (IntKind.i64.wrap (((r5_0.getD 0 ((0 : Int), ((0 : Int), ()))).1) + (if a0 < IntKind.i64.wrap ((((a10.getD 0 ((0 : Int), ((0 : Int), ()))).2).1) - ((a10.getD 0 ((0 : Int), ((0 : Int), ()))).1)) then a0 else IntKind.i64.wrap ((((a10.getD 0 ((0 : Int), ((0 : Int), ()))).2).1) - ((a10.getD 0 ((0 : Int), ((0 : Int), ()))).1)))), (((r5_0.getD 0 ((0 : Int), ((0 : Int), ()))).2).1, ())))) else none) else none) else none))))) else none) else (bif decide (a9 < (a8.length : Int)) then (f55 k a5 a6 a7 a8 a9 a10 a11 a12 a9 (if a0 < IntKind.i64.wrap ((a8.length : Int) - a9) then a0 else IntKind.i64.wrap ((a8.length : Int) - a9)) (fun r6_0 r6_1 r6_2 r6_3 r6_4 r6_5 r6_6 r6_7 => (K a5 a6 a7 a8 (IntKind.i64.wrap (a9 + (if a0 < IntKind.i64.wrap ((a8.length : Int) - a9) then a0 else IntKind.i64.wrap ((a8.length : Int) - a9)))) a10 a11 a12 r6_0 r6_1 r6_2 r6_3 r6_4 r6_5 r6_6 r6_7))) else (f44 k 2 a6 a7 a8 a9 a10 a3 a12 (fun r7_0 r7_1 r7_2 r7_3 r7_4 r7_5 r7_6 => (K 2 a6 a7 a8 a9 a10 a3 a12 r7_0 r7_1 r7_2 r7_3 r7_4 r7_5 r7_6 ([] : List Int))))))))
def f45 := hid (@f45d R)
theorem f45_def : @f45 R = @f45d R := hid_eq
def f32_0b (k : Nat) (rec x0 : zK7 R) (c0 c1 c2 c3 c4 c13 c14 : Int) (c15 : ByteArray) (c16 c17 c18 c5 c6 : Int) (c7 : ByteArray) (c8 : List Int) (c9 : Int) (c10 : zL5) (c11 c12 : Int) (c19 : zL3) : Option R :=
 (bif (decide ((c19.length : Int) < c2) == true) then (bif (c5 == 1) then (f45 k c0 c1 c2 c3 c4 c5 c6 c7 c8 c9 c10 c11 c12 (fun r0_0 r0_1 r0_2 r0_3 r0_4 r0_5 r0_6 r0_7 r0_8 r0_9 r0_10 r0_11 r0_12 r0_13 r0_14 r0_15 => (bif decide (c19.length + ([(r0_8, (r0_9, (r0_10, (r0_11, (r0_12, (r0_13, (r0_15, (([] : zL5), (r0_14, ())))))))))] : zL3).length ≤ LIM 112) then (rec r0_0 r0_1 r0_2 r0_3 r0_4 r0_5 r0_6 r0_7 (c19 ++ ([(r0_8, (r0_9, (r0_10, (r0_11, (r0_12, (r0_13, (r0_15, (([] : zL5), (r0_14, ())))))))))] : zL3))) else none))) else (x0 c5 c6 c7 c8 c9 c10 c11 c12 c19)) else (x0 c5 c6 c7 c8 c9 c10 c11 c12 c19))
def f32_0d (k : Nat) (x0 : zK7 R) (c0 c1 c2 c3 c4 c13 c14 : Int) (c15 : ByteArray) (c16 c17 c18 : Int) : Nat → Int → Int → ByteArray → List Int → Int → zL5 → Int → Int → zL3 → Option R
 | 0, _, _, _, _, _, _, _, _, _ => none
 | m + 1, c5, c6, c7, c8, c9, c10, c11, c12, c19 => f32_0b k (f32_0d k x0 c0 c1 c2 c3 c4 c13 c14 c15 c16 c17 c18 m) x0 c0 c1 c2 c3 c4 c13 c14 c15 c16 c17 c18 c5 c6 c7 c8 c9 c10 c11 c12 c19
def f32_0 := hid (@f32_0d R)
theorem f32_0_def : @f32_0 R = @f32_0d R := hid_eq
def f32d (k : Nat) (a0 a1 a2 a3 a4 a5 a6 : Int) (a7 : ByteArray) (a8 : List Int) (a9 : Int) (a10 : zL5) (a11 a12 : Int) (K : zK7 R) : Option R := match k with
 | 0 => none
 | k + 1 => (bif (a5 == 2) then (bif decide (IntKind.i64.wrap (a11 - 1) > 0) then (K a5 a6 a7 a8 a9 a10 (IntKind.i64.wrap (a11 - 1)) a12 ([] : zL2)) else (bif decide (a12 ≥ a4) then (K 4 a6 a7 a8 a9 a10 (IntKind.i64.wrap (a11 - 1)) a12 ([((6 : Int), (a6, ((⟨#[]⟩ : ByteArray), ((0 : Int), ((0 : Int), ((0 : Int), (([] : List Int), (([] : zL5), (false, ())))))))))] : zL3)) else (f44 k a5 a6 a7 a8 a9 a10 a3 (IntKind.i64.wrap (a12 + 1)) (fun r0_0 r0_1 r0_2 r0_3 r0_4 r0_5 r0_6 => (K a5 a6 a7 a8 a9 a10 a3 (IntKind.i64.wrap (a12 + 1)) ([(r0_0, (r0_1, (r0_2, (r0_3, (r0_4, (r0_5, (([] : List Int), (([] : zL5), (r0_6, ())))))))))] : zL3)))))) else (f32_0 k (fun p0 p1 p2 p3 p4 p5 p6 p7 p14 => (K p0 p1 p2 p3 p4 p5 p6 p7 p14)) a0 a1 a2 a3 a4 0 0 (⟨#[]⟩ : ByteArray) 0 0 0 k a5 a6 a7 a8 a9 a10 a11 a12 ([] : zL2)))
def f32 := hid (@f32d R)
theorem f32_def : @f32 R = @f32d R := hid_eq
end
end Go.Proofs.Ytoepnomdklhhlaa.PM
