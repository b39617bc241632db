/- Functions of the program in typed form (printed by a program of this work). -/
import Derived.Test.YtadkplikobhckaaPmE
set_option linter.unusedVariables false
set_option linter.unusedSimpArgs false
set_option maxRecDepth 100000
namespace Go.Proofs.Ytadkplikobhckaa.PM
open Go
noncomputable def f59d {R : Type} (k : Nat) (a0 : List Int) (K : List Int → Option R) : Option R := match k with
  | 0 => none
  | _ + 1 => bif decide (a0.length ≤ LIM 1) then K a0 else none
theorem f59x {R : Type} : ∃ f, f = @f59d R := ⟨_, rfl⟩
noncomputable def f59 {R : Type} := Classical.choose (f59x (R := R))
theorem f59_def {R : Type} : @f59 R = @f59d R := Classical.choose_spec f59x
noncomputable def f62d {R : Type} (k : Nat) (a0 : Int) (a1 : Int) (a2 : Int) (K : Bool → Option R) : Option R := match k with
  | 0 => none
  | k + 1 => (bif (decide (a1 ≤ a0) == true) then (K (decide (a0 ≤ a2))) else (K false))
theorem f62x {R : Type} : ∃ f, f = @f62d R := ⟨_, rfl⟩
noncomputable def f62 {R : Type} := Classical.choose (f62x (R := R))
theorem f62_def {R : Type} : @f62 R = @f62d R := Classical.choose_spec f62x
noncomputable def f70d {R : Type} (k : Nat) (a0 : List Int) (K : Int → Option R) : Option R := match k with
  | 0 => none
  | k + 1 => (bif ((a0.length : Int) == (0 : Int)) then (K (9 : Int)) else (bif decide ((a0.length : Int) > (200 : Int)) then (K (2 : Int)) else (K (0 : Int))))
theorem f70x {R : Type} : ∃ f, f = @f70d R := ⟨_, rfl⟩
noncomputable def f70 {R : Type} := Classical.choose (f70x (R := R))
theorem f70_def {R : Type} : @f70 R = @f70d R := Classical.choose_spec f70x
noncomputable def f60d {R : Type} (k : Nat) (a0 : Int) (a1 : Int) (a2 : List Int) (K : Int → Option R) : Option R := match k with
  | 0 => none
  | k + 1 => (bif ((a0 == (1 : Int)) == false) then (f62 k a0 (1 : Int) (5 : Int) (fun r6146_0 => (bif (!r6146_0) then (K (4 : Int)) else (f62 k a1 (0 : Int) (255 : Int) (fun r10242_0 => (bif ((!r10242_0) == false) then (bif ((!(a0 == (4 : Int))) == true) then (bif (a1 != (0 : Int)) then (K (1 : Int)) else (bif ((a0 == (1 : Int)) == false) then (bif (a0 == (2 : Int)) then (f70 k a2 (fun r16386_0 => (K r16386_0))) else (bif decide ((a2.length : Int) > (0 : Int)) then (K (3 : Int)) else (K (0 : Int)))) else (f70 k a2 (fun r16386_0 => (K r16386_0))))) else (bif ((a0 == (1 : Int)) == false) then (bif (a0 == (2 : Int)) then (f70 k a2 (fun r16386_0 => (K r16386_0))) else (bif decide ((a2.length : Int) > (0 : Int)) then (K (3 : Int)) else (K (0 : Int)))) else (f70 k a2 (fun r16386_0 => (K r16386_0))))) else (K (1 : Int)))))))) else (f62 k a0 (1 : Int) (5 : Int) (fun r6146_0 => (bif (!r6146_0) then (K (4 : Int)) else (f62 k a1 (0 : Int) (255 : Int) (fun r10242_0 => (bif ((!r10242_0) == false) then (bif ((a0 == (1 : Int)) == false) then (bif (a0 == (2 : Int)) then (f70 k a2 (fun r16386_0 => (K r16386_0))) else (bif decide ((a2.length : Int) > (0 : Int)) then (K (3 : Int)) else (K (0 : Int)))) else (f70 k a2 (fun r16386_0 => (K r16386_0)))) else (K (1 : Int)))))))))
theorem f60x {R : Type} : ∃ f, f = @f60d R := ⟨_, rfl⟩
noncomputable def f60 {R : Type} := Classical.choose (f60x (R := R))
theorem f60_def {R : Type} : @f60 R = @f60d R := Classical.choose_spec f60x
noncomputable def f16d {R : Type} (k : Nat) (a0 : List Int) (K : Int → Int → Int → List Int → Option R) : Option R := match k with
  | 0 => none
  | k + 1 => (bif decide ((a0.length : Int) < (2 : Int)) then (K (0 : Int) (0 : Int) (3 : Int) ([] : List Int)) else (bif decide ((0 : Int) < (a0.length : Int)) then (bif decide ((1 : Int) < (a0.length : Int)) then (bif decide ((2 : Int) ≤ (a0.length : Int)) then (f59 k (a0.drop 2) (fun r8202_0 => (f60 k (IntKind.i64.wrap (a0.getD 0 (0 : Int))) (IntKind.i64.wrap (a0.getD 1 (0 : Int))) r8202_0 (fun r10241_0 => (bif (r10241_0 != (0 : Int)) then (K (0 : Int) (0 : Int) r10241_0 ([] : List Int)) else (K (IntKind.i64.wrap (a0.getD 0 (0 : Int))) (IntKind.i64.wrap (a0.getD 1 (0 : Int))) (0 : Int) r8202_0)))))) else none) else none) else none))
theorem f16x {R : Type} : ∃ f, f = @f16d R := ⟨_, rfl⟩
noncomputable def f16 {R : Type} := Classical.choose (f16x (R := R))
theorem f16_def {R : Type} : @f16 R = @f16d R := Classical.choose_spec f16x
noncomputable def f63d {R : Type} (k : Nat) (a0 : Int) (a1 : Int) (a2 : Int) (K : Bool → Option R) : Option R := match k with
  | 0 => none
  | k + 1 => (bif (decide (a1 ≤ a0) == true) then (K (decide (a0 ≤ a2))) else (K false))
theorem f63x {R : Type} : ∃ f, f = @f63d R := ⟨_, rfl⟩
noncomputable def f63 {R : Type} := Classical.choose (f63x (R := R))
theorem f63_def {R : Type} : @f63 R = @f63d R := Classical.choose_spec f63x
noncomputable def f90d {R : Type} (k : Nat) (a0 : Int) (K : Bool → Option R) : Option R := match k with
  | 0 => none
  | k + 1 => (bif ((a0 == (1 : Int)) == false) then (K (a0 == (4 : Int))) else (K true))
theorem f90x {R : Type} : ∃ f, f = @f90d R := ⟨_, rfl⟩
noncomputable def f90 {R : Type} := Classical.choose (f90x (R := R))
theorem f90_def {R : Type} : @f90 R = @f90d R := Classical.choose_spec f90x
noncomputable def f91d {R : Type} (k : Nat) (a0 : Int) (K : Bool → Option R) : Option R := match k with
  | 0 => none
  | k + 1 => (bif ((a0 == (1 : Int)) == false) then (K (a0 == (2 : Int))) else (K true))
theorem f91x {R : Type} : ∃ f, f = @f91d R := ⟨_, rfl⟩
noncomputable def f91 {R : Type} := Classical.choose (f91x (R := R))
theorem f91_def {R : Type} : @f91 R = @f91d R := Classical.choose_spec f91x
noncomputable def f72d {R : Type} (k : Nat) (a0 : List Int) (K : Int → Option R) : Option R := match k with
  | 0 => none
  | k + 1 => (bif ((a0.length : Int) == (0 : Int)) then (K (9 : Int)) else (bif decide ((a0.length : Int) > (200 : Int)) then (K (2 : Int)) else (K (0 : Int))))
theorem f72x {R : Type} : ∃ f, f = @f72d R := ⟨_, rfl⟩
noncomputable def f72 {R : Type} := Classical.choose (f72x (R := R))
theorem f72_def {R : Type} : @f72 R = @f72d R := Classical.choose_spec f72x
noncomputable def f61d {R : Type} (k : Nat) (a0 : Int) (a1 : Int) (a2 : List Int) (K : Int → Option R) : Option R := match k with
  | 0 => none
  | k + 1 => (f63 k a0 (1 : Int) (5 : Int) (fun r4098_0 => (bif (!r4098_0) then (K (4 : Int)) else (f63 k a1 (0 : Int) (255 : Int) (fun r8194_0 => (bif ((!r8194_0) == false) then (bif ((a1 != (0 : Int)) == true) then (f90 k a0 (fun r8203_0 => (bif (!r8203_0) then (K (1 : Int)) else (f91 k a0 (fun r12290_0 => (bif ((!r12290_0) == true) then (bif decide ((a2.length : Int) > (0 : Int)) then (K (3 : Int)) else (f91 k a0 (fun r16386_0 => (bif r16386_0 then (f72 k a2 (fun r18434_0 => (K r18434_0))) else (K (0 : Int)))))) else (f91 k a0 (fun r16386_0 => (bif r16386_0 then (f72 k a2 (fun r18434_0 => (K r18434_0))) else (K (0 : Int))))))))))) else (f91 k a0 (fun r12290_0 => (bif ((!r12290_0) == true) then (bif decide ((a2.length : Int) > (0 : Int)) then (K (3 : Int)) else (f91 k a0 (fun r16386_0 => (bif r16386_0 then (f72 k a2 (fun r18434_0 => (K r18434_0))) else (K (0 : Int)))))) else (f91 k a0 (fun r16386_0 => (bif r16386_0 then (f72 k a2 (fun r18434_0 => (K r18434_0))) else (K (0 : Int))))))))) else (K (1 : Int))))))))
theorem f61x {R : Type} : ∃ f, f = @f61d R := ⟨_, rfl⟩
noncomputable def f61 {R : Type} := Classical.choose (f61x (R := R))
theorem f61_def {R : Type} : @f61 R = @f61d R := Classical.choose_spec f61x
noncomputable def f17d {R : Type} (k : Nat) (a0 : List Int) (K : Int → Int → Int → List Int → Option R) : Option R := match k with
  | 0 => none
  | k + 1 => (bif decide ((a0.length : Int) < (2 : Int)) then (K (0 : Int) (0 : Int) (3 : Int) ([] : List Int)) else (bif decide ((0 : Int) < (a0.length : Int)) then (bif decide ((1 : Int) < (a0.length : Int)) then (bif decide ((2 : Int) ≤ (a0.length : Int)) then (f59 k (a0.drop 2) (fun r8202_0 => (f61 k (IntKind.i64.wrap (a0.getD 0 (0 : Int))) (IntKind.i64.wrap (a0.getD 1 (0 : Int))) r8202_0 (fun r10241_0 => (bif (r10241_0 != (0 : Int)) then (K (0 : Int) (0 : Int) r10241_0 ([] : List Int)) else (K (IntKind.i64.wrap (a0.getD 0 (0 : Int))) (IntKind.i64.wrap (a0.getD 1 (0 : Int))) (0 : Int) r8202_0)))))) else none) else none) else none))
theorem f17x {R : Type} : ∃ f, f = @f17d R := ⟨_, rfl⟩
noncomputable def f17 {R : Type} := Classical.choose (f17x (R := R))
theorem f17_def {R : Type} : @f17 R = @f17d R := Classical.choose_spec f17x
noncomputable def f24_0b {R : Type} (k : Nat) (rec : Int → Option R) (K : Bool → Option R) (x0 : Option R) (v0_0 : List Int) (v0_1 : List Int) (v0_2 : Int) (v0_3 : Int) : Option R :=
  (bif decide (v0_3 < v0_2) then (bif (decide ((0 : Int) ≤ v0_3) && decide (v0_3 < (v0_0.length : Int))) then (bif (decide ((0 : Int) ≤ v0_3) && decide (v0_3 < (v0_1.length : Int))) then (bif ((v0_0.getD (Int.toNat v0_3) (0 : Int)) != (v0_1.getD (Int.toNat v0_3) (0 : Int))) then (K false) else (rec (IntKind.i64.wrap (v0_3 + (1 : Int))))) else none) else none) else x0)
noncomputable def f24_0d {R : Type} (k : Nat) (K : Bool → Option R) (x0 : Option R) (v0_0 : List Int) (v0_1 : List Int) (v0_2 : Int) : Nat → Int → Option R
  | 0, _ => none
  | m + 1, v0_3 => f24_0b k (f24_0d k K x0 v0_0 v0_1 v0_2 m) K x0 v0_0 v0_1 v0_2 v0_3
theorem f24_0x {R : Type} : ∃ f, f = @f24_0d R := ⟨_, rfl⟩
noncomputable def f24_0 {R : Type} := Classical.choose (f24_0x (R := R))
theorem f24_0_def {R : Type} : @f24_0 R = @f24_0d R := Classical.choose_spec f24_0x
noncomputable def f24d {R : Type} (k : Nat) (a0 : List Int) (a1 : List Int) (K : Bool → Option R) : Option R := match k with
  | 0 => none
  | k + 1 => (bif ((a0.length : Int) != (a1.length : Int)) then (K false) else (f24_0 k K (K true) a0 a1 (a0.length : Int) k (0 : Int)))
theorem f24x {R : Type} : ∃ f, f = @f24d R := ⟨_, rfl⟩
noncomputable def f24 {R : Type} := Classical.choose (f24x (R := R))
theorem f24_def {R : Type} : @f24 R = @f24d R := Classical.choose_spec f24x
noncomputable def f18d {R : Type} (k : Nat) (a0 : Int) (a1 : Int) (a2 : List Int) (a3 : Int) (a4 : Int) (a5 : List Int) (K : Bool → Option R) : Option R := match k with
  | 0 => none
  | k + 1 => (bif ((a0 == a3) == true) then (bif ((a1 == a4) == true) then (f24 k a2 a5 (fun r4113_0 => (K r4113_0))) else (K false)) else (K false))
theorem f18x {R : Type} : ∃ f, f = @f18d R := ⟨_, rfl⟩
noncomputable def f18 {R : Type} := Classical.choose (f18x (R := R))
theorem f18_def {R : Type} : @f18 R = @f18d R := Classical.choose_spec f18x
noncomputable def f19d {R : Type} (k : Nat) (a0 : List Int) (K : Int → Bool → Bool → Bool → Int → Option R) : Option R := match k with
  | 0 => none
  | k + 1 => (bif (((a0.length : Int) != (2 : Int)) == false) then (bif decide ((1 : Int) < (a0.length : Int)) then (bif decide ((a0.getD 1 (0 : Int)) > (7 : Int)) then (K (0 : Int) false false false (3 : Int)) else (bif decide ((0 : Int) < (a0.length : Int)) then (bif decide ((1 : Int) < (a0.length : Int)) then (bif decide ((1 : Int) < (a0.length : Int)) then (bif decide ((1 : Int) < (a0.length : Int)) then (K (IntKind.i64.wrap (a0.getD 0 (0 : Int))) (bits .and .u8 (a0.getD 1 (0 : Int)) (1 : Int) != (0 : Int)) (bits .and .u8 (a0.getD 1 (0 : Int)) (2 : Int) != (0 : Int)) (bits .and .u8 (a0.getD 1 (0 : Int)) (4 : Int) != (0 : Int)) (0 : Int)) else none) else none) else none) else none)) else none) else (K (0 : Int) false false false (3 : Int)))
theorem f19x {R : Type} : ∃ f, f = @f19d R := ⟨_, rfl⟩
noncomputable def f19 {R : Type} := Classical.choose (f19x (R := R))
theorem f19_def {R : Type} : @f19 R = @f19d R := Classical.choose_spec f19x
noncomputable def f20d {R : Type} (k : Nat) (a0 : List Int) (K : Int → Bool → Bool → Bool → Int → Option R) : Option R := match k with
  | 0 => none
  | k + 1 => (bif (((a0.length : Int) != (2 : Int)) == false) then (bif decide ((1 : Int) < (a0.length : Int)) then (bif decide ((a0.getD 1 (0 : Int)) > (7 : Int)) then (K (0 : Int) false false false (3 : Int)) else (bif decide ((0 : Int) < (a0.length : Int)) then (bif decide ((1 : Int) < (a0.length : Int)) then (bif decide ((1 : Int) < (a0.length : Int)) then (bif decide ((1 : Int) < (a0.length : Int)) then (K (IntKind.i64.wrap (a0.getD 0 (0 : Int))) (bits .and .u8 (a0.getD 1 (0 : Int)) (1 : Int) != (0 : Int)) (bits .and .u8 (a0.getD 1 (0 : Int)) (2 : Int) != (0 : Int)) (bits .and .u8 (a0.getD 1 (0 : Int)) (4 : Int) != (0 : Int)) (0 : Int)) else none) else none) else none) else none)) else none) else (K (0 : Int) false false false (3 : Int)))
theorem f20x {R : Type} : ∃ f, f = @f20d R := ⟨_, rfl⟩
noncomputable def f20 {R : Type} := Classical.choose (f20x (R := R))
theorem f20_def {R : Type} : @f20 R = @f20d R := Classical.choose_spec f20x
noncomputable def f25_1000008d {R : Type} (k : Nat) (xN : Int → Option R) (v8_0 : Int) (v8_1 : Int) (v8_2 : Int) (v8_3 : Int) (v8_4 : Bool) (v8_5 : Int) (v8_6 : Bool) (v8_7 : Bool) (v8_8 : Bool) (v8_9 : List Bool) : Option R :=
  (bif v8_4 then (bif decide ((0 : Int) ≤ v8_1) then (xN (bits .or .u8 v8_0 (IntKind.u8.wrap ((1 : Int) * 2 ^ min (Int.toNat v8_1) 8)))) else none) else (xN v8_0))
theorem f25_1000008x {R : Type} : ∃ f, f = @f25_1000008d R := ⟨_, rfl⟩
noncomputable def f25_1000008 {R : Type} := Classical.choose (f25_1000008x (R := R))
theorem f25_1000008_def {R : Type} : @f25_1000008 R = @f25_1000008d R := Classical.choose_spec f25_1000008x
noncomputable def f25_0b {R : Type} (k : Nat) (rec : Int → Int → Option R) (x0 : Int → Option R) (v0_1 : Int) (v0_3 : Int) (v0_4 : Bool) (v0_5 : Bool) (v0_6 : Bool) (v0_7 : List Bool) (v0_0 : Int) (v0_2 : Int) : Option R :=
  (bif decide (v0_2 < v0_1) then (bif (decide ((0 : Int) ≤ v0_2) && decide (v0_2 < (v0_7.length : Int))) then (f25_1000008 k (fun y8_N_0 => (rec y8_N_0 (IntKind.i64.wrap (v0_2 + (1 : Int))))) v0_0 v0_2 v0_1 v0_2 (v0_7.getD (Int.toNat v0_2) false) v0_3 v0_4 v0_5 v0_6 v0_7) else none) else (x0 v0_0))
noncomputable def f25_0d {R : Type} (k : Nat) (x0 : Int → Option R) (v0_1 : Int) (v0_3 : Int) (v0_4 : Bool) (v0_5 : Bool) (v0_6 : Bool) (v0_7 : List Bool) : Nat → Int → Int → Option R
  | 0, _, _ => none
  | m + 1, v0_0, v0_2 => f25_0b k (f25_0d k x0 v0_1 v0_3 v0_4 v0_5 v0_6 v0_7 m) x0 v0_1 v0_3 v0_4 v0_5 v0_6 v0_7 v0_0 v0_2
theorem f25_0x {R : Type} : ∃ f, f = @f25_0d R := ⟨_, rfl⟩
noncomputable def f25_0 {R : Type} := Classical.choose (f25_0x (R := R))
theorem f25_0_def {R : Type} : @f25_0 R = @f25_0d R := Classical.choose_spec f25_0x
noncomputable def f25d {R : Type} (k : Nat) (a0 : Int) (a1 : Bool) (a2 : Bool) (a3 : Bool) (K : Int → List Int → Option R) : Option R := match k with
  | 0 => none
  | k + 1 => (f62 k a0 (0 : Int) (255 : Int) (fun r4098_0 => (bif (!r4098_0) then (K (1 : Int) ([] : List Int)) else (f25_0 k (fun y0_0_0 => (K (0 : Int) ([IntKind.u8.wrap a0, y0_0_0] : List Int))) (([a1, a2, a3] : List Bool).length : Int) a0 a1 a2 a3 ([a1, a2, a3] : List Bool) k (0 : Int) (0 : Int)))))
theorem f25x {R : Type} : ∃ f, f = @f25d R := ⟨_, rfl⟩
noncomputable def f25 {R : Type} := Classical.choose (f25x (R := R))
theorem f25_def {R : Type} : @f25 R = @f25d R := Classical.choose_spec f25x
noncomputable def f21d {R : Type} (k : Nat) (K : Bool → Option R) : Option R := match k with
  | 0 => none
  | k + 1 => (f25 k (7 : Int) false true false (fun r4097_0 r4097_1 => (bif ((r4097_0 == (0 : Int)) == true) then (f24 k r4097_1 ([(7 : Int), (2 : Int)] : List Int) (fun r6149_0 => (K r6149_0))) else (K false))))
theorem f21x {R : Type} : ∃ f, f = @f21d R := ⟨_, rfl⟩
noncomputable def f21 {R : Type} := Classical.choose (f21x (R := R))
theorem f21_def {R : Type} : @f21 R = @f21d R := Classical.choose_spec f21x
noncomputable def f3d {R : Type} (k : Nat) (a0 : List Int) (K : Bool → Option R) : Option R := match k with
  | 0 => none
  | k + 1 => (f16 k a0 (fun r4097_0 r4097_1 r4097_2 r4097_3 => (f17 k a0 (fun r6145_0 r6145_1 r6145_2 r6145_3 => (bif ((r4097_2 != r6145_2) == false) then (f18 k r4097_0 r4097_1 r4097_3 r6145_0 r6145_1 r6145_3 (fun r8198_0 => (bif (!r8198_0) then (K false) else (f19 k a0 (fun r12289_0 r12289_1 r12289_2 r12289_3 r12289_4 => (f20 k a0 (fun r14337_0 r14337_1 r14337_2 r14337_3 r14337_4 => (bif ((r12289_4 == r14337_4) == true) then (bif ((((r12289_0, (r12289_1, (r12289_2, (r12289_3, ())))).1 == (r14337_0, (r14337_1, (r14337_2, (r14337_3, ())))).1) && ((((r12289_0, (r12289_1, (r12289_2, (r12289_3, ())))).2).1 == ((r14337_0, (r14337_1, (r14337_2, (r14337_3, ())))).2).1) && (((((r12289_0, (r12289_1, (r12289_2, (r12289_3, ())))).2).2).1 == (((r14337_0, (r14337_1, (r14337_2, (r14337_3, ())))).2).2).1) && ((((((r12289_0, (r12289_1, (r12289_2, (r12289_3, ())))).2).2).2).1 == ((((r14337_0, (r14337_1, (r14337_2, (r14337_3, ())))).2).2).2).1) && true)))) == true) then (f21 k (fun r16393_0 => (K r16393_0))) else (K false)) else (K false))))))))) else (K false))))))
theorem f3x {R : Type} : ∃ f, f = @f3d R := ⟨_, rfl⟩
noncomputable def f3 {R : Type} := Classical.choose (f3x (R := R))
theorem f3_def {R : Type} : @f3 R = @f3d R := Classical.choose_spec f3x
noncomputable def f22d {R : Type} (k : Nat) (a0 : Int) (a1 : Int) (a2 : List Int) (K : Int → List Int → Option R) : Option R := match k with
  | 0 => none
  | k + 1 => (f60 k a0 a1 a2 (fun r4097_0 => (bif (r4097_0 != (0 : Int)) then (K r4097_0 ([] : List Int)) else (bif decide (([IntKind.u8.wrap a0, IntKind.u8.wrap a1] : List Int).length + a2.length ≤ LIM 1) then (K (0 : Int) (([IntKind.u8.wrap a0, IntKind.u8.wrap a1] : List Int) ++ a2)) else none))))
theorem f22x {R : Type} : ∃ f, f = @f22d R := ⟨_, rfl⟩
noncomputable def f22 {R : Type} := Classical.choose (f22x (R := R))
theorem f22_def {R : Type} : @f22 R = @f22d R := Classical.choose_spec f22x
noncomputable def f23d {R : Type} (k : Nat) (a0 : Int) (a1 : Int) (a2 : List Int) (K : Int → List Int → Option R) : Option R := match k with
  | 0 => none
  | k + 1 => (f61 k a0 a1 a2 (fun r4097_0 => (bif (r4097_0 != (0 : Int)) then (K r4097_0 ([] : List Int)) else (bif decide (([IntKind.u8.wrap a0, IntKind.u8.wrap a1] : List Int).length + a2.length ≤ LIM 1) then (K (0 : Int) (([IntKind.u8.wrap a0, IntKind.u8.wrap a1] : List Int) ++ a2)) else none))))
theorem f23x {R : Type} : ∃ f, f = @f23d R := ⟨_, rfl⟩
noncomputable def f23 {R : Type} := Classical.choose (f23x (R := R))
theorem f23_def {R : Type} : @f23 R = @f23d R := Classical.choose_spec f23x
noncomputable def f64d {R : Type} (k : Nat) (a0 : Bool) (a1 : Int) (K : Int → Option R) : Option R := match k with
  | 0 => none
  | k + 1 => (bif a0 then (K a1) else (K (0 : Int)))
theorem f64x {R : Type} : ∃ f, f = @f64d R := ⟨_, rfl⟩
noncomputable def f64 {R : Type} := Classical.choose (f64x (R := R))
theorem f64_def {R : Type} : @f64 R = @f64d R := Classical.choose_spec f64x
noncomputable def f26d {R : Type} (k : Nat) (a0 : Int) (a1 : Bool) (a2 : Bool) (a3 : Bool) (K : Int → List Int → Option R) : Option R := match k with
  | 0 => none
  | k + 1 => (f63 k a0 (0 : Int) (255 : Int) (fun r4098_0 => (bif (!r4098_0) then (K (1 : Int) ([] : List Int)) else (f64 k a1 (1 : Int) (fun r8197_0 => (f64 k a2 (2 : Int) (fun r8200_0 => (f64 k a3 (4 : Int) (fun r8204_0 => (K (0 : Int) ([IntKind.u8.wrap a0, IntKind.u8.wrap (IntKind.i64.wrap ((IntKind.i64.wrap (r8197_0 + r8200_0)) + r8204_0))] : List Int)))))))))))
theorem f26x {R : Type} : ∃ f, f = @f26d R := ⟨_, rfl⟩
noncomputable def f26 {R : Type} := Classical.choose (f26x (R := R))
theorem f26_def {R : Type} : @f26 R = @f26d R := Classical.choose_spec f26x
noncomputable def f4_1000006d {R : Type} (k : Nat) (K : Bool → Option R) (xN : Option R) (v6_0 : Bool) (v6_1 : Int) (v6_2 : Int) (v6_3 : List Int) (v6_4 : Int) (v6_5 : Bool) (v6_6 : Bool) (v6_7 : Bool) (v6_8 : List Int) : Option R :=
  (bif v6_0 then (f16 k v6_8 (fun r14337_0 r14337_1 r14337_2 r14337_3 => (bif ((r14337_2 != (0 : Int)) == false) then (f18 k v6_1 v6_2 v6_3 r14337_0 r14337_1 r14337_3 (fun r16389_0 => (bif (!r16389_0) then (K false) else xN))) else (K false)))) else xN)
theorem f4_1000006x {R : Type} : ∃ f, f = @f4_1000006d R := ⟨_, rfl⟩
noncomputable def f4_1000006 {R : Type} := Classical.choose (f4_1000006x (R := R))
theorem f4_1000006_def {R : Type} : @f4_1000006 R = @f4_1000006d R := Classical.choose_spec f4_1000006x
noncomputable def f4d {R : Type} (k : Nat) (a0 : Int) (a1 : Int) (a2 : List Int) (a3 : Int) (a4 : Bool) (a5 : Bool) (a6 : Bool) (K : Bool → Option R) : Option R := match k with
  | 0 => none
  | k + 1 => (f22 k a0 a1 a2 (fun r4097_0 r4097_1 => (f23 k a0 a1 a2 (fun r6145_0 r6145_1 => (bif ((r4097_0 != r6145_0) == false) then (f24 k r4097_1 r6145_1 (fun r8198_0 => (bif ((!r8198_0) == false) then (f21 k (fun r8202_0 => (bif (!r8202_0) then (K false) else (f4_1000006 k K (f25 k a3 a4 a5 a6 (fun r20481_0 r20481_1 => (f26 k a3 a4 a5 a6 (fun r22529_0 r22529_1 => (bif ((r20481_0 != r22529_0) == false) then (f24 k r20481_1 r22529_1 (fun r24582_0 => (bif (!r24582_0) then (K false) else (bif (r20481_0 != (0 : Int)) then (K true) else (f19 k r20481_1 (fun r32769_0 r32769_1 r32769_2 r32769_3 r32769_4 => (bif ((r32769_4 == (0 : Int)) == true) then (K (((a3, (a4, (a5, (a6, ())))).1 == (r32769_0, (r32769_1, (r32769_2, (r32769_3, ())))).1) && ((((a3, (a4, (a5, (a6, ())))).2).1 == ((r32769_0, (r32769_1, (r32769_2, (r32769_3, ())))).2).1) && (((((a3, (a4, (a5, (a6, ())))).2).2).1 == (((r32769_0, (r32769_1, (r32769_2, (r32769_3, ())))).2).2).1) && ((((((a3, (a4, (a5, (a6, ())))).2).2).2).1 == ((((r32769_0, (r32769_1, (r32769_2, (r32769_3, ())))).2).2).2).1) && true))))) else (K false)))))))) else (K false)))))) (r4097_0 == (0 : Int)) a0 a1 a2 a3 a4 a5 a6 r4097_1)))) else (K false)))) else (K false))))))
theorem f4x {R : Type} : ∃ f, f = @f4d R := ⟨_, rfl⟩
noncomputable def f4 {R : Type} := Classical.choose (f4x (R := R))
theorem f4_def {R : Type} : @f4 R = @f4d R := Classical.choose_spec f4x
noncomputable def f29d {R : Type} (k : Nat) (a0 : Int) (a1 : Int) (a2 : Bool) (a3 : Bool) (a4 : Bool) (a5 : Int) (K : Int → Option R) : Option R := match k with
  | 0 => none
  | k + 1 => (f62 k a0 (0 : Int) (255 : Int) (fun r4098_0 => (bif ((!r4098_0) == false) then (bif ((Int.tmod a1 (2 : Int) != (0 : Int)) == false) then (f62 k a1 (2 : Int) (254 : Int) (fun r4109_0 => (bif ((!r4109_0) == false) then (f62 k a5 (0 : Int) (1000000 : Int) (fun r4115_0 => (bif (!r4115_0) then (K (1 : Int)) else (K (0 : Int))))) else (K (1 : Int))))) else (K (1 : Int))) else (K (1 : Int)))))
theorem f29x {R : Type} : ∃ f, f = @f29d R := ⟨_, rfl⟩
noncomputable def f29 {R : Type} := Classical.choose (f29x (R := R))
theorem f29_def {R : Type} : @f29 R = @f29d R := Classical.choose_spec f29x
noncomputable def f65_0b {R : Type} (k : Nat) (rec : Int → Option R) (K : Int → Option R) (x0 : Option R) (v0_0 : List Int) (v0_1 : Int) (v0_2 : Int) : Option R :=
  (bif decide (v0_2 < v0_1) then (bif (decide ((0 : Int) ≤ v0_2) && decide (v0_2 < (v0_0.length : Int))) then (bif ((v0_0.getD (Int.toNat v0_2) (0 : Int)) != (0 : Int)) then (K (v0_0.getD (Int.toNat v0_2) (0 : Int))) else (rec (IntKind.i64.wrap (v0_2 + (1 : Int))))) else none) else x0)
noncomputable def f65_0d {R : Type} (k : Nat) (K : Int → Option R) (x0 : Option R) (v0_0 : List Int) (v0_1 : Int) : Nat → Int → Option R
  | 0, _ => none
  | m + 1, v0_2 => f65_0b k (f65_0d k K x0 v0_0 v0_1 m) K x0 v0_0 v0_1 v0_2
theorem f65_0x {R : Type} : ∃ f, f = @f65_0d R := ⟨_, rfl⟩
noncomputable def f65_0 {R : Type} := Classical.choose (f65_0x (R := R))
theorem f65_0_def {R : Type} : @f65_0 R = @f65_0d R := Classical.choose_spec f65_0x
noncomputable def f65d {R : Type} (k : Nat) (a0 : List Int) (K : Int → Option R) : Option R := match k with
  | 0 => none
  | k + 1 => (f65_0 k K (K (0 : Int)) a0 (a0.length : Int) k (0 : Int))
theorem f65x {R : Type} : ∃ f, f = @f65d R := ⟨_, rfl⟩
noncomputable def f65 {R : Type} := Classical.choose (f65x (R := R))
theorem f65_def {R : Type} : @f65 R = @f65d R := Classical.choose_spec f65x
noncomputable def f92d {R : Type} (k : Nat) (a0 : Int) (a1 : Int) (K : Int → Option R) : Option R := match k with
  | 0 => none
  | k + 1 => (K (Int.tmod (IntKind.i64.wrap ((Int.tmod (IntKind.i64.wrap (a0 - a1)) (256 : Int)) + (256 : Int))) (256 : Int)))
theorem f92x {R : Type} : ∃ f, f = @f92d R := ⟨_, rfl⟩
noncomputable def f92 {R : Type} := Classical.choose (f92x (R := R))
theorem f92_def {R : Type} : @f92 R = @f92d R := Classical.choose_spec f92x
noncomputable def f66d {R : Type} (k : Nat) (a0 : Int) (a1 : Int) (a2 : Bool) (a3 : Bool) (a4 : Bool) (a5 : Int) (a6 : Int) (K : Int → Int → Bool → Bool → Bool → Int → Int → Option R) : Option R := match k with
  | 0 => none
  | k + 1 => (bif a2 then (K a0 a1 a2 a3 a4 a5 (5 : Int)) else (bif ((a6 == a0) == true) then (bif a4 then (K a0 a1 a2 true a4 a5 (6 : Int)) else (bif (a6 == a0) then (K (Int.tmod (IntKind.i64.wrap (a0 + (1 : Int))) (256 : Int)) a1 a2 false a4 (IntKind.i64.wrap (a5 + (1 : Int))) (1 : Int)) else (f92 k a6 a0 (fun r20483_0 => (bif decide (r20483_0 < IntKind.i64.wrap (Int.tdiv a1 (2 : Int))) then (K a0 a1 a2 true a4 a5 (2 : Int)) else (f92 k a0 a6 (fun r26627_0 => (bif decide (r26627_0 ≤ IntKind.i64.wrap (Int.tdiv a1 (2 : Int))) then (K a0 a1 a2 a3 a4 a5 (3 : Int)) else (K a0 a1 true a3 a4 a5 (4 : Int)))))))))) else (bif (a6 == a0) then (K (Int.tmod (IntKind.i64.wrap (a0 + (1 : Int))) (256 : Int)) a1 a2 false a4 (IntKind.i64.wrap (a5 + (1 : Int))) (1 : Int)) else (f92 k a6 a0 (fun r20483_0 => (bif decide (r20483_0 < IntKind.i64.wrap (Int.tdiv a1 (2 : Int))) then (K a0 a1 a2 true a4 a5 (2 : Int)) else (f92 k a0 a6 (fun r26627_0 => (bif decide (r26627_0 ≤ IntKind.i64.wrap (Int.tdiv a1 (2 : Int))) then (K a0 a1 a2 a3 a4 a5 (3 : Int)) else (K a0 a1 true a3 a4 a5 (4 : Int)))))))))))
theorem f66x {R : Type} : ∃ f, f = @f66d R := ⟨_, rfl⟩
noncomputable def f66 {R : Type} := Classical.choose (f66x (R := R))
theorem f66_def {R : Type} : @f66 R = @f66d R := Classical.choose_spec f66x
noncomputable def f27_1000016d {R : Type} (k : Nat) (xN : Int → Int → Bool → Option R) (v16_0 : Int) (v16_1 : Bool) (v16_2 : Int) (v16_3 : Int) (v16_4 : Bool) (v16_5 : Bool) (v16_6 : Bool) (v16_7 : Int) (v16_8 : Int) (v16_9 : Int) (v16_10 : List Int) (v16_11 : Int) (v16_12 : Int) (v16_13 : Bool) (v16_14 : Bool) (v16_15 : Bool) (v16_16 : Int) : Option R :=
  (bif v16_1 then (xN (5 : Int) v16_2 v16_5) else (xN v16_0 v16_9 false))
theorem f27_1000016x {R : Type} : ∃ f, f = @f27_1000016d R := ⟨_, rfl⟩
noncomputable def f27_1000016 {R : Type} := Classical.choose (f27_1000016x (R := R))
theorem f27_1000016_def {R : Type} : @f27_1000016 R = @f27_1000016d R := Classical.choose_spec f27_1000016x
noncomputable def f27_1000015d {R : Type} (k : Nat) (xN : Int → Int → Bool → Bool → Option R) (v15_0 : Int) (v15_1 : Bool) (v15_2 : Int) (v15_3 : Int) (v15_4 : Bool) (v15_5 : Bool) (v15_6 : Bool) (v15_7 : Int) (v15_8 : Int) (v15_9 : Int) (v15_10 : List Int) (v15_11 : Int) (v15_12 : Int) (v15_13 : Bool) (v15_14 : Bool) (v15_15 : Bool) (v15_16 : Int) : Option R :=
  (bif v15_1 then (f27_1000016 k (fun y16_N_0 y16_N_1 y16_N_4 => (xN y16_N_0 y16_N_1 y16_N_4 v15_6)) v15_0 v15_4 v15_2 v15_3 v15_4 v15_5 v15_6 v15_7 v15_8 v15_9 v15_10 v15_11 v15_12 v15_13 v15_14 v15_15 v15_16) else (xN v15_0 v15_2 v15_5 true))
theorem f27_1000015x {R : Type} : ∃ f, f = @f27_1000015d R := ⟨_, rfl⟩
noncomputable def f27_1000015 {R : Type} := Classical.choose (f27_1000015x (R := R))
theorem f27_1000015_def {R : Type} : @f27_1000015 R = @f27_1000015d R := Classical.choose_spec f27_1000015x
noncomputable def f27_1000013d {R : Type} (k : Nat) (xN : Int → Int → Bool → Bool → Bool → Option R) (v13_0 : Int) (v13_1 : Int) (v13_2 : Bool) (v13_3 : Int) (v13_4 : Int) (v13_5 : Bool) (v13_6 : Bool) (v13_7 : Bool) (v13_8 : Int) (v13_9 : Int) (v13_10 : Int) (v13_11 : List Int) (v13_12 : Int) (v13_13 : Int) (v13_14 : Bool) (v13_15 : Bool) (v13_16 : Bool) (v13_17 : Int) : Option R :=
  (bif v13_2 then (xN v13_0 v13_3 false false false) else (f27_1000015 k (fun y15_N_0 y15_N_1 y15_N_4 y15_N_5 => (xN y15_N_0 y15_N_1 v13_5 y15_N_4 y15_N_5)) v13_0 (v13_1 == (4 : Int)) v13_3 v13_4 v13_5 v13_6 v13_7 v13_8 v13_9 v13_10 v13_11 v13_12 v13_13 v13_14 v13_15 v13_16 v13_17))
theorem f27_1000013x {R : Type} : ∃ f, f = @f27_1000013d R := ⟨_, rfl⟩
noncomputable def f27_1000013 {R : Type} := Classical.choose (f27_1000013x (R := R))
theorem f27_1000013_def {R : Type} : @f27_1000013 R = @f27_1000013d R := Classical.choose_spec f27_1000013x
noncomputable def f27_1000010d {R : Type} (k : Nat) (xN : Int → Int → Bool → Bool → Bool → Int → Option R) (v10_0 : Int) (v10_1 : Int) (v10_2 : Bool) (v10_3 : Int) (v10_4 : Int) (v10_5 : Bool) (v10_6 : Bool) (v10_7 : Bool) (v10_8 : Int) (v10_9 : Int) (v10_10 : Int) (v10_11 : List Int) (v10_12 : Int) (v10_13 : Int) (v10_14 : Bool) (v10_15 : Bool) (v10_16 : Bool) (v10_17 : Int) : Option R :=
  (bif v10_2 then (xN (1 : Int) v10_3 v10_5 v10_6 v10_7 (IntKind.i64.wrap (v10_8 + (1 : Int)))) else (f27_1000013 k (fun y13_N_0 y13_N_1 y13_N_3 y13_N_4 y13_N_5 => (xN y13_N_0 y13_N_1 y13_N_3 y13_N_4 y13_N_5 v10_8)) v10_0 v10_1 (v10_1 == (3 : Int)) v10_3 v10_4 v10_5 v10_6 v10_7 v10_8 v10_9 v10_10 v10_11 v10_12 v10_13 v10_14 v10_15 v10_16 v10_17))
theorem f27_1000010x {R : Type} : ∃ f, f = @f27_1000010d R := ⟨_, rfl⟩
noncomputable def f27_1000010 {R : Type} := Classical.choose (f27_1000010x (R := R))
theorem f27_1000010_def {R : Type} : @f27_1000010 R = @f27_1000010d R := Classical.choose_spec f27_1000010x
noncomputable def f27_1000008d {R : Type} (k : Nat) (xN : Int → Int → Int → Bool → Bool → Bool → Int → Option R) (v8_0 : Int) (v8_1 : Int) (v8_2 : Bool) (v8_3 : Int) (v8_4 : Int) (v8_5 : Bool) (v8_6 : Bool) (v8_7 : Bool) (v8_8 : Int) (v8_9 : Int) (v8_10 : Int) (v8_11 : List Int) (v8_12 : Int) (v8_13 : Int) (v8_14 : Bool) (v8_15 : Bool) (v8_16 : Bool) (v8_17 : Int) : Option R :=
  (bif v8_2 then (f66 k v8_3 v8_4 v8_5 v8_6 v8_7 v8_8 v8_10 (fun r18435_0 r18435_1 r18435_2 r18435_3 r18435_4 r18435_5 r18435_6 => (xN r18435_6 r18435_0 r18435_1 r18435_2 r18435_3 r18435_4 r18435_5))) else (f27_1000010 k (fun y10_N_0 y10_N_1 y10_N_3 y10_N_4 y10_N_5 y10_N_6 => (xN y10_N_0 y10_N_1 v8_4 y10_N_3 y10_N_4 y10_N_5 y10_N_6)) v8_0 v8_1 (v8_1 == (2 : Int)) v8_3 v8_4 v8_5 v8_6 v8_7 v8_8 v8_9 v8_10 v8_11 v8_12 v8_13 v8_14 v8_15 v8_16 v8_17))
theorem f27_1000008x {R : Type} : ∃ f, f = @f27_1000008d R := ⟨_, rfl⟩
noncomputable def f27_1000008 {R : Type} := Classical.choose (f27_1000008x (R := R))
theorem f27_1000008_def {R : Type} : @f27_1000008 R = @f27_1000008d R := Classical.choose_spec f27_1000008x
noncomputable def f27d {R : Type} (k : Nat) (a0 : Int) (a1 : Int) (a2 : Bool) (a3 : Bool) (a4 : Bool) (a5 : Int) (a6 : Int) (a7 : Int) (a8 : List Int) (K : Int → Int → Bool → Bool → Bool → Int → Int → Int → Option R) : Option R := match k with
  | 0 => none
  | k + 1 => (f29 k a0 a1 a2 a3 a4 a5 (fun r4097_0 => (f60 k a6 a7 a8 (fun r4099_0 => (f65 k ([r4097_0, r4099_0] : List Int) (fun r4101_0 => (bif (r4101_0 != (0 : Int)) then (K (0 : Int) (0 : Int) false false false (0 : Int) (0 : Int) r4101_0) else (f27_1000008 k (fun y8_N_0 y8_N_1 y8_N_2 y8_N_3 y8_N_4 y8_N_5 y8_N_6 => (bif decide (y8_N_6 > (1000000 : Int)) then (K (0 : Int) (0 : Int) false false false (0 : Int) (0 : Int) (16 : Int)) else (K y8_N_1 y8_N_2 y8_N_3 y8_N_4 y8_N_5 y8_N_6 y8_N_0 (0 : Int)))) (7 : Int) a6 (a6 == (1 : Int)) a0 a1 a2 a3 a4 a5 a6 a7 a8 (0 : Int) (0 : Int) false false false (0 : Int)))))))))
theorem f27x {R : Type} : ∃ f, f = @f27d R := ⟨_, rfl⟩
noncomputable def f27 {R : Type} := Classical.choose (f27x (R := R))
theorem f27_def {R : Type} : @f27 R = @f27d R := Classical.choose_spec f27x
noncomputable def f5_1000009d {R : Type} (k : Nat) (K : Bool → Option R) (xN : Int → Option R) (v9_0 : Int) (v9_1 : Int) (v9_2 : List ((Int × (Int × (List Int × Unit))))) (v9_3 : Int) (v9_4 : Int) (v9_5 : Bool) (v9_6 : Int) (v9_7 : Int) (v9_8 : Bool) (v9_9 : Bool) (v9_10 : Bool) (v9_11 : Int) (v9_12 : Int) (v9_13 : Int) (v9_14 : List Int) (v9_15 : Int) (v9_16 : Int) (v9_17 : Bool) (v9_18 : Bool) (v9_19 : Bool) (v9_20 : Int) : Option R :=
  (bif v9_5 then (bif ((v9_13 != v9_0) == false) then (bif (v9_20 != IntKind.i64.wrap (v9_11 + (1 : Int))) then (K false) else (xN (Int.tmod (IntKind.i64.wrap (v9_0 + (1 : Int))) (256 : Int)))) else (K false)) else (xN v9_0))
theorem f5_1000009x {R : Type} : ∃ f, f = @f5_1000009d R := ⟨_, rfl⟩
noncomputable def f5_1000009 {R : Type} := Classical.choose (f5_1000009x (R := R))
theorem f5_1000009_def {R : Type} : @f5_1000009 R = @f5_1000009d R := Classical.choose_spec f5_1000009x
noncomputable def f5_1000013d {R : Type} (k : Nat) (xN : Int → Option R) (v13_0 : Int) (v13_1 : List ((Int × (Int × (List Int × Unit))))) (v13_2 : Int) (v13_3 : Int) (v13_4 : Bool) (v13_5 : Int) (v13_6 : Int) (v13_7 : Bool) (v13_8 : Bool) (v13_9 : Bool) (v13_10 : Int) (v13_11 : Int) (v13_12 : Int) (v13_13 : List Int) (v13_14 : Int) (v13_15 : Int) (v13_16 : Bool) (v13_17 : Bool) (v13_18 : Bool) (v13_19 : Int) : Option R :=
  (bif v13_4 then (xN v13_12) else (xN v13_0))
theorem f5_1000013x {R : Type} : ∃ f, f = @f5_1000013d R := ⟨_, rfl⟩
noncomputable def f5_1000013 {R : Type} := Classical.choose (f5_1000013x (R := R))
theorem f5_1000013_def {R : Type} : @f5_1000013 R = @f5_1000013d R := Classical.choose_spec f5_1000013x
noncomputable def f5_1d {R : Type} (k : Nat) (x0 : Option R) (x1 : Int → Int → Int → Bool → Bool → Bool → Int → Option R) (K : Bool → Option R) (v1_0 : Int) (v1_1 : List ((Int × (Int × (List Int × Unit))))) (v1_2 : Int) (v1_3 : Int) (v1_4 : Int) (v1_5 : Int) (v1_6 : Bool) (v1_7 : Bool) (v1_8 : Bool) (v1_9 : Int) : Option R :=
  (bif (decide ((0 : Int) ≤ v1_3) && decide (v1_3 < (v1_1.length : Int))) then (bif decide (v1_3 ≥ (100 : Int)) then x0 else (f27 k v1_4 v1_5 v1_6 v1_7 v1_8 v1_9 ((v1_1.getD (Int.toNat v1_3) ((0 : Int), ((0 : Int), (([] : List Int), ())))).1) (((v1_1.getD (Int.toNat v1_3) ((0 : Int), ((0 : Int), (([] : List Int), ())))).2).1) ((((v1_1.getD (Int.toNat v1_3) ((0 : Int), ((0 : Int), (([] : List Int), ())))).2).2).1) (fun r14338_0 r14338_1 r14338_2 r14338_3 r14338_4 r14338_5 r14338_6 r14338_7 => (bif (r14338_7 != (0 : Int)) then (x1 v1_0 v1_4 v1_5 v1_6 v1_7 v1_8 v1_9) else (bif (((v1_1.getD (Int.toNat v1_3) ((0 : Int), ((0 : Int), (([] : List Int), ())))).1 == (1 : Int)) == true) then (f5_1000009 k K (fun y9_N_0 => (bif (((v1_1.getD (Int.toNat v1_3) ((0 : Int), ((0 : Int), (([] : List Int), ())))).1 == (4 : Int)) == true) then (f5_1000013 k (fun y13_N_0 => (bif (r14338_0 != y13_N_0) then (K false) else (x1 y13_N_0 r14338_0 r14338_1 r14338_2 r14338_3 r14338_4 r14338_5))) y9_N_0 v1_1 v1_2 v1_3 (r14338_6 == (7 : Int)) v1_4 v1_5 v1_6 v1_7 v1_8 v1_9 ((v1_1.getD (Int.toNat v1_3) ((0 : Int), ((0 : Int), (([] : List Int), ())))).1) (((v1_1.getD (Int.toNat v1_3) ((0 : Int), ((0 : Int), (([] : List Int), ())))).2).1) ((((v1_1.getD (Int.toNat v1_3) ((0 : Int), ((0 : Int), (([] : List Int), ())))).2).2).1) r14338_0 r14338_1 r14338_2 r14338_3 r14338_4 r14338_5) else (f5_1000013 k (fun y13_N_0 => (bif (r14338_0 != y13_N_0) then (K false) else (x1 y13_N_0 r14338_0 r14338_1 r14338_2 r14338_3 r14338_4 r14338_5))) y9_N_0 v1_1 v1_2 v1_3 false v1_4 v1_5 v1_6 v1_7 v1_8 v1_9 ((v1_1.getD (Int.toNat v1_3) ((0 : Int), ((0 : Int), (([] : List Int), ())))).1) (((v1_1.getD (Int.toNat v1_3) ((0 : Int), ((0 : Int), (([] : List Int), ())))).2).1) ((((v1_1.getD (Int.toNat v1_3) ((0 : Int), ((0 : Int), (([] : List Int), ())))).2).2).1) r14338_0 r14338_1 r14338_2 r14338_3 r14338_4 r14338_5))) v1_0 r14338_6 v1_1 v1_2 v1_3 (r14338_6 == (1 : Int)) v1_4 v1_5 v1_6 v1_7 v1_8 v1_9 ((v1_1.getD (Int.toNat v1_3) ((0 : Int), ((0 : Int), (([] : List Int), ())))).1) (((v1_1.getD (Int.toNat v1_3) ((0 : Int), ((0 : Int), (([] : List Int), ())))).2).1) ((((v1_1.getD (Int.toNat v1_3) ((0 : Int), ((0 : Int), (([] : List Int), ())))).2).2).1) r14338_0 r14338_1 r14338_2 r14338_3 r14338_4 r14338_5) else (f5_1000009 k K (fun y9_N_0 => (bif (((v1_1.getD (Int.toNat v1_3) ((0 : Int), ((0 : Int), (([] : List Int), ())))).1 == (4 : Int)) == true) then (f5_1000013 k (fun y13_N_0 => (bif (r14338_0 != y13_N_0) then (K false) else (x1 y13_N_0 r14338_0 r14338_1 r14338_2 r14338_3 r14338_4 r14338_5))) y9_N_0 v1_1 v1_2 v1_3 (r14338_6 == (7 : Int)) v1_4 v1_5 v1_6 v1_7 v1_8 v1_9 ((v1_1.getD (Int.toNat v1_3) ((0 : Int), ((0 : Int), (([] : List Int), ())))).1) (((v1_1.getD (Int.toNat v1_3) ((0 : Int), ((0 : Int), (([] : List Int), ())))).2).1) ((((v1_1.getD (Int.toNat v1_3) ((0 : Int), ((0 : Int), (([] : List Int), ())))).2).2).1) r14338_0 r14338_1 r14338_2 r14338_3 r14338_4 r14338_5) else (f5_1000013 k (fun y13_N_0 => (bif (r14338_0 != y13_N_0) then (K false) else (x1 y13_N_0 r14338_0 r14338_1 r14338_2 r14338_3 r14338_4 r14338_5))) y9_N_0 v1_1 v1_2 v1_3 false v1_4 v1_5 v1_6 v1_7 v1_8 v1_9 ((v1_1.getD (Int.toNat v1_3) ((0 : Int), ((0 : Int), (([] : List Int), ())))).1) (((v1_1.getD (Int.toNat v1_3) ((0 : Int), ((0 : Int), (([] : List Int), ())))).2).1) ((((v1_1.getD (Int.toNat v1_3) ((0 : Int), ((0 : Int), (([] : List Int), ())))).2).2).1) r14338_0 r14338_1 r14338_2 r14338_3 r14338_4 r14338_5))) v1_0 r14338_6 v1_1 v1_2 v1_3 false v1_4 v1_5 v1_6 v1_7 v1_8 v1_9 ((v1_1.getD (Int.toNat v1_3) ((0 : Int), ((0 : Int), (([] : List Int), ())))).1) (((v1_1.getD (Int.toNat v1_3) ((0 : Int), ((0 : Int), (([] : List Int), ())))).2).1) ((((v1_1.getD (Int.toNat v1_3) ((0 : Int), ((0 : Int), (([] : List Int), ())))).2).2).1) r14338_0 r14338_1 r14338_2 r14338_3 r14338_4 r14338_5)))))) else none)
theorem f5_1x {R : Type} : ∃ f, f = @f5_1d R := ⟨_, rfl⟩
noncomputable def f5_1 {R : Type} := Classical.choose (f5_1x (R := R))
theorem f5_1_def {R : Type} : @f5_1 R = @f5_1d R := Classical.choose_spec f5_1x
noncomputable def f5_0b {R : Type} (k : Nat) (rec : Int → Int → Int → Int → Bool → Bool → Bool → Int → Option R) (x0 : Option R) (K : Bool → Option R) (v0_1 : List ((Int × (Int × (List Int × Unit))))) (v0_2 : Int) (v0_0 : Int) (v0_3 : Int) (v0_4 : Int) (v0_5 : Int) (v0_6 : Bool) (v0_7 : Bool) (v0_8 : Bool) (v0_9 : Int) : Option R :=
  (bif decide (v0_3 < v0_2) then (f5_1 k x0 (fun y1_1_0 y1_1_4 y1_1_5 y1_1_6 y1_1_7 y1_1_8 y1_1_9 => (rec y1_1_0 (IntKind.i64.wrap (v0_3 + (1 : Int))) y1_1_4 y1_1_5 y1_1_6 y1_1_7 y1_1_8 y1_1_9)) K v0_0 v0_1 v0_2 v0_3 v0_4 v0_5 v0_6 v0_7 v0_8 v0_9) else x0)
noncomputable def f5_0d {R : Type} (k : Nat) (x0 : Option R) (K : Bool → Option R) (v0_1 : List ((Int × (Int × (List Int × Unit))))) (v0_2 : Int) : Nat → Int → Int → Int → Int → Bool → Bool → Bool → Int → Option R
  | 0, _, _, _, _, _, _, _, _ => none
  | m + 1, v0_0, v0_3, v0_4, v0_5, v0_6, v0_7, v0_8, v0_9 => f5_0b k (f5_0d k x0 K v0_1 v0_2 m) x0 K v0_1 v0_2 v0_0 v0_3 v0_4 v0_5 v0_6 v0_7 v0_8 v0_9
theorem f5_0x {R : Type} : ∃ f, f = @f5_0d R := ⟨_, rfl⟩
noncomputable def f5_0 {R : Type} := Classical.choose (f5_0x (R := R))
theorem f5_0_def {R : Type} : @f5_0 R = @f5_0d R := Classical.choose_spec f5_0x
noncomputable def f5d {R : Type} (k : Nat) (a0 : Int) (a1 : Int) (a2 : Bool) (a3 : Bool) (a4 : Bool) (a5 : Int) (a6 : List ((Int × (Int × (List Int × Unit))))) (K : Bool → Option R) : Option R := match k with
  | 0 => none
  | k + 1 => (f5_0 k (f21 k (fun r38912_0 => (K r38912_0))) K a6 (a6.length : Int) k a0 (0 : Int) a0 a1 a2 a3 a4 a5)
theorem f5x {R : Type} : ∃ f, f = @f5d R := ⟨_, rfl⟩
noncomputable def f5 {R : Type} := Classical.choose (f5x (R := R))
theorem f5_def {R : Type} : @f5 R = @f5d R := Classical.choose_spec f5x
noncomputable def f30d {R : Type} (k : Nat) (a0 : Int) (a1 : Int) (a2 : Bool) (a3 : Bool) (a4 : Bool) (a5 : Int) (K : Int → Option R) : Option R := match k with
  | 0 => none
  | k + 1 => (f63 k a0 (0 : Int) (255 : Int) (fun r4098_0 => (bif ((!r4098_0) == false) then (bif ((Int.tmod a1 (2 : Int) != (0 : Int)) == false) then (f63 k a1 (2 : Int) (254 : Int) (fun r4109_0 => (bif ((!r4109_0) == false) then (f63 k a5 (0 : Int) (1000000 : Int) (fun r4115_0 => (bif (!r4115_0) then (K (1 : Int)) else (K (0 : Int))))) else (K (1 : Int))))) else (K (1 : Int))) else (K (1 : Int)))))
theorem f30x {R : Type} : ∃ f, f = @f30d R := ⟨_, rfl⟩
noncomputable def f30 {R : Type} := Classical.choose (f30x (R := R))
theorem f30_def {R : Type} : @f30 R = @f30d R := Classical.choose_spec f30x
noncomputable def f94d {R : Type} (k : Nat) (a0 : Int) (a1 : Int) (K : Int → Option R) : Option R := match k with
  | 0 => none
  | k + 1 => (K (Int.tmod (IntKind.i64.wrap ((IntKind.i64.wrap (a0 - a1)) + (256 : Int))) (256 : Int)))
theorem f94x {R : Type} : ∃ f, f = @f94d R := ⟨_, rfl⟩
noncomputable def f94 {R : Type} := Classical.choose (f94x (R := R))
theorem f94_def {R : Type} : @f94 R = @f94d R := Classical.choose_spec f94x
noncomputable def f93d {R : Type} (k : Nat) (a0 : Int) (a1 : Int) (a2 : Bool) (a3 : Bool) (a4 : Bool) (a5 : Int) (a6 : Int) (a7 : Int) (a8 : List Int) (K : Int → Int → Bool → Bool → Bool → Int → Int → Option R) : Option R := match k with
  | 0 => none
  | k + 1 => (f94 k a7 a0 (fun r4100_0 => (bif a2 then (K a0 a1 a2 a3 a4 a5 (5 : Int)) else (bif ((r4100_0 == (0 : Int)) == true) then (bif a4 then (K a0 a1 a2 true a4 a5 (6 : Int)) else (bif (r4100_0 == (0 : Int)) then (K (Int.tmod (IntKind.i64.wrap (a0 + (1 : Int))) (256 : Int)) a1 a2 false a4 (IntKind.i64.wrap (a5 + (1 : Int))) (1 : Int)) else (bif decide (r4100_0 < IntKind.i64.wrap (Int.tdiv a1 (2 : Int))) then (K a0 a1 a2 true a4 a5 (2 : Int)) else (f94 k a0 a7 (fun r30724_0 => (bif decide (r30724_0 ≤ IntKind.i64.wrap (Int.tdiv a1 (2 : Int))) then (K a0 a1 a2 a3 a4 a5 (3 : Int)) else (K a0 a1 true a3 a4 a5 (4 : Int)))))))) else (bif (r4100_0 == (0 : Int)) then (K (Int.tmod (IntKind.i64.wrap (a0 + (1 : Int))) (256 : Int)) a1 a2 false a4 (IntKind.i64.wrap (a5 + (1 : Int))) (1 : Int)) else (bif decide (r4100_0 < IntKind.i64.wrap (Int.tdiv a1 (2 : Int))) then (K a0 a1 a2 true a4 a5 (2 : Int)) else (f94 k a0 a7 (fun r30724_0 => (bif decide (r30724_0 ≤ IntKind.i64.wrap (Int.tdiv a1 (2 : Int))) then (K a0 a1 a2 a3 a4 a5 (3 : Int)) else (K a0 a1 true a3 a4 a5 (4 : Int)))))))))))
theorem f93x {R : Type} : ∃ f, f = @f93d R := ⟨_, rfl⟩
noncomputable def f93 {R : Type} := Classical.choose (f93x (R := R))
theorem f93_def {R : Type} : @f93 R = @f93d R := Classical.choose_spec f93x
noncomputable def f67_1000014d {R : Type} (k : Nat) (xN : Bool → Option R) (v14_0 : Bool) (v14_1 : Int) (v14_2 : Int) (v14_3 : Bool) (v14_4 : Bool) (v14_5 : Bool) (v14_6 : Int) (v14_7 : Int) (v14_8 : Int) (v14_9 : Bool) (v14_10 : Bool) (v14_11 : Bool) (v14_12 : Int) : Option R :=
  (bif v14_0 then (xN true) else (xN v14_5))
theorem f67_1000014x {R : Type} : ∃ f, f = @f67_1000014d R := ⟨_, rfl⟩
noncomputable def f67_1000014 {R : Type} := Classical.choose (f67_1000014x (R := R))
theorem f67_1000014_def {R : Type} : @f67_1000014 R = @f67_1000014d R := Classical.choose_spec f67_1000014x
noncomputable def f67_1000010d {R : Type} (k : Nat) (K : Int → Int → Bool → Bool → Bool → Int → Int → Option R) (xN : Int → Bool → Bool → Option R) (v10_0 : Int) (v10_1 : Bool) (v10_2 : Int) (v10_3 : Int) (v10_4 : Bool) (v10_5 : Bool) (v10_6 : Bool) (v10_7 : Int) (v10_8 : Int) (v10_9 : Int) (v10_10 : List Int) (v10_11 : Int) (v10_12 : Int) (v10_13 : Bool) (v10_14 : Bool) (v10_15 : Bool) (v10_16 : Int) : Option R :=
  (bif v10_1 then (bif v10_4 then (K v10_2 v10_3 v10_4 v10_5 v10_6 v10_7 (5 : Int)) else (xN v10_9 false v10_6)) else (f67_1000014 k (fun y14_N_4 => (xN v10_2 v10_5 y14_N_4)) (v10_0 == (5 : Int)) v10_2 v10_3 v10_4 v10_5 v10_6 v10_7 v10_11 v10_12 v10_13 v10_14 v10_15 v10_16))
theorem f67_1000010x {R : Type} : ∃ f, f = @f67_1000010d R := ⟨_, rfl⟩
noncomputable def f67_1000010 {R : Type} := Classical.choose (f67_1000010x (R := R))
theorem f67_1000010_def {R : Type} : @f67_1000010 R = @f67_1000010d R := Classical.choose_spec f67_1000010x
noncomputable def f67_1000008d {R : Type} (k : Nat) (xN : Int → Bool → Bool → Bool → Option R) (K : Int → Int → Bool → Bool → Bool → Int → Int → Option R) (v8_0 : Int) (v8_1 : Bool) (v8_2 : Int) (v8_3 : Int) (v8_4 : Bool) (v8_5 : Bool) (v8_6 : Bool) (v8_7 : Int) (v8_8 : Int) (v8_9 : Int) (v8_10 : List Int) (v8_11 : Int) (v8_12 : Int) (v8_13 : Bool) (v8_14 : Bool) (v8_15 : Bool) (v8_16 : Int) : Option R :=
  (bif v8_1 then (xN v8_2 false false false) else (f67_1000010 k K (fun y10_N_0 y10_N_3 y10_N_4 => (xN y10_N_0 v8_4 y10_N_3 y10_N_4)) v8_0 (v8_0 == (4 : Int)) v8_2 v8_3 v8_4 v8_5 v8_6 v8_7 v8_8 v8_9 v8_10 v8_11 v8_12 v8_13 v8_14 v8_15 v8_16))
theorem f67_1000008x {R : Type} : ∃ f, f = @f67_1000008d R := ⟨_, rfl⟩
noncomputable def f67_1000008 {R : Type} := Classical.choose (f67_1000008x (R := R))
theorem f67_1000008_def {R : Type} : @f67_1000008 R = @f67_1000008d R := Classical.choose_spec f67_1000008x
noncomputable def f67d {R : Type} (k : Nat) (a0 : Int) (a1 : Int) (a2 : Bool) (a3 : Bool) (a4 : Bool) (a5 : Int) (a6 : Int) (a7 : Int) (a8 : List Int) (K : Int → Int → Bool → Bool → Bool → Int → Int → Option R) : Option R := match k with
  | 0 => none
  | k + 1 => (bif (a6 == (1 : Int)) then (f93 k a0 a1 a2 a3 a4 a5 a6 a7 a8 (fun r8194_0 r8194_1 r8194_2 r8194_3 r8194_4 r8194_5 r8194_6 => (K r8194_0 r8194_1 r8194_2 r8194_3 r8194_4 r8194_5 r8194_6))) else (bif (a6 == (2 : Int)) then (K a0 a1 a2 a3 a4 (IntKind.i64.wrap (a5 + (1 : Int))) (1 : Int)) else (f67_1000008 k (fun y8_N_0 y8_N_2 y8_N_3 y8_N_4 => (K y8_N_0 a1 y8_N_2 y8_N_3 y8_N_4 a5 (7 : Int))) K a6 (a6 == (3 : Int)) a0 a1 a2 a3 a4 a5 a6 a7 a8 (0 : Int) (0 : Int) false false false (0 : Int))))
theorem f67x {R : Type} : ∃ f, f = @f67d R := ⟨_, rfl⟩
noncomputable def f67 {R : Type} := Classical.choose (f67x (R := R))
theorem f67_def {R : Type} : @f67 R = @f67d R := Classical.choose_spec f67x
noncomputable def f28d {R : Type} (k : Nat) (a0 : Int) (a1 : Int) (a2 : Bool) (a3 : Bool) (a4 : Bool) (a5 : Int) (a6 : Int) (a7 : Int) (a8 : List Int) (K : Int → Int → Bool → Bool → Bool → Int → Int → Int → Option R) : Option R := match k with
  | 0 => none
  | k + 1 => (f30 k a0 a1 a2 a3 a4 a5 (fun r4097_0 => (bif (r4097_0 != (0 : Int)) then (K (0 : Int) (0 : Int) false false false (0 : Int) (0 : Int) r4097_0) else (f61 k a6 a7 a8 (fun r10241_0 => (bif (r10241_0 != (0 : Int)) then (K (0 : Int) (0 : Int) false false false (0 : Int) (0 : Int) r10241_0) else (f67 k a0 a1 a2 a3 a4 a5 a6 a7 a8 (fun r16386_0 r16386_1 r16386_2 r16386_3 r16386_4 r16386_5 r16386_6 => (bif decide (r16386_5 > (1000000 : Int)) then (K (0 : Int) (0 : Int) false false false (0 : Int) (0 : Int) (16 : Int)) else (K r16386_0 r16386_1 r16386_2 r16386_3 r16386_4 r16386_5 r16386_6 (0 : Int)))))))))))
theorem f28x {R : Type} : ∃ f, f = @f28d R := ⟨_, rfl⟩
noncomputable def f28 {R : Type} := Classical.choose (f28x (R := R))
theorem f28_def {R : Type} : @f28 R = @f28d R := Classical.choose_spec f28x
noncomputable def f68d {R : Type} (k : Nat) (a0 : Int) (a1 : Int) (a2 : Bool) (a3 : Bool) (a4 : Bool) (a5 : Int) (K : Int → Bool → Bool → Bool → Option R) : Option R := match k with
  | 0 => none
  | k + 1 => (K a0 a2 a3 a4)
theorem f68x {R : Type} : ∃ f, f = @f68d R := ⟨_, rfl⟩
noncomputable def f68 {R : Type} := Classical.choose (f68x (R := R))
theorem f68_def {R : Type} : @f68 R = @f68d R := Classical.choose_spec f68x
noncomputable def f31d {R : Type} (k : Nat) (a0 : Int) (a1 : Int) (a2 : Bool) (a3 : Bool) (a4 : Bool) (a5 : Int) (K : Int → Bool → Bool → Bool → Int → Option R) : Option R := match k with
  | 0 => none
  | k + 1 => (f29 k a0 a1 a2 a3 a4 a5 (fun r4097_0 => (bif (r4097_0 != (0 : Int)) then (K (0 : Int) false false false r4097_0) else (f68 k a0 a1 a2 a3 a4 a5 (fun r10241_0 r10241_1 r10241_2 r10241_3 => (K r10241_0 r10241_1 r10241_2 r10241_3 (0 : Int)))))))
theorem f31x {R : Type} : ∃ f, f = @f31d R := ⟨_, rfl⟩
noncomputable def f31 {R : Type} := Classical.choose (f31x (R := R))
theorem f31_def {R : Type} : @f31 R = @f31d R := Classical.choose_spec f31x
noncomputable def f69d {R : Type} (k : Nat) (a0 : Int) (a1 : Int) (a2 : Bool) (a3 : Bool) (a4 : Bool) (a5 : Int) (K : Int → Bool → Bool → Bool → Option R) : Option R := match k with
  | 0 => none
  | k + 1 => (K a0 a2 a3 a4)
theorem f69x {R : Type} : ∃ f, f = @f69d R := ⟨_, rfl⟩
noncomputable def f69 {R : Type} := Classical.choose (f69x (R := R))
theorem f69_def {R : Type} : @f69 R = @f69d R := Classical.choose_spec f69x
noncomputable def f32d {R : Type} (k : Nat) (a0 : Int) (a1 : Int) (a2 : Bool) (a3 : Bool) (a4 : Bool) (a5 : Int) (K : Int → Bool → Bool → Bool → Int → Option R) : Option R := match k with
  | 0 => none
  | k + 1 => (f30 k a0 a1 a2 a3 a4 a5 (fun r4097_0 => (bif (r4097_0 != (0 : Int)) then (K (0 : Int) false false false r4097_0) else (f69 k a0 a1 a2 a3 a4 a5 (fun r10241_0 r10241_1 r10241_2 r10241_3 => (K r10241_0 r10241_1 r10241_2 r10241_3 (0 : Int)))))))
theorem f32x {R : Type} : ∃ f, f = @f32d R := ⟨_, rfl⟩
noncomputable def f32 {R : Type} := Classical.choose (f32x (R := R))
theorem f32_def {R : Type} : @f32 R = @f32d R := Classical.choose_spec f32x
noncomputable def f6d {R : Type} (k : Nat) (a0 : Int) (a1 : Int) (a2 : Bool) (a3 : Bool) (a4 : Bool) (a5 : Int) (a6 : Int) (a7 : Int) (a8 : List Int) (K : Bool → Option R) : Option R := match k with
  | 0 => none
  | k + 1 => (f27 k a0 a1 a2 a3 a4 a5 a6 a7 a8 (fun r4098_0 r4098_1 r4098_2 r4098_3 r4098_4 r4098_5 r4098_6 r4098_7 => (f28 k a0 a1 a2 a3 a4 a5 a6 a7 a8 (fun r6146_0 r6146_1 r6146_2 r6146_3 r6146_4 r6146_5 r6146_6 r6146_7 => (f29 k a0 a1 a2 a3 a4 a5 (fun r8193_0 => (f30 k a0 a1 a2 a3 a4 a5 (fun r8195_0 => (bif ((r8193_0 != r8195_0) == false) then (bif ((r4098_7 != r6146_7) == false) then (bif ((r4098_6 != r6146_6) == false) then (bif (!(((r4098_0, (r4098_1, (r4098_2, (r4098_3, (r4098_4, (r4098_5, ())))))).1 == (r6146_0, (r6146_1, (r6146_2, (r6146_3, (r6146_4, (r6146_5, ())))))).1) && ((((r4098_0, (r4098_1, (r4098_2, (r4098_3, (r4098_4, (r4098_5, ())))))).2).1 == ((r6146_0, (r6146_1, (r6146_2, (r6146_3, (r6146_4, (r6146_5, ())))))).2).1) && (((((r4098_0, (r4098_1, (r4098_2, (r4098_3, (r4098_4, (r4098_5, ())))))).2).2).1 == (((r6146_0, (r6146_1, (r6146_2, (r6146_3, (r6146_4, (r6146_5, ())))))).2).2).1) && ((((((r4098_0, (r4098_1, (r4098_2, (r4098_3, (r4098_4, (r4098_5, ())))))).2).2).2).1 == ((((r6146_0, (r6146_1, (r6146_2, (r6146_3, (r6146_4, (r6146_5, ())))))).2).2).2).1) && (((((((r4098_0, (r4098_1, (r4098_2, (r4098_3, (r4098_4, (r4098_5, ())))))).2).2).2).2).1 == (((((r6146_0, (r6146_1, (r6146_2, (r6146_3, (r6146_4, (r6146_5, ())))))).2).2).2).2).1) && ((((((((r4098_0, (r4098_1, (r4098_2, (r4098_3, (r4098_4, (r4098_5, ())))))).2).2).2).2).2).1 == ((((((r6146_0, (r6146_1, (r6146_2, (r6146_3, (r6146_4, (r6146_5, ())))))).2).2).2).2).2).1) && true))))))) then (K false) else (f31 k a0 a1 a2 a3 a4 a5 (fun r12289_0 r12289_1 r12289_2 r12289_3 r12289_4 => (f32 k a0 a1 a2 a3 a4 a5 (fun r14337_0 r14337_1 r14337_2 r14337_3 r14337_4 => (bif ((r12289_4 == r14337_4) == true) then (bif ((((r12289_0, (r12289_1, (r12289_2, (r12289_3, ())))).1 == (r14337_0, (r14337_1, (r14337_2, (r14337_3, ())))).1) && ((((r12289_0, (r12289_1, (r12289_2, (r12289_3, ())))).2).1 == ((r14337_0, (r14337_1, (r14337_2, (r14337_3, ())))).2).1) && (((((r12289_0, (r12289_1, (r12289_2, (r12289_3, ())))).2).2).1 == (((r14337_0, (r14337_1, (r14337_2, (r14337_3, ())))).2).2).1) && ((((((r12289_0, (r12289_1, (r12289_2, (r12289_3, ())))).2).2).2).1 == ((((r14337_0, (r14337_1, (r14337_2, (r14337_3, ())))).2).2).2).1) && true)))) == true) then (f21 k (fun r16393_0 => (K r16393_0))) else (K false)) else (K false))))))) else (K false)) else (K false)) else (K false))))))))))
theorem f6x {R : Type} : ∃ f, f = @f6d R := ⟨_, rfl⟩
noncomputable def f6 {R : Type} := Classical.choose (f6x (R := R))
theorem f6_def {R : Type} : @f6 R = @f6d R := Classical.choose_spec f6x
noncomputable def f74d {R : Type} (k : Nat) (a0 : Int) (a1 : Int) (a2 : Int) (K : Int → Option R) : Option R := match k with
  | 0 => none
  | k + 1 => (f62 k a0 a1 a2 (fun r4099_0 => (bif (!r4099_0) then (K (1 : Int)) else (K (0 : Int)))))
theorem f74x {R : Type} : ∃ f, f = @f74d R := ⟨_, rfl⟩
noncomputable def f74 {R : Type} := Classical.choose (f74x (R := R))
theorem f74_def {R : Type} : @f74 R = @f74d R := Classical.choose_spec f74x
noncomputable def f35_1b {R : Type} (k : Nat) (rec : Int → Option R) (K : Int → Option R) (x1 : Option R) (v1_0 : List (List Int)) (v1_1 : Int) (v1_3 : Int) (v1_4 : Int) (v1_5 : List (List Int)) (v1_6 : Int) (v1_7 : Bool) (v1_2 : Int) : Option R :=
  (bif decide (v1_2 < v1_1) then (bif (decide ((0 : Int) ≤ v1_2) && decide (v1_2 < (v1_0.length : Int))) then (f70 k (v1_0.getD (Int.toNat v1_2) ([] : List Int)) (fun r18433_0 => (bif (r18433_0 != (0 : Int)) then (K r18433_0) else (rec (IntKind.i64.wrap (v1_2 + (1 : Int))))))) else none) else x1)
noncomputable def f35_1d {R : Type} (k : Nat) (K : Int → Option R) (x1 : Option R) (v1_0 : List (List Int)) (v1_1 : Int) (v1_3 : Int) (v1_4 : Int) (v1_5 : List (List Int)) (v1_6 : Int) (v1_7 : Bool) : Nat → Int → Option R
  | 0, _ => none
  | m + 1, v1_2 => f35_1b k (f35_1d k K x1 v1_0 v1_1 v1_3 v1_4 v1_5 v1_6 v1_7 m) K x1 v1_0 v1_1 v1_3 v1_4 v1_5 v1_6 v1_7 v1_2
theorem f35_1x {R : Type} : ∃ f, f = @f35_1d R := ⟨_, rfl⟩
noncomputable def f35_1 {R : Type} := Classical.choose (f35_1x (R := R))
theorem f35_1_def {R : Type} : @f35_1 R = @f35_1d R := Classical.choose_spec f35_1x
noncomputable def f35d {R : Type} (k : Nat) (a0 : Int) (a1 : Int) (a2 : List (List Int)) (a3 : Int) (a4 : Bool) (K : Int → Option R) : Option R := match k with
  | 0 => none
  | k + 1 => (f62 k a0 (0 : Int) (255 : Int) (fun r4098_0 => (bif ((!r4098_0) == false) then (f62 k a3 (1 : Int) (127 : Int) (fun r4103_0 => (bif (!r4103_0) then (K (1 : Int)) else (bif decide ((a2.length : Int) > (500 : Int)) then (K (2 : Int)) else (f35_1 k K (f74 k a1 (0 : Int) (if (a2.length : Int) < a3 then (a2.length : Int) else a3) (fun r26632_0 => (K r26632_0))) a2 (a2.length : Int) a0 a1 a2 a3 a4 k (0 : Int)))))) else (K (1 : Int)))))
theorem f35x {R : Type} : ∃ f, f = @f35d R := ⟨_, rfl⟩
noncomputable def f35 {R : Type} := Classical.choose (f35x (R := R))
theorem f35_def {R : Type} : @f35 R = @f35d R := Classical.choose_spec f35x
noncomputable def f73d {R : Type} (k : Nat) (a0 : List (List Int)) (K : List (List Int) → Option R) : Option R := match k with
  | 0 => none
  | _ + 1 => bif decide (a0.length ≤ LIM 24) then K a0 else none
theorem f73x {R : Type} : ∃ f, f = @f73d R := ⟨_, rfl⟩
noncomputable def f73 {R : Type} := Classical.choose (f73x (R := R))
theorem f73_def {R : Type} : @f73 R = @f73d R := Classical.choose_spec f73x
noncomputable def f71_0b {R : Type} (k : Nat) (rec : Int → List (List Int) → Option R) (x0 : List (List Int) → Option R) (v0_0 : Int) (v0_2 : Int) (v0_3 : Int) (v0_4 : Int) (v0_5 : Bool) (v0_7 : Int) (v0_8 : Int) (v0_9 : Int) (v0_10 : Bool) (v0_1 : Int) (v0_6 : List (List Int)) : Option R :=
  (bif decide (v0_1 < v0_0) then (bif (decide ((0 : Int) ≤ v0_1) && decide (v0_1 < (v0_6.length : Int))) then (f59 k (v0_6.getD (Int.toNat v0_1) ([] : List Int)) (fun r12292_0 => (bif (decide ((0 : Int) ≤ v0_1) && decide (v0_1 < (v0_6.length : Int))) then (rec (IntKind.i64.wrap (v0_1 + (1 : Int))) (v0_6.set (Int.toNat v0_1) r12292_0)) else none))) else none) else (x0 v0_6))
noncomputable def f71_0d {R : Type} (k : Nat) (x0 : List (List Int) → Option R) (v0_0 : Int) (v0_2 : Int) (v0_3 : Int) (v0_4 : Int) (v0_5 : Bool) (v0_7 : Int) (v0_8 : Int) (v0_9 : Int) (v0_10 : Bool) : Nat → Int → List (List Int) → Option R
  | 0, _, _ => none
  | m + 1, v0_1, v0_6 => f71_0b k (f71_0d k x0 v0_0 v0_2 v0_3 v0_4 v0_5 v0_7 v0_8 v0_9 v0_10 m) x0 v0_0 v0_2 v0_3 v0_4 v0_5 v0_7 v0_8 v0_9 v0_10 v0_1 v0_6
theorem f71_0x {R : Type} : ∃ f, f = @f71_0d R := ⟨_, rfl⟩
noncomputable def f71_0 {R : Type} := Classical.choose (f71_0x (R := R))
theorem f71_0_def {R : Type} : @f71_0 R = @f71_0d R := Classical.choose_spec f71_0x
noncomputable def f71d {R : Type} (k : Nat) (a0 : Int) (a1 : Int) (a2 : List (List Int)) (a3 : Int) (a4 : Bool) (K : Int → Int → Int → Bool → List (List Int) → Option R) : Option R := match k with
  | 0 => none
  | k + 1 => (f73 k a2 (fun r4098_0 => (f71_0 k (fun y0_0_4 => (K a0 a1 a3 a4 y0_0_4)) (r4098_0.length : Int) a0 a1 a3 a4 (0 : Int) (0 : Int) (0 : Int) false k (0 : Int) r4098_0)))
theorem f71x {R : Type} : ∃ f, f = @f71d R := ⟨_, rfl⟩
noncomputable def f71 {R : Type} := Classical.choose (f71x (R := R))
theorem f71_def {R : Type} : @f71 R = @f71d R := Classical.choose_spec f71x
noncomputable def f33d {R : Type} (k : Nat) (a0 : Int) (a1 : Int) (a2 : List (List Int)) (a3 : Int) (a4 : Bool) (a5 : List Int) (K : Int → Int → Int → Bool → Int → List (List Int) → Option R) : Option R := match k with
  | 0 => none
  | k + 1 => (f35 k a0 a1 a2 a3 a4 (fun r4097_0 => (bif (r4097_0 != (0 : Int)) then (K (0 : Int) (0 : Int) (0 : Int) false r4097_0 ([] : List (List Int))) else (bif ((a2.length : Int) == (500 : Int)) then (K (0 : Int) (0 : Int) (0 : Int) false (16 : Int) ([] : List (List Int))) else (f70 k a5 (fun r14337_0 => (bif (r14337_0 != (0 : Int)) then (K (0 : Int) (0 : Int) (0 : Int) false r14337_0 ([] : List (List Int))) else (f71 k a0 a1 a2 a3 a4 (fun r20481_0 r20481_1 r20481_2 r20481_3 r20481_4 => (f59 k a5 (fun r22531_0 => (bif decide (r20481_4.length + ([r22531_0] : List (List Int)).length ≤ LIM 24) then (K r20481_0 r20481_1 r20481_2 r20481_3 (0 : Int) (r20481_4 ++ ([r22531_0] : List (List Int)))) else none))))))))))))
theorem f33x {R : Type} : ∃ f, f = @f33d R := ⟨_, rfl⟩
noncomputable def f33 {R : Type} := Classical.choose (f33x (R := R))
theorem f33_def {R : Type} : @f33 R = @f33d R := Classical.choose_spec f33x
noncomputable def f36_0b {R : Type} (k : Nat) (rec : Int → Option R) (K : Int → Option R) (x0 : Option R) (v0_0 : List (List Int)) (v0_1 : Int) (v0_3 : Int) (v0_4 : Int) (v0_5 : List (List Int)) (v0_6 : Int) (v0_7 : Bool) (v0_2 : Int) : Option R :=
  (bif decide (v0_2 < v0_1) then (bif (decide ((0 : Int) ≤ v0_2) && decide (v0_2 < (v0_0.length : Int))) then (f72 k (v0_0.getD (Int.toNat v0_2) ([] : List Int)) (fun r18433_0 => (bif (r18433_0 != (0 : Int)) then (K r18433_0) else (rec (IntKind.i64.wrap (v0_2 + (1 : Int))))))) else none) else x0)
noncomputable def f36_0d {R : Type} (k : Nat) (K : Int → Option R) (x0 : Option R) (v0_0 : List (List Int)) (v0_1 : Int) (v0_3 : Int) (v0_4 : Int) (v0_5 : List (List Int)) (v0_6 : Int) (v0_7 : Bool) : Nat → Int → Option R
  | 0, _ => none
  | m + 1, v0_2 => f36_0b k (f36_0d k K x0 v0_0 v0_1 v0_3 v0_4 v0_5 v0_6 v0_7 m) K x0 v0_0 v0_1 v0_3 v0_4 v0_5 v0_6 v0_7 v0_2
theorem f36_0x {R : Type} : ∃ f, f = @f36_0d R := ⟨_, rfl⟩
noncomputable def f36_0 {R : Type} := Classical.choose (f36_0x (R := R))
theorem f36_0_def {R : Type} : @f36_0 R = @f36_0d R := Classical.choose_spec f36_0x
noncomputable def f36d {R : Type} (k : Nat) (a0 : Int) (a1 : Int) (a2 : List (List Int)) (a3 : Int) (a4 : Bool) (K : Int → Option R) : Option R := match k with
  | 0 => none
  | k + 1 => (f63 k a0 (0 : Int) (255 : Int) (fun r4098_0 => (bif ((!r4098_0) == false) then (f63 k a3 (1 : Int) (127 : Int) (fun r4103_0 => (bif (!r4103_0) then (K (1 : Int)) else (bif decide ((a2.length : Int) > (500 : Int)) then (K (2 : Int)) else (f36_0 k K (f63 k a1 (0 : Int) (if (a2.length : Int) < a3 then (a2.length : Int) else a3) (fun r26632_0 => (bif (!r26632_0) then (K (1 : Int)) else (K (0 : Int))))) a2 (a2.length : Int) a0 a1 a2 a3 a4 k (0 : Int)))))) else (K (1 : Int)))))
theorem f36x {R : Type} : ∃ f, f = @f36d R := ⟨_, rfl⟩
noncomputable def f36 {R : Type} := Classical.choose (f36x (R := R))
theorem f36_def {R : Type} : @f36 R = @f36d R := Classical.choose_spec f36x
noncomputable def f34d {R : Type} (k : Nat) (a0 : Int) (a1 : Int) (a2 : List (List Int)) (a3 : Int) (a4 : Bool) (a5 : List Int) (K : Int → Int → Int → Bool → Int → List (List Int) → Option R) : Option R := match k with
  | 0 => none
  | k + 1 => (f36 k a0 a1 a2 a3 a4 (fun r4097_0 => (bif (r4097_0 != (0 : Int)) then (K (0 : Int) (0 : Int) (0 : Int) false r4097_0 ([] : List (List Int))) else (bif decide ((a2.length : Int) ≥ (500 : Int)) then (K (0 : Int) (0 : Int) (0 : Int) false (16 : Int) ([] : List (List Int))) else (f72 k a5 (fun r14337_0 => (bif (r14337_0 != (0 : Int)) then (K (0 : Int) (0 : Int) (0 : Int) false r14337_0 ([] : List (List Int))) else (f73 k a2 (fun r20482_0 => (f59 k a5 (fun r20484_0 => (bif decide (r20482_0.length + ([r20484_0] : List (List Int)).length ≤ LIM 24) then (K a0 a1 a3 a4 (0 : Int) (r20482_0 ++ ([r20484_0] : List (List Int)))) else none))))))))))))
theorem f34x {R : Type} : ∃ f, f = @f34d R := ⟨_, rfl⟩
noncomputable def f34 {R : Type} := Classical.choose (f34x (R := R))
theorem f34_def {R : Type} : @f34 R = @f34d R := Classical.choose_spec f34x
noncomputable def f46_0b {R : Type} (k : Nat) (rec : Int → Option R) (K : Bool → Option R) (x0 : Option R) (v0_0 : List (List Int)) (v0_1 : List (List Int)) (v0_2 : Int) (v0_3 : Int) : Option R :=
  (bif decide (v0_3 < v0_2) then (bif (decide ((0 : Int) ≤ v0_3) && decide (v0_3 < (v0_0.length : Int))) then (bif (decide ((0 : Int) ≤ v0_3) && decide (v0_3 < (v0_1.length : Int))) then (f24 k (v0_0.getD (Int.toNat v0_3) ([] : List Int)) (v0_1.getD (Int.toNat v0_3) ([] : List Int)) (fun r14344_0 => (bif (!r14344_0) then (K false) else (rec (IntKind.i64.wrap (v0_3 + (1 : Int))))))) else none) else none) else x0)
noncomputable def f46_0d {R : Type} (k : Nat) (K : Bool → Option R) (x0 : Option R) (v0_0 : List (List Int)) (v0_1 : List (List Int)) (v0_2 : Int) : Nat → Int → Option R
  | 0, _ => none
  | m + 1, v0_3 => f46_0b k (f46_0d k K x0 v0_0 v0_1 v0_2 m) K x0 v0_0 v0_1 v0_2 v0_3
theorem f46_0x {R : Type} : ∃ f, f = @f46_0d R := ⟨_, rfl⟩
noncomputable def f46_0 {R : Type} := Classical.choose (f46_0x (R := R))
theorem f46_0_def {R : Type} : @f46_0 R = @f46_0d R := Classical.choose_spec f46_0x
noncomputable def f46d {R : Type} (k : Nat) (a0 : List (List Int)) (a1 : List (List Int)) (K : Bool → Option R) : Option R := match k with
  | 0 => none
  | k + 1 => (bif ((a0.length : Int) != (a1.length : Int)) then (K false) else (f46_0 k K (K true) a0 a1 (a0.length : Int) k (0 : Int)))
theorem f46x {R : Type} : ∃ f, f = @f46d R := ⟨_, rfl⟩
noncomputable def f46 {R : Type} := Classical.choose (f46x (R := R))
theorem f46_def {R : Type} : @f46 R = @f46d R := Classical.choose_spec f46x
noncomputable def f37d {R : Type} (k : Nat) (a0 : Int) (a1 : Int) (a2 : List (List Int)) (a3 : Int) (a4 : Bool) (a5 : Int) (a6 : Int) (a7 : List (List Int)) (a8 : Int) (a9 : Bool) (K : Bool → Option R) : Option R := match k with
  | 0 => none
  | k + 1 => (bif ((a0 == a5) == true) then (bif ((a1 == a6) == true) then (bif ((a3 == a8) == true) then (bif ((a4 == a9) == true) then (f46 k a2 a7 (fun r4127_0 => (K r4127_0))) else (K false)) else (K false)) else (K false)) else (K false))
theorem f37x {R : Type} : ∃ f, f = @f37d R := ⟨_, rfl⟩
noncomputable def f37 {R : Type} := Classical.choose (f37x (R := R))
theorem f37_def {R : Type} : @f37 R = @f37d R := Classical.choose_spec f37x
noncomputable def f75d {R : Type} (k : Nat) (a0 : Int) (a1 : Int) (a2 : List (List Int)) (a3 : Int) (a4 : Bool) (K : Int → Int → List (List Int) → Int → Bool → Int → Int → Bool → List Int → Option R) : Option R := match k with
  | 0 => none
  | k + 1 => (bif (a4 == false) then (bif ((a1 == (a2.length : Int)) == false) then (bif (a1 == a3) then (K a0 a1 a2 a3 a4 (0 : Int) (0 : Int) false ([] : List Int)) else (bif (decide ((0 : Int) ≤ a1) && decide (a1 < (a2.length : Int))) then (f59 k (a2.getD (Int.toNat a1) ([] : List Int)) (fun r8204_0 => (K a0 (IntKind.i64.wrap (a1 + (1 : Int))) a2 a3 a4 (1 : Int) (Int.tmod (IntKind.i64.wrap (a0 + a1)) (256 : Int)) true r8204_0))) else none)) else (K a0 a1 a2 a3 a4 (0 : Int) (0 : Int) false ([] : List Int))) else (K a0 a1 a2 a3 a4 (0 : Int) (0 : Int) false ([] : List Int)))
theorem f75x {R : Type} : ∃ f, f = @f75d R := ⟨_, rfl⟩
noncomputable def f75 {R : Type} := Classical.choose (f75x (R := R))
theorem f75_def {R : Type} : @f75 R = @f75d R := Classical.choose_spec f75x
noncomputable def f38d {R : Type} (k : Nat) (a0 : Int) (a1 : Int) (a2 : List (List Int)) (a3 : Int) (a4 : Bool) (K : Int → Int → List (List Int) → Int → Bool → Int → Int → Bool → Int → List Int → Option R) : Option R := match k with
  | 0 => none
  | k + 1 => (f35 k a0 a1 a2 a3 a4 (fun r4097_0 => (bif (r4097_0 != (0 : Int)) then (K (0 : Int) (0 : Int) ([] : List (List Int)) (0 : Int) false (0 : Int) (0 : Int) false r4097_0 ([] : List Int)) else (f71 k a0 a1 a2 a3 a4 (fun r10241_0 r10241_1 r10241_2 r10241_3 r10241_4 => (f75 k r10241_0 r10241_1 r10241_4 r10241_2 r10241_3 (fun r10242_0 r10242_1 r10242_2 r10242_3 r10242_4 r10242_5 r10242_6 r10242_7 r10242_8 => (K r10242_0 r10242_1 r10242_2 r10242_3 r10242_4 r10242_5 r10242_6 r10242_7 (0 : Int) r10242_8))))))))
theorem f38x {R : Type} : ∃ f, f = @f38d R := ⟨_, rfl⟩
noncomputable def f38 {R : Type} := Classical.choose (f38x (R := R))
theorem f38_def {R : Type} : @f38 R = @f38d R := Classical.choose_spec f38x
noncomputable def f76d {R : Type} (k : Nat) (a0 : Int) (a1 : Int) (a2 : List (List Int)) (a3 : Int) (a4 : Bool) (K : Int → Int → List (List Int) → Int → Bool → Int → Int → Bool → List Int → Option R) : Option R := match k with
  | 0 => none
  | k + 1 => (bif (a4 == false) then (bif decide (a1 ≥ (if (a2.length : Int) < a3 then (a2.length : Int) else a3)) then (K a0 a1 a2 a3 a4 (0 : Int) (0 : Int) false ([] : List Int)) else (bif (decide ((0 : Int) ≤ a1) && decide (a1 < (a2.length : Int))) then (f59 k (a2.getD (Int.toNat a1) ([] : List Int)) (fun r8204_0 => (K a0 (IntKind.i64.wrap (a1 + (1 : Int))) a2 a3 a4 (1 : Int) (Int.tmod (IntKind.i64.wrap (a0 + a1)) (256 : Int)) true r8204_0))) else none)) else (K a0 a1 a2 a3 a4 (0 : Int) (0 : Int) false ([] : List Int)))
theorem f76x {R : Type} : ∃ f, f = @f76d R := ⟨_, rfl⟩
noncomputable def f76 {R : Type} := Classical.choose (f76x (R := R))
theorem f76_def {R : Type} : @f76 R = @f76d R := Classical.choose_spec f76x
noncomputable def f39d {R : Type} (k : Nat) (a0 : Int) (a1 : Int) (a2 : List (List Int)) (a3 : Int) (a4 : Bool) (K : Int → Int → List (List Int) → Int → Bool → Int → Int → Bool → Int → List Int → Option R) : Option R := match k with
  | 0 => none
  | k + 1 => (f36 k a0 a1 a2 a3 a4 (fun r4097_0 => (bif (r4097_0 != (0 : Int)) then (K (0 : Int) (0 : Int) ([] : List (List Int)) (0 : Int) false (0 : Int) (0 : Int) false r4097_0 ([] : List Int)) else (f76 k a0 a1 a2 a3 a4 (fun r10241_0 r10241_1 r10241_2 r10241_3 r10241_4 r10241_5 r10241_6 r10241_7 r10241_8 => (K r10241_0 r10241_1 r10241_2 r10241_3 r10241_4 r10241_5 r10241_6 r10241_7 (0 : Int) r10241_8))))))
theorem f39x {R : Type} : ∃ f, f = @f39d R := ⟨_, rfl⟩
noncomputable def f39 {R : Type} := Classical.choose (f39x (R := R))
theorem f39_def {R : Type} : @f39 R = @f39d R := Classical.choose_spec f39x
noncomputable def f77_1000006d {R : Type} (k : Nat) (xN : Int → Int → List (List Int) → Bool → Option R) (v6_0 : Int) (v6_1 : Bool) (v6_2 : Int) (v6_3 : Int) (v6_4 : List (List Int)) (v6_5 : Int) (v6_6 : Bool) (v6_7 : Int) (v6_8 : Bool) (v6_9 : Bool) (v6_10 : Bool) (v6_11 : Int) (v6_12 : Int) (v6_13 : Int) (v6_14 : Bool) : Option R :=
  (bif v6_1 then (bif (decide ((0 : Int) ≤ v6_0) && decide (v6_0 ≤ (v6_4.length : Int))) then (xN (Int.tmod (IntKind.i64.wrap (v6_2 + v6_0)) (256 : Int)) (IntKind.i64.wrap (v6_3 - v6_0)) (v6_4.drop (Int.toNat v6_0)) v6_6) else none) else (xN v6_2 v6_3 v6_4 true))
theorem f77_1000006x {R : Type} : ∃ f, f = @f77_1000006d R := ⟨_, rfl⟩
noncomputable def f77_1000006 {R : Type} := Classical.choose (f77_1000006x (R := R))
theorem f77_1000006_def {R : Type} : @f77_1000006 R = @f77_1000006d R := Classical.choose_spec f77_1000006x
noncomputable def f77_1000009d {R : Type} (k : Nat) (xN : Int → Option R) (v9_0 : Bool) (v9_1 : Int) (v9_2 : Int) (v9_3 : List (List Int)) (v9_4 : Int) (v9_5 : Bool) (v9_6 : Int) (v9_7 : Int) (v9_8 : Int) (v9_9 : Bool) : Option R :=
  (bif v9_0 then (xN (0 : Int)) else (xN v9_2))
theorem f77_1000009x {R : Type} : ∃ f, f = @f77_1000009d R := ⟨_, rfl⟩
noncomputable def f77_1000009 {R : Type} := Classical.choose (f77_1000009x (R := R))
theorem f77_1000009_def {R : Type} : @f77_1000009 R = @f77_1000009d R := Classical.choose_spec f77_1000009x
noncomputable def f77d {R : Type} (k : Nat) (a0 : Int) (a1 : Int) (a2 : List (List Int)) (a3 : Int) (a4 : Bool) (a5 : Int) (a6 : Bool) (a7 : Bool) (a8 : Bool) (K : Int → Int → List (List Int) → Int → Bool → Option R) : Option R := match k with
  | 0 => none
  | k + 1 => (bif a6 then (K a0 a1 a2 a3 true) else (f92 k a5 a0 (fun r10244_0 => (f77_1000006 k (fun y6_N_0 y6_N_1 y6_N_2 y6_N_4 => (f77_1000009 k (fun y9_N_1 => (K y6_N_0 y9_N_1 y6_N_2 a3 y6_N_4)) a7 y6_N_0 y6_N_1 y6_N_2 a3 y6_N_4 (0 : Int) (0 : Int) (0 : Int) false)) r10244_0 (decide (r10244_0 ≤ a1)) a0 a1 a2 a3 a4 a5 a6 a7 a8 (0 : Int) (0 : Int) (0 : Int) false))))
theorem f77x {R : Type} : ∃ f, f = @f77d R := ⟨_, rfl⟩
noncomputable def f77 {R : Type} := Classical.choose (f77x (R := R))
theorem f77_def {R : Type} : @f77 R = @f77d R := Classical.choose_spec f77x
noncomputable def f40d {R : Type} (k : Nat) (a0 : Int) (a1 : Int) (a2 : List (List Int)) (a3 : Int) (a4 : Bool) (a5 : Int) (a6 : Bool) (a7 : Bool) (a8 : Bool) (K : Int → Int → Int → Bool → Int → List (List Int) → Option R) : Option R := match k with
  | 0 => none
  | k + 1 => (f35 k a0 a1 a2 a3 a4 (fun r4097_0 => (f74 k a5 (0 : Int) (255 : Int) (fun r4100_0 => (f65 k ([r4097_0, r4100_0] : List Int) (fun r4102_0 => (bif (r4102_0 != (0 : Int)) then (K (0 : Int) (0 : Int) (0 : Int) false r4102_0 ([] : List (List Int))) else (f77 k a0 a1 a2 a3 a4 a5 a6 a7 a8 (fun r10242_0 r10242_1 r10242_2 r10242_3 r10242_4 => (f71 k r10242_0 r10242_1 r10242_2 r10242_3 r10242_4 (fun r10243_0 r10243_1 r10243_2 r10243_3 r10243_4 => (K r10243_0 r10243_1 r10243_2 r10243_3 (0 : Int) r10243_4))))))))))))
theorem f40x {R : Type} : ∃ f, f = @f40d R := ⟨_, rfl⟩
noncomputable def f40 {R : Type} := Classical.choose (f40x (R := R))
theorem f40_def {R : Type} : @f40 R = @f40d R := Classical.choose_spec f40x
noncomputable def f78_1000006d {R : Type} (k : Nat) (xN : Int → Int → List (List Int) → Bool → Option R) (v6_0 : Int) (v6_1 : Bool) (v6_2 : Int) (v6_3 : Int) (v6_4 : List (List Int)) (v6_5 : Int) (v6_6 : Bool) (v6_7 : Int) (v6_8 : Bool) (v6_9 : Bool) (v6_10 : Bool) (v6_11 : Int) (v6_12 : Int) (v6_13 : Int) (v6_14 : Bool) : Option R :=
  (bif v6_1 then (xN v6_2 v6_3 v6_4 true) else (bif (decide ((0 : Int) ≤ v6_0) && decide (v6_0 ≤ (v6_4.length : Int))) then (f73 k (v6_4.drop (Int.toNat v6_0)) (fun r16388_0 => (xN v6_7 (IntKind.i64.wrap (v6_3 - v6_0)) r16388_0 v6_6))) else none))
theorem f78_1000006x {R : Type} : ∃ f, f = @f78_1000006d R := ⟨_, rfl⟩
noncomputable def f78_1000006 {R : Type} := Classical.choose (f78_1000006x (R := R))
theorem f78_1000006_def {R : Type} : @f78_1000006 R = @f78_1000006d R := Classical.choose_spec f78_1000006x
noncomputable def f78_1000009d {R : Type} (k : Nat) (xN : Int → Option R) (v9_0 : Bool) (v9_1 : Int) (v9_2 : Int) (v9_3 : List (List Int)) (v9_4 : Int) (v9_5 : Bool) (v9_6 : Int) (v9_7 : Int) (v9_8 : Int) (v9_9 : Bool) : Option R :=
  (bif v9_0 then (xN (0 : Int)) else (xN v9_2))
theorem f78_1000009x {R : Type} : ∃ f, f = @f78_1000009d R := ⟨_, rfl⟩
noncomputable def f78_1000009 {R : Type} := Classical.choose (f78_1000009x (R := R))
theorem f78_1000009_def {R : Type} : @f78_1000009 R = @f78_1000009d R := Classical.choose_spec f78_1000009x
noncomputable def f78d {R : Type} (k : Nat) (a0 : Int) (a1 : Int) (a2 : List (List Int)) (a3 : Int) (a4 : Bool) (a5 : Int) (a6 : Bool) (a7 : Bool) (a8 : Bool) (K : Int → Int → List (List Int) → Int → Bool → Option R) : Option R := match k with
  | 0 => none
  | k + 1 => (bif a6 then (K a0 a1 a2 a3 true) else (f94 k a5 a0 (fun r10244_0 => (f78_1000006 k (fun y6_N_0 y6_N_1 y6_N_2 y6_N_4 => (f78_1000009 k (fun y9_N_1 => (K y6_N_0 y9_N_1 y6_N_2 a3 y6_N_4)) a7 y6_N_0 y6_N_1 y6_N_2 a3 y6_N_4 (0 : Int) (0 : Int) (0 : Int) false)) r10244_0 (decide (r10244_0 > a1)) a0 a1 a2 a3 a4 a5 a6 a7 a8 (0 : Int) (0 : Int) (0 : Int) false))))
theorem f78x {R : Type} : ∃ f, f = @f78d R := ⟨_, rfl⟩
noncomputable def f78 {R : Type} := Classical.choose (f78x (R := R))
theorem f78_def {R : Type} : @f78 R = @f78d R := Classical.choose_spec f78x
noncomputable def f41d {R : Type} (k : Nat) (a0 : Int) (a1 : Int) (a2 : List (List Int)) (a3 : Int) (a4 : Bool) (a5 : Int) (a6 : Bool) (a7 : Bool) (a8 : Bool) (K : Int → Int → List (List Int) → Int → Bool → Int → Option R) : Option R := match k with
  | 0 => none
  | k + 1 => (f36 k a0 a1 a2 a3 a4 (fun r4097_0 => (bif (r4097_0 != (0 : Int)) then (K (0 : Int) (0 : Int) ([] : List (List Int)) (0 : Int) false r4097_0) else (f63 k a5 (0 : Int) (255 : Int) (fun r10242_0 => (bif (!r10242_0) then (K (0 : Int) (0 : Int) ([] : List (List Int)) (0 : Int) false (1 : Int)) else (f78 k a0 a1 a2 a3 a4 a5 a6 a7 a8 (fun r14338_0 r14338_1 r14338_2 r14338_3 r14338_4 => (K r14338_0 r14338_1 r14338_2 r14338_3 r14338_4 (0 : Int))))))))))
theorem f41x {R : Type} : ∃ f, f = @f41d R := ⟨_, rfl⟩
noncomputable def f41 {R : Type} := Classical.choose (f41x (R := R))
theorem f41_def {R : Type} : @f41 R = @f41d R := Classical.choose_spec f41x
noncomputable def f7d {R : Type} (k : Nat) (a0 : Int) (a1 : Int) (a2 : List (List Int)) (a3 : Int) (a4 : Bool) (a5 : List Int) (a6 : Int) (a7 : Bool) (a8 : Bool) (a9 : Bool) (K : Bool → Option R) : Option R := match k with
  | 0 => none
  | k + 1 => (f33 k a0 a1 a2 a3 a4 a5 (fun r4098_0 r4098_1 r4098_2 r4098_3 r4098_4 r4098_5 => (f34 k a0 a1 a2 a3 a4 a5 (fun r6146_0 r6146_1 r6146_2 r6146_3 r6146_4 r6146_5 => (f35 k a0 a1 a2 a3 a4 (fun r8193_0 => (f36 k a0 a1 a2 a3 a4 (fun r8195_0 => (bif ((r8193_0 != r8195_0) == false) then (bif ((r4098_4 != r6146_4) == false) then (f37 k r4098_0 r4098_1 r4098_5 r4098_2 r4098_3 r6146_0 r6146_1 r6146_5 r6146_2 r6146_3 (fun r8205_0 => (bif (!r8205_0) then (K false) else (f38 k a0 a1 a2 a3 a4 (fun r12289_0 r12289_1 r12289_2 r12289_3 r12289_4 r12289_5 r12289_6 r12289_7 r12289_8 r12289_9 => (f39 k a0 a1 a2 a3 a4 (fun r14337_0 r14337_1 r14337_2 r14337_3 r14337_4 r14337_5 r14337_6 r14337_7 r14337_8 r14337_9 => (bif ((r12289_8 != r14337_8) == false) then (bif ((!(r12289_7 == r14337_7)) == false) then (f37 k r12289_0 r12289_1 r12289_2 r12289_3 r12289_4 r14337_0 r14337_1 r14337_2 r14337_3 r14337_4 (fun r16395_0 => (bif ((!r16395_0) == false) then (f18 k r12289_5 r12289_6 r12289_9 r14337_5 r14337_6 r14337_9 (fun r16401_0 => (bif (!r16401_0) then (K false) else (f40 k a0 a1 a2 a3 a4 a6 a7 a8 a9 (fun r20482_0 r20482_1 r20482_2 r20482_3 r20482_4 r20482_5 => (f41 k a0 a1 a2 a3 a4 a6 a7 a8 a9 (fun r22530_0 r22530_1 r22530_2 r22530_3 r22530_4 r22530_5 => (bif ((r20482_4 == r22530_5) == true) then (f37 k r20482_0 r20482_1 r20482_5 r20482_2 r20482_3 r22530_0 r22530_1 r22530_2 r22530_3 r22530_4 (fun r24582_0 => (bif (r24582_0 == true) then (f21 k (fun r24585_0 => (K r24585_0))) else (K false)))) else (K false))))))))) else (K false)))) else (K false)) else (K false))))))))) else (K false)) else (K false))))))))))
theorem f7x {R : Type} : ∃ f, f = @f7d R := ⟨_, rfl⟩
noncomputable def f7 {R : Type} := Classical.choose (f7x (R := R))
theorem f7_def {R : Type} : @f7 R = @f7d R := Classical.choose_spec f7x
noncomputable def f79_1000010d {R : Type} (k : Nat) (xN : List (List Int) → Option R) (v10_0 : Bool) (v10_1 : Int) (v10_2 : Int) (v10_3 : Bool) (v10_4 : Bool) (v10_5 : Bool) (v10_6 : Int) (v10_7 : Int) (v10_8 : Int) (v10_9 : List (List Int)) (v10_10 : Int) (v10_11 : Bool) (v10_12 : List (List Int)) (v10_13 : Bool) (v10_14 : Bool) (v10_15 : Bool) (v10_16 : Bool) (v10_17 : Int) (v10_18 : Int) (v10_19 : Int) (v10_20 : List Int) : Option R :=
  (bif v10_0 then (bif decide (v10_12.length + ([v10_20] : List (List Int)).length ≤ LIM 24) then (xN (v10_12 ++ ([v10_20] : List (List Int)))) else none) else (xN v10_12))
theorem f79_1000010x {R : Type} : ∃ f, f = @f79_1000010d R := ⟨_, rfl⟩
noncomputable def f79_1000010 {R : Type} := Classical.choose (f79_1000010x (R := R))
theorem f79_1000010_def {R : Type} : @f79_1000010 R = @f79_1000010d R := Classical.choose_spec f79_1000010x
noncomputable def f79_1000005d {R : Type} (k : Nat) (K : Int → Int → Int → Bool → Bool → Bool → Int → Int → Int → List (List Int) → Int → Bool → List (List Int) → Option R) (xN : Int → Int → Bool → Bool → Bool → Int → List (List Int) → Option R) (v5_0 : Bool) (v5_1 : Int) (v5_2 : Int) (v5_3 : Bool) (v5_4 : Bool) (v5_5 : Bool) (v5_6 : Int) (v5_7 : Int) (v5_8 : Int) (v5_9 : List (List Int)) (v5_10 : Int) (v5_11 : Bool) (v5_12 : List (List Int)) (v5_13 : Bool) (v5_14 : Bool) (v5_15 : Bool) (v5_16 : Bool) (v5_17 : Int) (v5_18 : Int) (v5_19 : Int) (v5_20 : List Int) : Option R :=
  (bif v5_0 then (f27 k v5_1 v5_2 v5_3 v5_4 v5_5 v5_6 v5_18 v5_19 v5_20 (fun r12293_0 r12293_1 r12293_2 r12293_3 r12293_4 r12293_5 r12293_6 r12293_7 => (bif (r12293_7 != (0 : Int)) then (K r12293_7 v5_1 v5_2 v5_3 v5_4 v5_5 v5_6 v5_7 v5_8 v5_9 v5_10 v5_11 v5_12) else (f79_1000010 k (fun y10_N_11 => (xN r12293_0 r12293_1 r12293_2 r12293_3 r12293_4 r12293_5 y10_N_11)) (r12293_6 == (1 : Int)) r12293_0 r12293_1 r12293_2 r12293_3 r12293_4 r12293_5 v5_7 v5_8 v5_9 v5_10 v5_11 v5_12 v5_13 v5_14 v5_15 v5_16 v5_17 v5_18 v5_19 v5_20)))) else (xN v5_1 v5_2 v5_3 v5_4 v5_5 v5_6 v5_12))
theorem f79_1000005x {R : Type} : ∃ f, f = @f79_1000005d R := ⟨_, rfl⟩
noncomputable def f79_1000005 {R : Type} := Classical.choose (f79_1000005x (R := R))
theorem f79_1000005_def {R : Type} : @f79_1000005 R = @f79_1000005d R := Classical.choose_spec f79_1000005x
noncomputable def f79_1000002d {R : Type} (k : Nat) (K : Int → Int → Int → Bool → Bool → Bool → Int → Int → Int → List (List Int) → Int → Bool → List (List Int) → Option R) (xN : Int → Int → Bool → Bool → Bool → Int → Int → Int → List (List Int) → Int → Bool → List (List Int) → Option R) (v2_0 : Bool) (v2_1 : Int) (v2_2 : Int) (v2_3 : Bool) (v2_4 : Bool) (v2_5 : Bool) (v2_6 : Int) (v2_7 : Int) (v2_8 : Int) (v2_9 : List (List Int)) (v2_10 : Int) (v2_11 : Bool) (v2_12 : List (List Int)) (v2_13 : Bool) (v2_14 : Bool) (v2_15 : Bool) (v2_16 : Bool) (v2_17 : Int) : Option R :=
  (bif v2_0 then (f75 k v2_7 v2_8 v2_9 v2_10 v2_11 (fun r6148_0 r6148_1 r6148_2 r6148_3 r6148_4 r6148_5 r6148_6 r6148_7 r6148_8 => (bif (r6148_7 == true) then (f79_1000005 k K (fun y5_N_0 y5_N_1 y5_N_2 y5_N_3 y5_N_4 y5_N_5 y5_N_11 => (xN y5_N_0 y5_N_1 y5_N_2 y5_N_3 y5_N_4 y5_N_5 r6148_0 r6148_1 r6148_2 r6148_3 r6148_4 y5_N_11)) (!v2_14) v2_1 v2_2 v2_3 v2_4 v2_5 v2_6 r6148_0 r6148_1 r6148_2 r6148_3 r6148_4 v2_12 v2_13 v2_14 v2_15 v2_16 v2_17 r6148_5 r6148_6 r6148_8) else (f79_1000005 k K (fun y5_N_0 y5_N_1 y5_N_2 y5_N_3 y5_N_4 y5_N_5 y5_N_11 => (xN y5_N_0 y5_N_1 y5_N_2 y5_N_3 y5_N_4 y5_N_5 r6148_0 r6148_1 r6148_2 r6148_3 r6148_4 y5_N_11)) false v2_1 v2_2 v2_3 v2_4 v2_5 v2_6 r6148_0 r6148_1 r6148_2 r6148_3 r6148_4 v2_12 v2_13 v2_14 v2_15 v2_16 v2_17 r6148_5 r6148_6 r6148_8)))) else (xN v2_1 v2_2 v2_3 v2_4 v2_5 v2_6 v2_7 v2_8 v2_9 v2_10 v2_11 v2_12))
theorem f79_1000002x {R : Type} : ∃ f, f = @f79_1000002d R := ⟨_, rfl⟩
noncomputable def f79_1000002 {R : Type} := Classical.choose (f79_1000002x (R := R))
theorem f79_1000002_def {R : Type} : @f79_1000002 R = @f79_1000002d R := Classical.choose_spec f79_1000002x
noncomputable def f79_1000012d {R : Type} (k : Nat) (xN : Bool → Option R) (v12_0 : Bool) (v12_1 : Int) (v12_2 : Int) (v12_3 : Bool) (v12_4 : Bool) (v12_5 : Bool) (v12_6 : Int) (v12_7 : Int) (v12_8 : Int) (v12_9 : List (List Int)) (v12_10 : Int) (v12_11 : Bool) (v12_12 : List (List Int)) (v12_13 : Bool) (v12_14 : Bool) (v12_15 : Bool) (v12_16 : Bool) (v12_17 : Int) : Option R :=
  (bif v12_0 then (xN (v12_17 == (2 : Int))) else (xN v12_5))
theorem f79_1000012x {R : Type} : ∃ f, f = @f79_1000012d R := ⟨_, rfl⟩
noncomputable def f79_1000012 {R : Type} := Classical.choose (f79_1000012x (R := R))
theorem f79_1000012_def {R : Type} : @f79_1000012 R = @f79_1000012d R := Classical.choose_spec f79_1000012x
noncomputable def f79_1000014d {R : Type} (k : Nat) (xN : Int → Int → List (List Int) → Int → Bool → Option R) (v14_0 : Bool) (v14_1 : Int) (v14_2 : Int) (v14_3 : Bool) (v14_4 : Bool) (v14_5 : Bool) (v14_6 : Int) (v14_7 : Int) (v14_8 : Int) (v14_9 : List (List Int)) (v14_10 : Int) (v14_11 : Bool) (v14_12 : List (List Int)) : Option R :=
  (bif v14_0 then (f68 k v14_1 v14_2 v14_3 v14_4 v14_5 v14_6 (fun r30729_0 r30729_1 r30729_2 r30729_3 => (f77 k v14_7 v14_8 v14_9 v14_10 v14_11 r30729_0 r30729_1 r30729_2 r30729_3 (fun r30730_0 r30730_1 r30730_2 r30730_3 r30730_4 => (xN r30730_0 r30730_1 r30730_2 r30730_3 r30730_4))))) else (xN v14_7 v14_8 v14_9 v14_10 v14_11))
theorem f79_1000014x {R : Type} : ∃ f, f = @f79_1000014d R := ⟨_, rfl⟩
noncomputable def f79_1000014 {R : Type} := Classical.choose (f79_1000014x (R := R))
theorem f79_1000014_def {R : Type} : @f79_1000014 R = @f79_1000014d R := Classical.choose_spec f79_1000014x
noncomputable def f79d {R : Type} (k : Nat) (a0 : Bool) (a1 : Bool) (a2 : Bool) (a3 : Bool) (a4 : Int) (a5 : Int) (a6 : Int) (a7 : Bool) (a8 : Bool) (a9 : Bool) (a10 : Int) (a11 : Int) (a12 : Int) (a13 : List (List Int)) (a14 : Int) (a15 : Bool) (a16 : List (List Int)) (K : Int → Int → Int → Bool → Bool → Bool → Int → Int → Int → List (List Int) → Int → Bool → List (List Int) → Option R) : Option R := match k with
  | 0 => none
  | k + 1 => (f79_1000002 k K (fun y2_N_0 y2_N_1 y2_N_2 y2_N_3 y2_N_4 y2_N_5 y2_N_6 y2_N_7 y2_N_8 y2_N_9 y2_N_10 y2_N_11 => (f79_1000012 k (fun y12_N_4 => (bif (a2 == true) then (f79_1000014 k (fun y14_N_6 y14_N_7 y14_N_8 y14_N_9 y14_N_10 => (K (0 : Int) y2_N_0 y2_N_1 y2_N_2 y2_N_3 y12_N_4 y2_N_5 y14_N_6 y14_N_7 y14_N_8 y14_N_9 y14_N_10 y2_N_11)) (!a3) y2_N_0 y2_N_1 y2_N_2 y2_N_3 y12_N_4 y2_N_5 y2_N_6 y2_N_7 y2_N_8 y2_N_9 y2_N_10 y2_N_11) else (f79_1000014 k (fun y14_N_6 y14_N_7 y14_N_8 y14_N_9 y14_N_10 => (K (0 : Int) y2_N_0 y2_N_1 y2_N_2 y2_N_3 y12_N_4 y2_N_5 y14_N_6 y14_N_7 y14_N_8 y14_N_9 y14_N_10 y2_N_11)) false y2_N_0 y2_N_1 y2_N_2 y2_N_3 y12_N_4 y2_N_5 y2_N_6 y2_N_7 y2_N_8 y2_N_9 y2_N_10 y2_N_11))) (decide (a4 > (0 : Int))) y2_N_0 y2_N_1 y2_N_2 y2_N_3 y2_N_4 y2_N_5 y2_N_6 y2_N_7 y2_N_8 y2_N_9 y2_N_10 y2_N_11 a0 a1 a2 a3 a4)) a0 a5 a6 a7 a8 a9 a10 a11 a12 a13 a14 a15 a16 a0 a1 a2 a3 a4)
theorem f79x {R : Type} : ∃ f, f = @f79d R := ⟨_, rfl⟩
noncomputable def f79 {R : Type} := Classical.choose (f79x (R := R))
theorem f79_def {R : Type} : @f79 R = @f79d R := Classical.choose_spec f79x
noncomputable def f42_0b {R : Type} (k : Nat) (rec : Int → Int → Int → Bool → Bool → Bool → Int → Int → Int → List (List Int) → Int → Bool → List (List Int) → Option R) (K : Int → Bool → Int → Option R) (v0_0 : Int) (v0_1 : Int) (v0_2 : Int) (v0_3 : Int) (v0_4 : Bool) (v0_5 : Bool) (v0_6 : Bool) (v0_7 : Int) (v0_8 : Int) (v0_9 : Int) (v0_10 : List (List Int)) (v0_11 : Int) (v0_12 : Bool) (v0_13 : List (List Int)) : Option R :=
  (bif ((v0_10.length : Int) == (0 : Int)) then (K v0_1 true (0 : Int)) else (bif (v0_1 == v0_0) then (K (0 : Int) false (0 : Int)) else (f79 k true false true false (0 : Int) v0_2 v0_3 v0_4 v0_5 v0_6 v0_7 v0_8 v0_9 v0_10 v0_11 v0_12 v0_13 (fun r24578_0 r24578_1 r24578_2 r24578_3 r24578_4 r24578_5 r24578_6 r24578_7 r24578_8 r24578_9 r24578_10 r24578_11 r24578_12 => (bif (r24578_0 != (0 : Int)) then (K (0 : Int) false r24578_0) else (rec (IntKind.i64.wrap (v0_1 + (1 : Int))) r24578_1 r24578_2 r24578_3 r24578_4 r24578_5 r24578_6 r24578_7 r24578_8 r24578_9 r24578_10 r24578_11 r24578_12))))))
noncomputable def f42_0d {R : Type} (k : Nat) (K : Int → Bool → Int → Option R) (v0_0 : Int) : Nat → Int → Int → Int → Bool → Bool → Bool → Int → Int → Int → List (List Int) → Int → Bool → List (List Int) → Option R
  | 0, _, _, _, _, _, _, _, _, _, _, _, _, _ => none
  | m + 1, v0_1, v0_2, v0_3, v0_4, v0_5, v0_6, v0_7, v0_8, v0_9, v0_10, v0_11, v0_12, v0_13 => f42_0b k (f42_0d k K v0_0 m) K v0_0 v0_1 v0_2 v0_3 v0_4 v0_5 v0_6 v0_7 v0_8 v0_9 v0_10 v0_11 v0_12 v0_13
theorem f42_0x {R : Type} : ∃ f, f = @f42_0d R := ⟨_, rfl⟩
noncomputable def f42_0 {R : Type} := Classical.choose (f42_0x (R := R))
theorem f42_0_def {R : Type} : @f42_0 R = @f42_0d R := Classical.choose_spec f42_0x
noncomputable def f42d {R : Type} (k : Nat) (a0 : Int) (a1 : Int) (a2 : Bool) (a3 : Bool) (a4 : Bool) (a5 : Int) (a6 : Int) (a7 : Int) (a8 : List (List Int)) (a9 : Int) (a10 : Bool) (a11 : Int) (K : Int → Bool → Int → Option R) : Option R := match k with
  | 0 => none
  | k + 1 => (f29 k a0 a1 a2 a3 a4 a5 (fun r4097_0 => (f35 k a6 a7 a8 a9 a10 (fun r4099_0 => (f74 k a11 (0 : Int) (2000 : Int) (fun r4101_0 => (f65 k ([r4097_0, r4099_0, r4101_0] : List Int) (fun r4103_0 => (bif (r4103_0 != (0 : Int)) then (K (0 : Int) false r4103_0) else (f71 k a6 a7 a8 a9 a10 (fun r10242_0 r10242_1 r10242_2 r10242_3 r10242_4 => (f42_0 k K a11 k (0 : Int) a0 a1 a2 a3 a4 a5 r10242_0 r10242_1 r10242_4 r10242_2 r10242_3 ([] : List (List Int))))))))))))))
theorem f42x {R : Type} : ∃ f, f = @f42d R := ⟨_, rfl⟩
noncomputable def f42 {R : Type} := Classical.choose (f42x (R := R))
theorem f42_def {R : Type} : @f42 R = @f42d R := Classical.choose_spec f42x
noncomputable def f45_0b {R : Type} (k : Nat) (rec : Int → Option R) (K : Int → Int → Bool → Bool → Bool → Int → Int → Int → List (List Int) → Int → Bool → Int → List (List Int) → Option R) (x0 : Option R) (v0_0 : List ((Bool × (Bool × (Bool × (Bool × (Int × Unit))))))) (v0_1 : List ((Bool × (Bool × (Bool × (Bool × (Int × Unit))))))) (v0_2 : Int) (v0_4 : Int) (v0_5 : Int) (v0_6 : Bool) (v0_7 : Bool) (v0_8 : Bool) (v0_9 : Int) (v0_10 : Int) (v0_11 : Int) (v0_12 : List (List Int)) (v0_13 : Int) (v0_14 : Bool) (v0_15 : Int) (v0_16 : Int) (v0_17 : Bool) (v0_18 : Bool) (v0_19 : Bool) (v0_20 : Int) (v0_21 : Int) (v0_22 : Int) (v0_23 : Int) (v0_24 : Bool) (v0_3 : Int) : Option R :=
  (bif decide (v0_3 < v0_2) then (bif (decide ((0 : Int) ≤ v0_3) && decide (v0_3 < (v0_1.length : Int))) then (f63 k ((((((v0_1.getD (Int.toNat v0_3) (false, (false, (false, (false, ((0 : Int), ())))))).2).2).2).2).1) (0 : Int) (2 : Int) (fun r26626_0 => (bif (!r26626_0) then (K (0 : Int) (0 : Int) false false false (0 : Int) (0 : Int) (0 : Int) ([] : List (List Int)) (0 : Int) false (1 : Int) ([] : List (List Int))) else (rec (IntKind.i64.wrap (v0_3 + (1 : Int))))))) else none) else x0)
noncomputable def f45_0d {R : Type} (k : Nat) (K : Int → Int → Bool → Bool → Bool → Int → Int → Int → List (List Int) → Int → Bool → Int → List (List Int) → Option R) (x0 : Option R) (v0_0 : List ((Bool × (Bool × (Bool × (Bool × (Int × Unit))))))) (v0_1 : List ((Bool × (Bool × (Bool × (Bool × (Int × Unit))))))) (v0_2 : Int) (v0_4 : Int) (v0_5 : Int) (v0_6 : Bool) (v0_7 : Bool) (v0_8 : Bool) (v0_9 : Int) (v0_10 : Int) (v0_11 : Int) (v0_12 : List (List Int)) (v0_13 : Int) (v0_14 : Bool) (v0_15 : Int) (v0_16 : Int) (v0_17 : Bool) (v0_18 : Bool) (v0_19 : Bool) (v0_20 : Int) (v0_21 : Int) (v0_22 : Int) (v0_23 : Int) (v0_24 : Bool) : Nat → Int → Option R
  | 0, _ => none
  | m + 1, v0_3 => f45_0b k (f45_0d k K x0 v0_0 v0_1 v0_2 v0_4 v0_5 v0_6 v0_7 v0_8 v0_9 v0_10 v0_11 v0_12 v0_13 v0_14 v0_15 v0_16 v0_17 v0_18 v0_19 v0_20 v0_21 v0_22 v0_23 v0_24 m) K x0 v0_0 v0_1 v0_2 v0_4 v0_5 v0_6 v0_7 v0_8 v0_9 v0_10 v0_11 v0_12 v0_13 v0_14 v0_15 v0_16 v0_17 v0_18 v0_19 v0_20 v0_21 v0_22 v0_23 v0_24 v0_3
theorem f45_0x {R : Type} : ∃ f, f = @f45_0d R := ⟨_, rfl⟩
noncomputable def f45_0 {R : Type} := Classical.choose (f45_0x (R := R))
theorem f45_0_def {R : Type} : @f45_0 R = @f45_0d R := Classical.choose_spec f45_0x
noncomputable def f45_1000029d {R : Type} (k : Nat) (xN : List (List Int) → Option R) (v29_0 : List ((Bool × (Bool × (Bool × (Bool × (Int × Unit))))))) (v29_1 : Int) (v29_2 : Int) (v29_3 : Bool) (v29_4 : Int) (v29_5 : Int) (v29_6 : Bool) (v29_7 : Bool) (v29_8 : Bool) (v29_9 : Int) (v29_10 : Int) (v29_11 : Int) (v29_12 : List (List Int)) (v29_13 : Int) (v29_14 : Bool) (v29_15 : Int) (v29_16 : Int) (v29_17 : Bool) (v29_18 : Bool) (v29_19 : Bool) (v29_20 : Int) (v29_21 : Int) (v29_22 : Int) (v29_23 : Int) (v29_24 : Bool) (v29_25 : List (List Int)) (v29_26 : Bool) (v29_27 : Bool) (v29_28 : Bool) (v29_29 : Bool) (v29_30 : Int) (v29_31 : Int) (v29_32 : Int) (v29_33 : List Int) : Option R :=
  (bif v29_3 then (bif decide (v29_25.length + ([v29_33] : List (List Int)).length ≤ LIM 24) then (xN (v29_25 ++ ([v29_33] : List (List Int)))) else none) else (xN v29_25))
theorem f45_1000029x {R : Type} : ∃ f, f = @f45_1000029d R := ⟨_, rfl⟩
noncomputable def f45_1000029 {R : Type} := Classical.choose (f45_1000029x (R := R))
theorem f45_1000029_def {R : Type} : @f45_1000029 R = @f45_1000029d R := Classical.choose_spec f45_1000029x
noncomputable def f45_1000024d {R : Type} (k : Nat) (K : Int → Int → Bool → Bool → Bool → Int → Int → Int → List (List Int) → Int → Bool → Int → List (List Int) → Option R) (xN : Int → Int → Bool → Bool → Bool → Int → List (List Int) → Option R) (v24_0 : List ((Bool × (Bool × (Bool × (Bool × (Int × Unit))))))) (v24_1 : Int) (v24_2 : Int) (v24_3 : Bool) (v24_4 : Int) (v24_5 : Int) (v24_6 : Bool) (v24_7 : Bool) (v24_8 : Bool) (v24_9 : Int) (v24_10 : Int) (v24_11 : Int) (v24_12 : List (List Int)) (v24_13 : Int) (v24_14 : Bool) (v24_15 : Int) (v24_16 : Int) (v24_17 : Bool) (v24_18 : Bool) (v24_19 : Bool) (v24_20 : Int) (v24_21 : Int) (v24_22 : Int) (v24_23 : Int) (v24_24 : Bool) (v24_25 : List (List Int)) (v24_26 : Bool) (v24_27 : Bool) (v24_28 : Bool) (v24_29 : Bool) (v24_30 : Int) (v24_31 : Int) (v24_32 : Int) (v24_33 : List Int) : Option R :=
  (bif v24_3 then (f67 k v24_4 v24_5 v24_6 v24_7 v24_8 v24_9 v24_31 v24_32 v24_33 (fun r53250_0 r53250_1 r53250_2 r53250_3 r53250_4 r53250_5 r53250_6 => (bif decide (r53250_5 > (1000000 : Int)) then (K (0 : Int) (0 : Int) false false false (0 : Int) (0 : Int) (0 : Int) ([] : List (List Int)) (0 : Int) false (16 : Int) ([] : List (List Int))) else (f45_1000029 k (fun y29_N_24 => (xN r53250_0 r53250_1 r53250_2 r53250_3 r53250_4 r53250_5 y29_N_24)) v24_0 v24_1 v24_2 (r53250_6 == (1 : Int)) r53250_0 r53250_1 r53250_2 r53250_3 r53250_4 r53250_5 v24_10 v24_11 v24_12 v24_13 v24_14 v24_15 v24_16 v24_17 v24_18 v24_19 v24_20 v24_21 v24_22 v24_23 v24_24 v24_25 v24_26 v24_27 v24_28 v24_29 v24_30 v24_31 v24_32 v24_33)))) else (xN v24_4 v24_5 v24_6 v24_7 v24_8 v24_9 v24_25))
theorem f45_1000024x {R : Type} : ∃ f, f = @f45_1000024d R := ⟨_, rfl⟩
noncomputable def f45_1000024 {R : Type} := Classical.choose (f45_1000024x (R := R))
theorem f45_1000024_def {R : Type} : @f45_1000024 R = @f45_1000024d R := Classical.choose_spec f45_1000024x
noncomputable def f45_1000020d {R : Type} (k : Nat) (K : Int → Int → Bool → Bool → Bool → Int → Int → Int → List (List Int) → Int → Bool → Int → List (List Int) → Option R) (xN : Int → Int → Bool → Bool → Bool → Int → Int → Int → List (List Int) → Int → Bool → List (List Int) → Option R) (v20_0 : List ((Bool × (Bool × (Bool × (Bool × (Int × Unit))))))) (v20_1 : Int) (v20_2 : Int) (v20_3 : Bool) (v20_4 : Int) (v20_5 : Int) (v20_6 : Bool) (v20_7 : Bool) (v20_8 : Bool) (v20_9 : Int) (v20_10 : Int) (v20_11 : Int) (v20_12 : List (List Int)) (v20_13 : Int) (v20_14 : Bool) (v20_15 : Int) (v20_16 : Int) (v20_17 : Bool) (v20_18 : Bool) (v20_19 : Bool) (v20_20 : Int) (v20_21 : Int) (v20_22 : Int) (v20_23 : Int) (v20_24 : Bool) (v20_25 : List (List Int)) (v20_26 : Bool) (v20_27 : Bool) (v20_28 : Bool) (v20_29 : Bool) (v20_30 : Int) : Option R :=
  (bif v20_3 then (f76 k v20_10 v20_11 v20_12 v20_13 v20_14 (fun r47105_0 r47105_1 r47105_2 r47105_3 r47105_4 r47105_5 r47105_6 r47105_7 r47105_8 => (bif (r47105_7 == true) then (f45_1000024 k K (fun y24_N_3 y24_N_4 y24_N_5 y24_N_6 y24_N_7 y24_N_8 y24_N_24 => (xN y24_N_3 y24_N_4 y24_N_5 y24_N_6 y24_N_7 y24_N_8 r47105_0 r47105_1 r47105_2 r47105_3 r47105_4 y24_N_24)) v20_0 v20_1 v20_2 (!v20_27) v20_4 v20_5 v20_6 v20_7 v20_8 v20_9 r47105_0 r47105_1 r47105_2 r47105_3 r47105_4 v20_15 v20_16 v20_17 v20_18 v20_19 v20_20 v20_21 v20_22 v20_23 v20_24 v20_25 v20_26 v20_27 v20_28 v20_29 v20_30 r47105_5 r47105_6 r47105_8) else (f45_1000024 k K (fun y24_N_3 y24_N_4 y24_N_5 y24_N_6 y24_N_7 y24_N_8 y24_N_24 => (xN y24_N_3 y24_N_4 y24_N_5 y24_N_6 y24_N_7 y24_N_8 r47105_0 r47105_1 r47105_2 r47105_3 r47105_4 y24_N_24)) v20_0 v20_1 v20_2 false v20_4 v20_5 v20_6 v20_7 v20_8 v20_9 r47105_0 r47105_1 r47105_2 r47105_3 r47105_4 v20_15 v20_16 v20_17 v20_18 v20_19 v20_20 v20_21 v20_22 v20_23 v20_24 v20_25 v20_26 v20_27 v20_28 v20_29 v20_30 r47105_5 r47105_6 r47105_8)))) else (xN v20_4 v20_5 v20_6 v20_7 v20_8 v20_9 v20_10 v20_11 v20_12 v20_13 v20_14 v20_25))
theorem f45_1000020x {R : Type} : ∃ f, f = @f45_1000020d R := ⟨_, rfl⟩
noncomputable def f45_1000020 {R : Type} := Classical.choose (f45_1000020x (R := R))
theorem f45_1000020_def {R : Type} : @f45_1000020 R = @f45_1000020d R := Classical.choose_spec f45_1000020x
noncomputable def f45_1000031d {R : Type} (k : Nat) (xN : Bool → Option R) (v31_0 : List ((Bool × (Bool × (Bool × (Bool × (Int × Unit))))))) (v31_1 : Int) (v31_2 : Int) (v31_3 : Bool) (v31_4 : Int) (v31_5 : Int) (v31_6 : Bool) (v31_7 : Bool) (v31_8 : Bool) (v31_9 : Int) (v31_10 : Int) (v31_11 : Int) (v31_12 : List (List Int)) (v31_13 : Int) (v31_14 : Bool) (v31_15 : Int) (v31_16 : Int) (v31_17 : Bool) (v31_18 : Bool) (v31_19 : Bool) (v31_20 : Int) (v31_21 : Int) (v31_22 : Int) (v31_23 : Int) (v31_24 : Bool) (v31_25 : List (List Int)) (v31_26 : Bool) (v31_27 : Bool) (v31_28 : Bool) (v31_29 : Bool) (v31_30 : Int) : Option R :=
  (bif v31_3 then (xN (v31_30 == (2 : Int))) else (xN v31_8))
theorem f45_1000031x {R : Type} : ∃ f, f = @f45_1000031d R := ⟨_, rfl⟩
noncomputable def f45_1000031 {R : Type} := Classical.choose (f45_1000031x (R := R))
theorem f45_1000031_def {R : Type} : @f45_1000031 R = @f45_1000031d R := Classical.choose_spec f45_1000031x
noncomputable def f45_1000033d {R : Type} (k : Nat) (xN : Int → Int → List (List Int) → Int → Bool → Option R) (v33_0 : List ((Bool × (Bool × (Bool × (Bool × (Int × Unit))))))) (v33_1 : Int) (v33_2 : Int) (v33_3 : Bool) (v33_4 : Int) (v33_5 : Int) (v33_6 : Bool) (v33_7 : Bool) (v33_8 : Bool) (v33_9 : Int) (v33_10 : Int) (v33_11 : Int) (v33_12 : List (List Int)) (v33_13 : Int) (v33_14 : Bool) (v33_15 : Int) (v33_16 : Int) (v33_17 : Bool) (v33_18 : Bool) (v33_19 : Bool) (v33_20 : Int) (v33_21 : Int) (v33_22 : Int) (v33_23 : Int) (v33_24 : Bool) (v33_25 : List (List Int)) : Option R :=
  (bif v33_3 then (f69 k v33_4 v33_5 v33_6 v33_7 v33_8 v33_9 (fun r69634_0 r69634_1 r69634_2 r69634_3 => (f78 k v33_10 v33_11 v33_12 v33_13 v33_14 r69634_0 r69634_1 r69634_2 r69634_3 (fun r69635_0 r69635_1 r69635_2 r69635_3 r69635_4 => (xN r69635_0 r69635_1 r69635_2 r69635_3 r69635_4))))) else (xN v33_10 v33_11 v33_12 v33_13 v33_14))
theorem f45_1000033x {R : Type} : ∃ f, f = @f45_1000033d R := ⟨_, rfl⟩
noncomputable def f45_1000033 {R : Type} := Classical.choose (f45_1000033x (R := R))
theorem f45_1000033_def {R : Type} : @f45_1000033 R = @f45_1000033d R := Classical.choose_spec f45_1000033x
noncomputable def f45_2b {R : Type} (k : Nat) (rec : Int → Int → Int → Bool → Bool → Bool → Int → Int → Int → List (List Int) → Int → Bool → List (List Int) → Option R) (K : Int → Int → Bool → Bool → Bool → Int → Int → Int → List (List Int) → Int → Bool → Int → List (List Int) → Option R) (x2 : Int → Int → Bool → Bool → Bool → Int → Int → Int → List (List Int) → Int → Bool → List (List Int) → Option R) (v2_0 : List ((Bool × (Bool × (Bool × (Bool × (Int × Unit))))))) (v2_1 : Int) (v2_14 : Int) (v2_15 : Int) (v2_16 : Bool) (v2_17 : Bool) (v2_18 : Bool) (v2_19 : Int) (v2_20 : Int) (v2_21 : Int) (v2_22 : Int) (v2_23 : Bool) (v2_2 : Int) (v2_3 : Int) (v2_4 : Int) (v2_5 : Bool) (v2_6 : Bool) (v2_7 : Bool) (v2_8 : Int) (v2_9 : Int) (v2_10 : Int) (v2_11 : List (List Int)) (v2_12 : Int) (v2_13 : Bool) (v2_24 : List (List Int)) : Option R :=
  (bif decide (v2_2 < v2_1) then (bif (decide ((0 : Int) ≤ v2_2) && decide (v2_2 < (v2_0.length : Int))) then (f45_1000020 k K (fun y20_N_3 y20_N_4 y20_N_5 y20_N_6 y20_N_7 y20_N_8 y20_N_9 y20_N_10 y20_N_11 y20_N_12 y20_N_13 y20_N_24 => (f45_1000031 k (fun y31_N_7 => (bif ((((v2_0.getD (Int.toNat v2_2) (false, (false, (false, (false, ((0 : Int), ())))))).2).2).1 == true) then (f45_1000033 k (fun y33_N_9 y33_N_10 y33_N_11 y33_N_12 y33_N_13 => (rec (IntKind.i64.wrap (v2_2 + (1 : Int))) y20_N_3 y20_N_4 y20_N_5 y20_N_6 y31_N_7 y20_N_8 y33_N_9 y33_N_10 y33_N_11 y33_N_12 y33_N_13 y20_N_24)) v2_0 v2_1 v2_2 (!((((v2_0.getD (Int.toNat v2_2) (false, (false, (false, (false, ((0 : Int), ())))))).2).2).2).1) y20_N_3 y20_N_4 y20_N_5 y20_N_6 y31_N_7 y20_N_8 y20_N_9 y20_N_10 y20_N_11 y20_N_12 y20_N_13 v2_14 v2_15 v2_16 v2_17 v2_18 v2_19 v2_20 v2_21 v2_22 v2_23 y20_N_24) else (f45_1000033 k (fun y33_N_9 y33_N_10 y33_N_11 y33_N_12 y33_N_13 => (rec (IntKind.i64.wrap (v2_2 + (1 : Int))) y20_N_3 y20_N_4 y20_N_5 y20_N_6 y31_N_7 y20_N_8 y33_N_9 y33_N_10 y33_N_11 y33_N_12 y33_N_13 y20_N_24)) v2_0 v2_1 v2_2 false y20_N_3 y20_N_4 y20_N_5 y20_N_6 y31_N_7 y20_N_8 y20_N_9 y20_N_10 y20_N_11 y20_N_12 y20_N_13 v2_14 v2_15 v2_16 v2_17 v2_18 v2_19 v2_20 v2_21 v2_22 v2_23 y20_N_24))) v2_0 v2_1 v2_2 ((((((v2_0.getD (Int.toNat v2_2) (false, (false, (false, (false, ((0 : Int), ())))))).2).2).2).2).1 != (0 : Int)) y20_N_3 y20_N_4 y20_N_5 y20_N_6 y20_N_7 y20_N_8 y20_N_9 y20_N_10 y20_N_11 y20_N_12 y20_N_13 v2_14 v2_15 v2_16 v2_17 v2_18 v2_19 v2_20 v2_21 v2_22 v2_23 y20_N_24 ((v2_0.getD (Int.toNat v2_2) (false, (false, (false, (false, ((0 : Int), ())))))).1) (((v2_0.getD (Int.toNat v2_2) (false, (false, (false, (false, ((0 : Int), ())))))).2).1) ((((v2_0.getD (Int.toNat v2_2) (false, (false, (false, (false, ((0 : Int), ())))))).2).2).1) (((((v2_0.getD (Int.toNat v2_2) (false, (false, (false, (false, ((0 : Int), ())))))).2).2).2).1) ((((((v2_0.getD (Int.toNat v2_2) (false, (false, (false, (false, ((0 : Int), ())))))).2).2).2).2).1))) v2_0 v2_1 v2_2 ((v2_0.getD (Int.toNat v2_2) (false, (false, (false, (false, ((0 : Int), ())))))).1) v2_3 v2_4 v2_5 v2_6 v2_7 v2_8 v2_9 v2_10 v2_11 v2_12 v2_13 v2_14 v2_15 v2_16 v2_17 v2_18 v2_19 v2_20 v2_21 v2_22 v2_23 v2_24 ((v2_0.getD (Int.toNat v2_2) (false, (false, (false, (false, ((0 : Int), ())))))).1) (((v2_0.getD (Int.toNat v2_2) (false, (false, (false, (false, ((0 : Int), ())))))).2).1) ((((v2_0.getD (Int.toNat v2_2) (false, (false, (false, (false, ((0 : Int), ())))))).2).2).1) (((((v2_0.getD (Int.toNat v2_2) (false, (false, (false, (false, ((0 : Int), ())))))).2).2).2).1) ((((((v2_0.getD (Int.toNat v2_2) (false, (false, (false, (false, ((0 : Int), ())))))).2).2).2).2).1)) else none) else (x2 v2_3 v2_4 v2_5 v2_6 v2_7 v2_8 v2_9 v2_10 v2_11 v2_12 v2_13 v2_24))
noncomputable def f45_2d {R : Type} (k : Nat) (K : Int → Int → Bool → Bool → Bool → Int → Int → Int → List (List Int) → Int → Bool → Int → List (List Int) → Option R) (x2 : Int → Int → Bool → Bool → Bool → Int → Int → Int → List (List Int) → Int → Bool → List (List Int) → Option R) (v2_0 : List ((Bool × (Bool × (Bool × (Bool × (Int × Unit))))))) (v2_1 : Int) (v2_14 : Int) (v2_15 : Int) (v2_16 : Bool) (v2_17 : Bool) (v2_18 : Bool) (v2_19 : Int) (v2_20 : Int) (v2_21 : Int) (v2_22 : Int) (v2_23 : Bool) : Nat → Int → Int → Int → Bool → Bool → Bool → Int → Int → Int → List (List Int) → Int → Bool → List (List Int) → Option R
  | 0, _, _, _, _, _, _, _, _, _, _, _, _, _ => none
  | m + 1, v2_2, v2_3, v2_4, v2_5, v2_6, v2_7, v2_8, v2_9, v2_10, v2_11, v2_12, v2_13, v2_24 => f45_2b k (f45_2d k K x2 v2_0 v2_1 v2_14 v2_15 v2_16 v2_17 v2_18 v2_19 v2_20 v2_21 v2_22 v2_23 m) K x2 v2_0 v2_1 v2_14 v2_15 v2_16 v2_17 v2_18 v2_19 v2_20 v2_21 v2_22 v2_23 v2_2 v2_3 v2_4 v2_5 v2_6 v2_7 v2_8 v2_9 v2_10 v2_11 v2_12 v2_13 v2_24
theorem f45_2x {R : Type} : ∃ f, f = @f45_2d R := ⟨_, rfl⟩
noncomputable def f45_2 {R : Type} := Classical.choose (f45_2x (R := R))
theorem f45_2_def {R : Type} : @f45_2 R = @f45_2d R := Classical.choose_spec f45_2x
noncomputable def f45d {R : Type} (k : Nat) (a0 : Int) (a1 : Int) (a2 : Bool) (a3 : Bool) (a4 : Bool) (a5 : Int) (a6 : Int) (a7 : Int) (a8 : List (List Int)) (a9 : Int) (a10 : Bool) (a11 : List ((Bool × (Bool × (Bool × (Bool × (Int × Unit))))))) (K : Int → Int → Bool → Bool → Bool → Int → Int → Int → List (List Int) → Int → Bool → Int → List (List Int) → Option R) : Option R := match k with
  | 0 => none
  | k + 1 => (f30 k a0 a1 a2 a3 a4 a5 (fun r4097_0 => (bif (r4097_0 != (0 : Int)) then (K (0 : Int) (0 : Int) false false false (0 : Int) (0 : Int) (0 : Int) ([] : List (List Int)) (0 : Int) false r4097_0 ([] : List (List Int))) else (f36 k a6 a7 a8 a9 a10 (fun r10241_0 => (bif (r10241_0 != (0 : Int)) then (K (0 : Int) (0 : Int) false false false (0 : Int) (0 : Int) (0 : Int) ([] : List (List Int)) (0 : Int) false r10241_0 ([] : List (List Int))) else (bif decide ((a11.length : Int) > (2000 : Int)) then (K (0 : Int) (0 : Int) false false false (0 : Int) (0 : Int) (0 : Int) ([] : List (List Int)) (0 : Int) false (2 : Int) ([] : List (List Int))) else (f45_0 k K (f45_2 k K (fun y2_2_0 y2_2_1 y2_2_2 y2_2_3 y2_2_4 y2_2_5 y2_2_6 y2_2_7 y2_2_8 y2_2_9 y2_2_10 y2_2_21 => (K y2_2_0 y2_2_1 y2_2_2 y2_2_3 y2_2_4 y2_2_5 y2_2_6 y2_2_7 y2_2_8 y2_2_9 y2_2_10 (0 : Int) y2_2_21)) a11 (a11.length : Int) (0 : Int) (0 : Int) false false false (0 : Int) (0 : Int) (0 : Int) (0 : Int) false k (0 : Int) a0 a1 a2 a3 a4 a5 a6 a7 a8 a9 a10 ([] : List (List Int))) a11 a11 (a11.length : Int) a0 a1 a2 a3 a4 a5 a6 a7 a8 a9 a10 (0 : Int) (0 : Int) false false false (0 : Int) (0 : Int) (0 : Int) (0 : Int) false k (0 : Int)))))))))
theorem f45x {R : Type} : ∃ f, f = @f45d R := ⟨_, rfl⟩
noncomputable def f45 {R : Type} := Classical.choose (f45x (R := R))
theorem f45_def {R : Type} : @f45 R = @f45d R := Classical.choose_spec f45x
noncomputable def f43_0b {R : Type} (k : Nat) (rec : Int → Int → Int → Bool → Bool → Bool → Int → Int → Int → List (List Int) → Int → Bool → Option R) (K : Int → Bool → Int → Option R) (v0_0 : Int) (v0_1 : Int) (v0_2 : Int) (v0_3 : Int) (v0_4 : Bool) (v0_5 : Bool) (v0_6 : Bool) (v0_7 : Int) (v0_8 : Int) (v0_9 : Int) (v0_10 : List (List Int)) (v0_11 : Int) (v0_12 : Bool) : Option R :=
  (bif ((v0_10.length : Int) == (0 : Int)) then (K v0_1 true (0 : Int)) else (bif (v0_1 == v0_0) then (K (0 : Int) false (0 : Int)) else (f45 k v0_2 v0_3 v0_4 v0_5 v0_6 v0_7 v0_8 v0_9 v0_10 v0_11 v0_12 ([(true, (false, (true, (false, ((0 : Int), ())))))] : List (Bool × (Bool × (Bool × (Bool × (Int × Unit)))))) (fun r34820_0 r34820_1 r34820_2 r34820_3 r34820_4 r34820_5 r34820_6 r34820_7 r34820_8 r34820_9 r34820_10 r34820_11 r34820_12 => (bif (r34820_11 != (0 : Int)) then (K (0 : Int) false r34820_11) else (rec (IntKind.i64.wrap (v0_1 + (1 : Int))) r34820_0 r34820_1 r34820_2 r34820_3 r34820_4 r34820_5 r34820_6 r34820_7 r34820_8 r34820_9 r34820_10))))))
noncomputable def f43_0d {R : Type} (k : Nat) (K : Int → Bool → Int → Option R) (v0_0 : Int) : Nat → Int → Int → Int → Bool → Bool → Bool → Int → Int → Int → List (List Int) → Int → Bool → Option R
  | 0, _, _, _, _, _, _, _, _, _, _, _, _ => none
  | m + 1, v0_1, v0_2, v0_3, v0_4, v0_5, v0_6, v0_7, v0_8, v0_9, v0_10, v0_11, v0_12 => f43_0b k (f43_0d k K v0_0 m) K v0_0 v0_1 v0_2 v0_3 v0_4 v0_5 v0_6 v0_7 v0_8 v0_9 v0_10 v0_11 v0_12
theorem f43_0x {R : Type} : ∃ f, f = @f43_0d R := ⟨_, rfl⟩
noncomputable def f43_0 {R : Type} := Classical.choose (f43_0x (R := R))
theorem f43_0_def {R : Type} : @f43_0 R = @f43_0d R := Classical.choose_spec f43_0x
noncomputable def f43d {R : Type} (k : Nat) (a0 : Int) (a1 : Int) (a2 : Bool) (a3 : Bool) (a4 : Bool) (a5 : Int) (a6 : Int) (a7 : Int) (a8 : List (List Int)) (a9 : Int) (a10 : Bool) (a11 : Int) (K : Int → Bool → Int → Option R) : Option R := match k with
  | 0 => none
  | k + 1 => (f30 k a0 a1 a2 a3 a4 a5 (fun r4097_0 => (bif (r4097_0 != (0 : Int)) then (K (0 : Int) false r4097_0) else (f36 k a6 a7 a8 a9 a10 (fun r10241_0 => (bif (r10241_0 != (0 : Int)) then (K (0 : Int) false r10241_0) else (f63 k a11 (0 : Int) (2000 : Int) (fun r16385_0 => (bif (!r16385_0) then (K (0 : Int) false (1 : Int)) else (f43_0 k K a11 k (0 : Int) a0 a1 a2 a3 a4 a5 a6 a7 a8 a9 a10))))))))))
theorem f43x {R : Type} : ∃ f, f = @f43d R := ⟨_, rfl⟩
noncomputable def f43 {R : Type} := Classical.choose (f43x (R := R))
theorem f43_def {R : Type} : @f43 R = @f43d R := Classical.choose_spec f43x
noncomputable def f8d {R : Type} (k : Nat) (a0 : Int) (a1 : Int) (a2 : Bool) (a3 : Bool) (a4 : Bool) (a5 : Int) (a6 : Int) (a7 : Int) (a8 : List (List Int)) (a9 : Int) (a10 : Bool) (a11 : Int) (K : Bool → Option R) : Option R := match k with
  | 0 => none
  | k + 1 => (f42 k a0 a1 a2 a3 a4 a5 a6 a7 a8 a9 a10 a11 (fun r4099_0 r4099_1 r4099_2 => (f43 k a0 a1 a2 a3 a4 a5 a6 a7 a8 a9 a10 a11 (fun r6147_0 r6147_1 r6147_2 => (bif ((r4099_2 == r6147_2) == true) then (bif ((r4099_0 == r6147_0) == true) then (bif ((r4099_1 == r6147_1) == true) then (f21 k (fun r8206_0 => (K r8206_0))) else (K false)) else (K false)) else (K false))))))
theorem f8x {R : Type} : ∃ f, f = @f8d R := ⟨_, rfl⟩
noncomputable def f8 {R : Type} := Classical.choose (f8x (R := R))
theorem f8_def {R : Type} : @f8 R = @f8d R := Classical.choose_spec f8x
noncomputable def f81d {R : Type} (k : Nat) (a0 : Bool) (a1 : Bool) (a2 : Bool) (a3 : Bool) (a4 : Int) (K : Bool → Option R) : Option R := match k with
  | 0 => none
  | k + 1 => (f62 k a4 (0 : Int) (2 : Int) (fun r4098_0 => (K (!r4098_0))))
theorem f81x {R : Type} : ∃ f, f = @f81d R := ⟨_, rfl⟩
noncomputable def f81 {R : Type} := Classical.choose (f81x (R := R))
theorem f81_def {R : Type} : @f81 R = @f81d R := Classical.choose_spec f81x
noncomputable def f95_0b {R : Type} (k : Nat) (rec : Int → Option R) (K : Int → Option R) (x0 : Option R) (v0_0 : List ((Bool × (Bool × (Bool × (Bool × (Int × Unit))))))) (v0_1 : Int) (v0_2 : Int) : Option R :=
  (bif decide (v0_2 < v0_1) then (bif (decide ((0 : Int) ≤ v0_2) && decide (v0_2 < (v0_0.length : Int))) then (f81 k ((v0_0.getD (Int.toNat v0_2) (false, (false, (false, (false, ((0 : Int), ())))))).1) (((v0_0.getD (Int.toNat v0_2) (false, (false, (false, (false, ((0 : Int), ())))))).2).1) ((((v0_0.getD (Int.toNat v0_2) (false, (false, (false, (false, ((0 : Int), ())))))).2).2).1) (((((v0_0.getD (Int.toNat v0_2) (false, (false, (false, (false, ((0 : Int), ())))))).2).2).2).1) ((((((v0_0.getD (Int.toNat v0_2) (false, (false, (false, (false, ((0 : Int), ())))))).2).2).2).2).1) (fun r10245_0 => (bif r10245_0 then (K v0_2) else (rec (IntKind.i64.wrap (v0_2 + (1 : Int))))))) else none) else x0)
noncomputable def f95_0d {R : Type} (k : Nat) (K : Int → Option R) (x0 : Option R) (v0_0 : List ((Bool × (Bool × (Bool × (Bool × (Int × Unit))))))) (v0_1 : Int) : Nat → Int → Option R
  | 0, _ => none
  | m + 1, v0_2 => f95_0b k (f95_0d k K x0 v0_0 v0_1 m) K x0 v0_0 v0_1 v0_2
theorem f95_0x {R : Type} : ∃ f, f = @f95_0d R := ⟨_, rfl⟩
noncomputable def f95_0 {R : Type} := Classical.choose (f95_0x (R := R))
theorem f95_0_def {R : Type} : @f95_0 R = @f95_0d R := Classical.choose_spec f95_0x
noncomputable def f95d {R : Type} (k : Nat) (a0 : List ((Bool × (Bool × (Bool × (Bool × (Int × Unit))))))) (K : Int → Option R) : Option R := match k with
  | 0 => none
  | k + 1 => (f95_0 k K (K (-1 : Int)) a0 (a0.length : Int) k (0 : Int))
theorem f95x {R : Type} : ∃ f, f = @f95d R := ⟨_, rfl⟩
noncomputable def f95 {R : Type} := Classical.choose (f95x (R := R))
theorem f95_def {R : Type} : @f95 R = @f95d R := Classical.choose_spec f95x
noncomputable def f80d {R : Type} (k : Nat) (a0 : List ((Bool × (Bool × (Bool × (Bool × (Int × Unit))))))) (K : Bool → Option R) : Option R := match k with
  | 0 => none
  | k + 1 => (f95 k a0 (fun r4098_0 => (K (decide (r4098_0 ≥ (0 : Int))))))
theorem f80x {R : Type} : ∃ f, f = @f80d R := ⟨_, rfl⟩
noncomputable def f80 {R : Type} := Classical.choose (f80x (R := R))
theorem f80_def {R : Type} : @f80 R = @f80d R := Classical.choose_spec f80x
noncomputable def f44_1000003d {R : Type} (k : Nat) (xN : Int → Option R) (v3_0 : List ((Bool × (Bool × (Bool × (Bool × (Int × Unit))))))) (v3_1 : Int) (v3_2 : Bool) (v3_3 : Int) (v3_4 : Int) (v3_5 : Bool) (v3_6 : Bool) (v3_7 : Bool) (v3_8 : Int) (v3_9 : Int) (v3_10 : Int) (v3_11 : List (List Int)) (v3_12 : Int) (v3_13 : Bool) (v3_14 : Int) (v3_15 : Int) (v3_16 : Bool) (v3_17 : Bool) (v3_18 : Bool) (v3_19 : Int) (v3_20 : Int) (v3_21 : Int) (v3_22 : Int) (v3_23 : Bool) : Option R :=
  (bif v3_2 then (xN (2 : Int)) else (xN v3_1))
theorem f44_1000003x {R : Type} : ∃ f, f = @f44_1000003d R := ⟨_, rfl⟩
noncomputable def f44_1000003 {R : Type} := Classical.choose (f44_1000003x (R := R))
theorem f44_1000003_def {R : Type} : @f44_1000003 R = @f44_1000003d R := Classical.choose_spec f44_1000003x
noncomputable def f44_1000005d {R : Type} (k : Nat) (xN : Int → Option R) (v5_0 : List ((Bool × (Bool × (Bool × (Bool × (Int × Unit))))))) (v5_1 : Int) (v5_2 : Bool) (v5_3 : Int) (v5_4 : Int) (v5_5 : Bool) (v5_6 : Bool) (v5_7 : Bool) (v5_8 : Int) (v5_9 : Int) (v5_10 : Int) (v5_11 : List (List Int)) (v5_12 : Int) (v5_13 : Bool) (v5_14 : Int) (v5_15 : Int) (v5_16 : Bool) (v5_17 : Bool) (v5_18 : Bool) (v5_19 : Int) (v5_20 : Int) (v5_21 : Int) (v5_22 : Int) (v5_23 : Bool) : Option R :=
  (bif v5_2 then (xN (1 : Int)) else (xN v5_1))
theorem f44_1000005x {R : Type} : ∃ f, f = @f44_1000005d R := ⟨_, rfl⟩
noncomputable def f44_1000005 {R : Type} := Classical.choose (f44_1000005x (R := R))
theorem f44_1000005_def {R : Type} : @f44_1000005 R = @f44_1000005d R := Classical.choose_spec f44_1000005x
noncomputable def f44_0b {R : Type} (k : Nat) (rec : Int → Int → Int → Int → Bool → Bool → Bool → Int → Int → Int → List (List Int) → Int → Bool → List (List Int) → Option R) (x0 : Int → Int → Int → Bool → Bool → Bool → Int → Int → Int → List (List Int) → Int → Bool → List (List Int) → Option R) (v0_0 : List ((Bool × (Bool × (Bool × (Bool × (Int × Unit))))))) (v0_3 : Int) (v0_4 : Int) (v0_5 : Bool) (v0_6 : Bool) (v0_7 : Bool) (v0_8 : Int) (v0_9 : Int) (v0_10 : Int) (v0_11 : Int) (v0_12 : Bool) (v0_1 : Int) (v0_2 : Int) (v0_13 : Int) (v0_14 : Int) (v0_15 : Bool) (v0_16 : Bool) (v0_17 : Bool) (v0_18 : Int) (v0_19 : Int) (v0_20 : Int) (v0_21 : List (List Int)) (v0_22 : Int) (v0_23 : Bool) (v0_24 : List (List Int)) : Option R :=
  (bif (decide (v0_2 < (v0_0.length : Int)) == true) then (bif (v0_1 == (0 : Int)) then (bif (decide ((0 : Int) ≤ v0_2) && decide (v0_2 < (v0_0.length : Int))) then (f79 k ((v0_0.getD (Int.toNat v0_2) (false, (false, (false, (false, ((0 : Int), ())))))).1) (((v0_0.getD (Int.toNat v0_2) (false, (false, (false, (false, ((0 : Int), ())))))).2).1) ((((v0_0.getD (Int.toNat v0_2) (false, (false, (false, (false, ((0 : Int), ())))))).2).2).1) (((((v0_0.getD (Int.toNat v0_2) (false, (false, (false, (false, ((0 : Int), ())))))).2).2).2).1) ((((((v0_0.getD (Int.toNat v0_2) (false, (false, (false, (false, ((0 : Int), ())))))).2).2).2).2).1) v0_13 v0_14 v0_15 v0_16 v0_17 v0_18 v0_19 v0_20 v0_21 v0_22 v0_23 v0_24 (fun r22533_0 r22533_1 r22533_2 r22533_3 r22533_4 r22533_5 r22533_6 r22533_7 r22533_8 r22533_9 r22533_10 r22533_11 r22533_12 => (rec r22533_0 (IntKind.i64.wrap (v0_2 + (1 : Int))) r22533_1 r22533_2 r22533_3 r22533_4 r22533_5 r22533_6 r22533_7 r22533_8 r22533_9 r22533_10 r22533_11 r22533_12))) else none) else (x0 v0_1 v0_13 v0_14 v0_15 v0_16 v0_17 v0_18 v0_19 v0_20 v0_21 v0_22 v0_23 v0_24)) else (x0 v0_1 v0_13 v0_14 v0_15 v0_16 v0_17 v0_18 v0_19 v0_20 v0_21 v0_22 v0_23 v0_24))
noncomputable def f44_0d {R : Type} (k : Nat) (x0 : Int → Int → Int → Bool → Bool → Bool → Int → Int → Int → List (List Int) → Int → Bool → List (List Int) → Option R) (v0_0 : List ((Bool × (Bool × (Bool × (Bool × (Int × Unit))))))) (v0_3 : Int) (v0_4 : Int) (v0_5 : Bool) (v0_6 : Bool) (v0_7 : Bool) (v0_8 : Int) (v0_9 : Int) (v0_10 : Int) (v0_11 : Int) (v0_12 : Bool) : Nat → Int → Int → Int → Int → Bool → Bool → Bool → Int → Int → Int → List (List Int) → Int → Bool → List (List Int) → Option R
  | 0, _, _, _, _, _, _, _, _, _, _, _, _, _, _ => none
  | m + 1, v0_1, v0_2, v0_13, v0_14, v0_15, v0_16, v0_17, v0_18, v0_19, v0_20, v0_21, v0_22, v0_23, v0_24 => f44_0b k (f44_0d k x0 v0_0 v0_3 v0_4 v0_5 v0_6 v0_7 v0_8 v0_9 v0_10 v0_11 v0_12 m) x0 v0_0 v0_3 v0_4 v0_5 v0_6 v0_7 v0_8 v0_9 v0_10 v0_11 v0_12 v0_1 v0_2 v0_13 v0_14 v0_15 v0_16 v0_17 v0_18 v0_19 v0_20 v0_21 v0_22 v0_23 v0_24
theorem f44_0x {R : Type} : ∃ f, f = @f44_0d R := ⟨_, rfl⟩
noncomputable def f44_0 {R : Type} := Classical.choose (f44_0x (R := R))
theorem f44_0_def {R : Type} : @f44_0 R = @f44_0d R := Classical.choose_spec f44_0x
noncomputable def f44d {R : Type} (k : Nat) (a0 : Int) (a1 : Int) (a2 : Bool) (a3 : Bool) (a4 : Bool) (a5 : Int) (a6 : Int) (a7 : Int) (a8 : List (List Int)) (a9 : Int) (a10 : Bool) (a11 : List ((Bool × (Bool × (Bool × (Bool × (Int × Unit))))))) (K : Int → Int → Bool → Bool → Bool → Int → Int → Int → Int → Bool → Int → List (List Int) → List (List Int) → Option R) : Option R := match k with
  | 0 => none
  | k + 1 => (f29 k a0 a1 a2 a3 a4 a5 (fun r4097_0 => (f35 k a6 a7 a8 a9 a10 (fun r4099_0 => (f65 k ([r4097_0, r4099_0] : List Int) (fun r4101_0 => (bif ((r4101_0 == (0 : Int)) == true) then (f44_1000003 k (fun y3_N_1 => (bif ((y3_N_1 == (0 : Int)) == true) then (f80 k a11 (fun r10244_0 => (f44_1000005 k (fun y5_N_1 => (f71 k a6 a7 a8 a9 a10 (fun r14338_0 r14338_1 r14338_2 r14338_3 r14338_4 => (f44_0 k (fun y0_0_0 y0_0_11 y0_0_12 y0_0_13 y0_0_14 y0_0_15 y0_0_16 y0_0_17 y0_0_18 y0_0_19 y0_0_20 y0_0_21 y0_0_22 => (bif (y0_0_0 != (0 : Int)) then (K (0 : Int) (0 : Int) false false false (0 : Int) (0 : Int) (0 : Int) (0 : Int) false y0_0_0 ([] : List (List Int)) ([] : List (List Int))) else (f71 k y0_0_17 y0_0_18 y0_0_19 y0_0_20 y0_0_21 (fun r28680_0 r28680_1 r28680_2 r28680_3 r28680_4 => (K y0_0_11 y0_0_12 y0_0_13 y0_0_14 y0_0_15 y0_0_16 r28680_0 r28680_1 r28680_2 r28680_3 (0 : Int) r28680_4 y0_0_22))))) a11 (0 : Int) (0 : Int) false false false (0 : Int) (0 : Int) (0 : Int) (0 : Int) false k y5_N_1 (0 : Int) a0 a1 a2 a3 a4 a5 r14338_0 r14338_1 r14338_4 r14338_2 r14338_3 ([] : List (List Int)))))) a11 y3_N_1 r10244_0 a0 a1 a2 a3 a4 a5 a6 a7 a8 a9 a10 (0 : Int) (0 : Int) false false false (0 : Int) (0 : Int) (0 : Int) (0 : Int) false))) else (f44_1000005 k (fun y5_N_1 => (f71 k a6 a7 a8 a9 a10 (fun r14338_0 r14338_1 r14338_2 r14338_3 r14338_4 => (f44_0 k (fun y0_0_0 y0_0_11 y0_0_12 y0_0_13 y0_0_14 y0_0_15 y0_0_16 y0_0_17 y0_0_18 y0_0_19 y0_0_20 y0_0_21 y0_0_22 => (bif (y0_0_0 != (0 : Int)) then (K (0 : Int) (0 : Int) false false false (0 : Int) (0 : Int) (0 : Int) (0 : Int) false y0_0_0 ([] : List (List Int)) ([] : List (List Int))) else (f71 k y0_0_17 y0_0_18 y0_0_19 y0_0_20 y0_0_21 (fun r28680_0 r28680_1 r28680_2 r28680_3 r28680_4 => (K y0_0_11 y0_0_12 y0_0_13 y0_0_14 y0_0_15 y0_0_16 r28680_0 r28680_1 r28680_2 r28680_3 (0 : Int) r28680_4 y0_0_22))))) a11 (0 : Int) (0 : Int) false false false (0 : Int) (0 : Int) (0 : Int) (0 : Int) false k y5_N_1 (0 : Int) a0 a1 a2 a3 a4 a5 r14338_0 r14338_1 r14338_4 r14338_2 r14338_3 ([] : List (List Int)))))) a11 y3_N_1 false a0 a1 a2 a3 a4 a5 a6 a7 a8 a9 a10 (0 : Int) (0 : Int) false false false (0 : Int) (0 : Int) (0 : Int) (0 : Int) false))) a11 r4101_0 (decide ((a11.length : Int) > (2000 : Int))) a0 a1 a2 a3 a4 a5 a6 a7 a8 a9 a10 (0 : Int) (0 : Int) false false false (0 : Int) (0 : Int) (0 : Int) (0 : Int) false) else (f44_1000003 k (fun y3_N_1 => (bif ((y3_N_1 == (0 : Int)) == true) then (f80 k a11 (fun r10244_0 => (f44_1000005 k (fun y5_N_1 => (f71 k a6 a7 a8 a9 a10 (fun r14338_0 r14338_1 r14338_2 r14338_3 r14338_4 => (f44_0 k (fun y0_0_0 y0_0_11 y0_0_12 y0_0_13 y0_0_14 y0_0_15 y0_0_16 y0_0_17 y0_0_18 y0_0_19 y0_0_20 y0_0_21 y0_0_22 => (bif (y0_0_0 != (0 : Int)) then (K (0 : Int) (0 : Int) false false false (0 : Int) (0 : Int) (0 : Int) (0 : Int) false y0_0_0 ([] : List (List Int)) ([] : List (List Int))) else (f71 k y0_0_17 y0_0_18 y0_0_19 y0_0_20 y0_0_21 (fun r28680_0 r28680_1 r28680_2 r28680_3 r28680_4 => (K y0_0_11 y0_0_12 y0_0_13 y0_0_14 y0_0_15 y0_0_16 r28680_0 r28680_1 r28680_2 r28680_3 (0 : Int) r28680_4 y0_0_22))))) a11 (0 : Int) (0 : Int) false false false (0 : Int) (0 : Int) (0 : Int) (0 : Int) false k y5_N_1 (0 : Int) a0 a1 a2 a3 a4 a5 r14338_0 r14338_1 r14338_4 r14338_2 r14338_3 ([] : List (List Int)))))) a11 y3_N_1 r10244_0 a0 a1 a2 a3 a4 a5 a6 a7 a8 a9 a10 (0 : Int) (0 : Int) false false false (0 : Int) (0 : Int) (0 : Int) (0 : Int) false))) else (f44_1000005 k (fun y5_N_1 => (f71 k a6 a7 a8 a9 a10 (fun r14338_0 r14338_1 r14338_2 r14338_3 r14338_4 => (f44_0 k (fun y0_0_0 y0_0_11 y0_0_12 y0_0_13 y0_0_14 y0_0_15 y0_0_16 y0_0_17 y0_0_18 y0_0_19 y0_0_20 y0_0_21 y0_0_22 => (bif (y0_0_0 != (0 : Int)) then (K (0 : Int) (0 : Int) false false false (0 : Int) (0 : Int) (0 : Int) (0 : Int) false y0_0_0 ([] : List (List Int)) ([] : List (List Int))) else (f71 k y0_0_17 y0_0_18 y0_0_19 y0_0_20 y0_0_21 (fun r28680_0 r28680_1 r28680_2 r28680_3 r28680_4 => (K y0_0_11 y0_0_12 y0_0_13 y0_0_14 y0_0_15 y0_0_16 r28680_0 r28680_1 r28680_2 r28680_3 (0 : Int) r28680_4 y0_0_22))))) a11 (0 : Int) (0 : Int) false false false (0 : Int) (0 : Int) (0 : Int) (0 : Int) false k y5_N_1 (0 : Int) a0 a1 a2 a3 a4 a5 r14338_0 r14338_1 r14338_4 r14338_2 r14338_3 ([] : List (List Int)))))) a11 y3_N_1 false a0 a1 a2 a3 a4 a5 a6 a7 a8 a9 a10 (0 : Int) (0 : Int) false false false (0 : Int) (0 : Int) (0 : Int) (0 : Int) false))) a11 r4101_0 false a0 a1 a2 a3 a4 a5 a6 a7 a8 a9 a10 (0 : Int) (0 : Int) false false false (0 : Int) (0 : Int) (0 : Int) (0 : Int) false))))))))
theorem f44x {R : Type} : ∃ f, f = @f44d R := ⟨_, rfl⟩
noncomputable def f44 {R : Type} := Classical.choose (f44x (R := R))
theorem f44_def {R : Type} : @f44 R = @f44d R := Classical.choose_spec f44x
noncomputable def f9d {R : Type} (k : Nat) (a0 : Int) (a1 : Int) (a2 : Bool) (a3 : Bool) (a4 : Bool) (a5 : Int) (a6 : Int) (a7 : Int) (a8 : List (List Int)) (a9 : Int) (a10 : Bool) (a11 : List ((Bool × (Bool × (Bool × (Bool × (Int × Unit))))))) (K : Bool → Option R) : Option R := match k with
  | 0 => none
  | k + 1 => (f44 k a0 a1 a2 a3 a4 a5 a6 a7 a8 a9 a10 a11 (fun r4099_0 r4099_1 r4099_2 r4099_3 r4099_4 r4099_5 r4099_6 r4099_7 r4099_8 r4099_9 r4099_10 r4099_11 r4099_12 => (f45 k a0 a1 a2 a3 a4 a5 a6 a7 a8 a9 a10 a11 (fun r6147_0 r6147_1 r6147_2 r6147_3 r6147_4 r6147_5 r6147_6 r6147_7 r6147_8 r6147_9 r6147_10 r6147_11 r6147_12 => (bif ((r4099_10 == r6147_11) == true) then (bif ((((r4099_0, (r4099_1, (r4099_2, (r4099_3, (r4099_4, (r4099_5, ())))))).1 == (r6147_0, (r6147_1, (r6147_2, (r6147_3, (r6147_4, (r6147_5, ())))))).1) && ((((r4099_0, (r4099_1, (r4099_2, (r4099_3, (r4099_4, (r4099_5, ())))))).2).1 == ((r6147_0, (r6147_1, (r6147_2, (r6147_3, (r6147_4, (r6147_5, ())))))).2).1) && (((((r4099_0, (r4099_1, (r4099_2, (r4099_3, (r4099_4, (r4099_5, ())))))).2).2).1 == (((r6147_0, (r6147_1, (r6147_2, (r6147_3, (r6147_4, (r6147_5, ())))))).2).2).1) && ((((((r4099_0, (r4099_1, (r4099_2, (r4099_3, (r4099_4, (r4099_5, ())))))).2).2).2).1 == ((((r6147_0, (r6147_1, (r6147_2, (r6147_3, (r6147_4, (r6147_5, ())))))).2).2).2).1) && (((((((r4099_0, (r4099_1, (r4099_2, (r4099_3, (r4099_4, (r4099_5, ())))))).2).2).2).2).1 == (((((r6147_0, (r6147_1, (r6147_2, (r6147_3, (r6147_4, (r6147_5, ())))))).2).2).2).2).1) && ((((((((r4099_0, (r4099_1, (r4099_2, (r4099_3, (r4099_4, (r4099_5, ())))))).2).2).2).2).2).1 == ((((((r6147_0, (r6147_1, (r6147_2, (r6147_3, (r6147_4, (r6147_5, ())))))).2).2).2).2).2).1) && true)))))) == true) then (f37 k r4099_6 r4099_7 r4099_11 r4099_8 r4099_9 r6147_6 r6147_7 r6147_8 r6147_9 r6147_10 (fun r8203_0 => (bif (r8203_0 == true) then (f46 k r4099_12 r6147_12 (fun r8208_0 => (bif (r8208_0 == true) then (f21 k (fun r8211_0 => (K r8211_0))) else (K false)))) else (K false)))) else (K false)) else (K false))))))
theorem f9x {R : Type} : ∃ f, f = @f9d R := ⟨_, rfl⟩
noncomputable def f9 {R : Type} := Classical.choose (f9x (R := R))
theorem f9_def {R : Type} : @f9 R = @f9d R := Classical.choose_spec f9x
noncomputable def f47_1000003d {R : Type} (k : Nat) (xN : Int → Option R) (v3_0 : Int) (v3_1 : Int) (v3_2 : Bool) : Option R :=
  (bif v3_2 then (xN (IntKind.i64.wrap (v3_0 + v3_1))) else (xN v3_0))
theorem f47_1000003x {R : Type} : ∃ f, f = @f47_1000003d R := ⟨_, rfl⟩
noncomputable def f47_1000003 {R : Type} := Classical.choose (f47_1000003x (R := R))
theorem f47_1000003_def {R : Type} : @f47_1000003 R = @f47_1000003d R := Classical.choose_spec f47_1000003x
noncomputable def f47d {R : Type} (k : Nat) (a0 : Int) (a1 : Int) (K : Int → Option R) : Option R := match k with
  | 0 => none
  | k + 1 => (bif (!(a1 == 0)) then (f47_1000003 k (fun y3_N_0 => (K y3_N_0)) (Int.tmod a0 a1) a1 (decide (Int.tmod a0 a1 < (0 : Int)))) else none)
theorem f47x {R : Type} : ∃ f, f = @f47d R := ⟨_, rfl⟩
noncomputable def f47 {R : Type} := Classical.choose (f47x (R := R))
theorem f47_def {R : Type} : @f47 R = @f47d R := Classical.choose_spec f47x
noncomputable def f10_1000007d {R : Type} (k : Nat) (xN : List (List Int) → Option R) (v7_0 : List ((Bool × (Bool × (Bool × (Bool × (Int × Unit))))))) (v7_1 : List Int) (v7_2 : List (List Int)) (v7_3 : Int) (v7_4 : Int) (v7_5 : Bool) (v7_6 : Int) (v7_7 : Int) (v7_8 : Bool) (v7_9 : Bool) (v7_10 : Bool) (v7_11 : Int) (v7_12 : Int) (v7_13 : Int) (v7_14 : Int) (v7_15 : Bool) (v7_16 : List (List Int)) : Option R :=
  (bif v7_5 then (bif decide (v7_16.length + ([v7_1] : List (List Int)).length ≤ LIM 24) then (xN (v7_16 ++ ([v7_1] : List (List Int)))) else none) else (xN v7_16))
theorem f10_1000007x {R : Type} : ∃ f, f = @f10_1000007d R := ⟨_, rfl⟩
noncomputable def f10_1000007 {R : Type} := Classical.choose (f10_1000007x (R := R))
theorem f10_1000007_def {R : Type} : @f10_1000007 R = @f10_1000007d R := Classical.choose_spec f10_1000007x
noncomputable def f10_0b {R : Type} (k : Nat) (rec : Int → List (List Int) → Option R) (x0 : List (List Int) → Option R) (v0_0 : List ((Bool × (Bool × (Bool × (Bool × (Int × Unit))))))) (v0_1 : List (List Int)) (v0_2 : Int) (v0_4 : Int) (v0_5 : Int) (v0_6 : Bool) (v0_7 : Bool) (v0_8 : Bool) (v0_9 : Int) (v0_10 : Int) (v0_11 : Int) (v0_12 : Int) (v0_13 : Bool) (v0_3 : Int) (v0_14 : List (List Int)) : Option R :=
  (bif decide (v0_3 < v0_2) then (bif (decide ((0 : Int) ≤ v0_3) && decide (v0_3 < (v0_1.length : Int))) then (bif (decide (v0_3 < (60 : Int)) == true) then (bif (decide (((v0_1.getD (Int.toNat v0_3) ([] : List Int)).length : Int) > (0 : Int)) == true) then (f10_1000007 k (fun y7_N_14 => (rec (IntKind.i64.wrap (v0_3 + (1 : Int))) y7_N_14)) v0_0 (v0_1.getD (Int.toNat v0_3) ([] : List Int)) v0_1 v0_2 v0_3 (decide (((v0_1.getD (Int.toNat v0_3) ([] : List Int)).length : Int) ≤ (200 : Int))) v0_4 v0_5 v0_6 v0_7 v0_8 v0_9 v0_10 v0_11 v0_12 v0_13 v0_14) else (f10_1000007 k (fun y7_N_14 => (rec (IntKind.i64.wrap (v0_3 + (1 : Int))) y7_N_14)) v0_0 (v0_1.getD (Int.toNat v0_3) ([] : List Int)) v0_1 v0_2 v0_3 false v0_4 v0_5 v0_6 v0_7 v0_8 v0_9 v0_10 v0_11 v0_12 v0_13 v0_14)) else (f10_1000007 k (fun y7_N_14 => (rec (IntKind.i64.wrap (v0_3 + (1 : Int))) y7_N_14)) v0_0 (v0_1.getD (Int.toNat v0_3) ([] : List Int)) v0_1 v0_2 v0_3 false v0_4 v0_5 v0_6 v0_7 v0_8 v0_9 v0_10 v0_11 v0_12 v0_13 v0_14)) else none) else (x0 v0_14))
noncomputable def f10_0d {R : Type} (k : Nat) (x0 : List (List Int) → Option R) (v0_0 : List ((Bool × (Bool × (Bool × (Bool × (Int × Unit))))))) (v0_1 : List (List Int)) (v0_2 : Int) (v0_4 : Int) (v0_5 : Int) (v0_6 : Bool) (v0_7 : Bool) (v0_8 : Bool) (v0_9 : Int) (v0_10 : Int) (v0_11 : Int) (v0_12 : Int) (v0_13 : Bool) : Nat → Int → List (List Int) → Option R
  | 0, _, _ => none
  | m + 1, v0_3, v0_14 => f10_0b k (f10_0d k x0 v0_0 v0_1 v0_2 v0_4 v0_5 v0_6 v0_7 v0_8 v0_9 v0_10 v0_11 v0_12 v0_13 m) x0 v0_0 v0_1 v0_2 v0_4 v0_5 v0_6 v0_7 v0_8 v0_9 v0_10 v0_11 v0_12 v0_13 v0_3 v0_14
theorem f10_0x {R : Type} : ∃ f, f = @f10_0d R := ⟨_, rfl⟩
noncomputable def f10_0 {R : Type} := Classical.choose (f10_0x (R := R))
theorem f10_0_def {R : Type} : @f10_0 R = @f10_0d R := Classical.choose_spec f10_0x
noncomputable def f10_1000014d {R : Type} (k : Nat) (xN : List (Bool × (Bool × (Bool × (Bool × (Int × Unit))))) → Option R) (v14_0 : List ((Bool × (Bool × (Bool × (Bool × (Int × Unit))))))) (v14_1 : Int) (v14_2 : Int) (v14_3 : Bool) (v14_4 : Int) (v14_5 : Int) (v14_6 : Bool) (v14_7 : Bool) (v14_8 : Bool) (v14_9 : Int) (v14_10 : Int) (v14_11 : Int) (v14_12 : Int) (v14_13 : Bool) (v14_14 : List (List Int)) (v14_15 : List (Bool × (Bool × (Bool × (Bool × (Int × Unit)))))) (v14_16 : Bool) (v14_17 : Bool) (v14_18 : Bool) (v14_19 : Bool) (v14_20 : Int) : Option R :=
  (bif v14_3 then (bif decide (v14_15.length + ([(v14_16, (v14_17, (v14_18, (v14_19, ((0 : Int), ())))))] : List (Bool × (Bool × (Bool × (Bool × (Int × Unit)))))).length ≤ LIM 16) then (xN (v14_15 ++ ([(v14_16, (v14_17, (v14_18, (v14_19, ((0 : Int), ())))))] : List (Bool × (Bool × (Bool × (Bool × (Int × Unit)))))))) else none) else (xN v14_15))
theorem f10_1000014x {R : Type} : ∃ f, f = @f10_1000014d R := ⟨_, rfl⟩
noncomputable def f10_1000014 {R : Type} := Classical.choose (f10_1000014x (R := R))
theorem f10_1000014_def {R : Type} : @f10_1000014 R = @f10_1000014d R := Classical.choose_spec f10_1000014x
noncomputable def f10_2b {R : Type} (k : Nat) (rec : Int → List (Bool × (Bool × (Bool × (Bool × (Int × Unit))))) → Option R) (x2 : List (Bool × (Bool × (Bool × (Bool × (Int × Unit))))) → Option R) (v2_0 : List ((Bool × (Bool × (Bool × (Bool × (Int × Unit))))))) (v2_1 : Int) (v2_3 : Int) (v2_4 : Int) (v2_5 : Bool) (v2_6 : Bool) (v2_7 : Bool) (v2_8 : Int) (v2_9 : Int) (v2_10 : Int) (v2_11 : Int) (v2_12 : Bool) (v2_13 : List (List Int)) (v2_2 : Int) (v2_14 : List (Bool × (Bool × (Bool × (Bool × (Int × Unit)))))) : Option R :=
  (bif decide (v2_2 < v2_1) then (bif (decide ((0 : Int) ≤ v2_2) && decide (v2_2 < (v2_0.length : Int))) then (f10_1000014 k (fun y14_N_14 => (rec (IntKind.i64.wrap (v2_2 + (1 : Int))) y14_N_14)) v2_0 v2_1 v2_2 (decide (v2_2 < (200 : Int))) v2_3 v2_4 v2_5 v2_6 v2_7 v2_8 v2_9 v2_10 v2_11 v2_12 v2_13 v2_14 ((v2_0.getD (Int.toNat v2_2) (false, (false, (false, (false, ((0 : Int), ())))))).1) (((v2_0.getD (Int.toNat v2_2) (false, (false, (false, (false, ((0 : Int), ())))))).2).1) ((((v2_0.getD (Int.toNat v2_2) (false, (false, (false, (false, ((0 : Int), ())))))).2).2).1) (((((v2_0.getD (Int.toNat v2_2) (false, (false, (false, (false, ((0 : Int), ())))))).2).2).2).1) ((((((v2_0.getD (Int.toNat v2_2) (false, (false, (false, (false, ((0 : Int), ())))))).2).2).2).2).1)) else none) else (x2 v2_14))
noncomputable def f10_2d {R : Type} (k : Nat) (x2 : List (Bool × (Bool × (Bool × (Bool × (Int × Unit))))) → Option R) (v2_0 : List ((Bool × (Bool × (Bool × (Bool × (Int × Unit))))))) (v2_1 : Int) (v2_3 : Int) (v2_4 : Int) (v2_5 : Bool) (v2_6 : Bool) (v2_7 : Bool) (v2_8 : Int) (v2_9 : Int) (v2_10 : Int) (v2_11 : Int) (v2_12 : Bool) (v2_13 : List (List Int)) : Nat → Int → List (Bool × (Bool × (Bool × (Bool × (Int × Unit))))) → Option R
  | 0, _, _ => none
  | m + 1, v2_2, v2_14 => f10_2b k (f10_2d k x2 v2_0 v2_1 v2_3 v2_4 v2_5 v2_6 v2_7 v2_8 v2_9 v2_10 v2_11 v2_12 v2_13 m) x2 v2_0 v2_1 v2_3 v2_4 v2_5 v2_6 v2_7 v2_8 v2_9 v2_10 v2_11 v2_12 v2_13 v2_2 v2_14
theorem f10_2x {R : Type} : ∃ f, f = @f10_2d R := ⟨_, rfl⟩
noncomputable def f10_2 {R : Type} := Classical.choose (f10_2x (R := R))
theorem f10_2_def {R : Type} : @f10_2 R = @f10_2d R := Classical.choose_spec f10_2x
noncomputable def f10d {R : Type} (k : Nat) (a0 : Int) (a1 : Int) (a2 : List (List Int)) (a3 : Int) (a4 : List ((Bool × (Bool × (Bool × (Bool × (Int × Unit))))))) (K : Bool → Option R) : Option R := match k with
  | 0 => none
  | k + 1 => (f47 k a0 (256 : Int) (fun r4097_0 => (f47 k a1 (100 : Int) (fun r4099_0 => (f47 k a3 (IntKind.i64.wrap ((IntKind.i64.wrap (Int.tdiv (IntKind.i64.wrap ((4 : Int) + (IntKind.i64.wrap ((2 : Int) * r4099_0)))) (2 : Int))) - (1 : Int))) (fun r6151_0 => (f10_0 k (fun y0_0_11 => (f10_2 k (fun y2_2_11 => (f44 k r4097_0 (IntKind.i64.wrap ((4 : Int) + (IntKind.i64.wrap ((2 : Int) * r4099_0)))) false false false (0 : Int) r4097_0 (0 : Int) y0_0_11 (IntKind.i64.wrap ((1 : Int) + r6151_0)) false y2_2_11 (fun r36867_0 r36867_1 r36867_2 r36867_3 r36867_4 r36867_5 r36867_6 r36867_7 r36867_8 r36867_9 r36867_10 r36867_11 r36867_12 => (bif ((r36867_10 != (0 : Int)) == false) then (bif (decide ((r36867_12.length : Int) > (y0_0_11.length : Int)) == false) then (bif (decide ((r36867_11.length : Int) > (y0_0_11.length : Int)) == false) then (bif (decide ((0 : Int) ≤ (r36867_12.length : Int)) && decide ((r36867_12.length : Int) ≤ (y0_0_11.length : Int))) then (f46 k r36867_12 ((y0_0_11.drop 0).take (Int.toNat (r36867_12.length : Int))) (fun r38938_0 => (bif (!r38938_0) then (K false) else (bif (decide (IntKind.i64.wrap ((y0_0_11.length : Int) - (r36867_11.length : Int)) ≤ (r36867_12.length : Int)) == true) then (bif ((!r36867_9) == true) then (f21 k (fun r43024_0 => (K r43024_0))) else (K false)) else (K false))))) else none) else (K false)) else (K false)) else (K false))))) a4 (a4.length : Int) r4097_0 (IntKind.i64.wrap ((4 : Int) + (IntKind.i64.wrap ((2 : Int) * r4099_0)))) false false false (0 : Int) r4097_0 (0 : Int) (IntKind.i64.wrap ((1 : Int) + r6151_0)) false y0_0_11 k (0 : Int) ([] : List ((Bool × (Bool × (Bool × (Bool × (Int × Unit))))))))) a4 a2 (a2.length : Int) r4097_0 (IntKind.i64.wrap ((4 : Int) + (IntKind.i64.wrap ((2 : Int) * r4099_0)))) false false false (0 : Int) r4097_0 (0 : Int) (IntKind.i64.wrap ((1 : Int) + r6151_0)) false k (0 : Int) ([] : List (List Int)))))))))
theorem f10x {R : Type} : ∃ f, f = @f10d R := ⟨_, rfl⟩
noncomputable def f10 {R : Type} := Classical.choose (f10x (R := R))
theorem f10_def {R : Type} : @f10 R = @f10d R := Classical.choose_spec f10x
noncomputable def f11_1000007d {R : Type} (k : Nat) (xN : List (List Int) → Option R) (v7_0 : List Int) (v7_1 : List (List Int)) (v7_2 : Int) (v7_3 : Int) (v7_4 : Bool) (v7_5 : Int) (v7_6 : Int) (v7_7 : Bool) (v7_8 : Bool) (v7_9 : Bool) (v7_10 : Int) (v7_11 : Int) (v7_12 : Int) (v7_13 : Int) (v7_14 : Bool) (v7_15 : List (List Int)) : Option R :=
  (bif v7_4 then (bif decide (v7_15.length + ([v7_0] : List (List Int)).length ≤ LIM 24) then (xN (v7_15 ++ ([v7_0] : List (List Int)))) else none) else (xN v7_15))
theorem f11_1000007x {R : Type} : ∃ f, f = @f11_1000007d R := ⟨_, rfl⟩
noncomputable def f11_1000007 {R : Type} := Classical.choose (f11_1000007x (R := R))
theorem f11_1000007_def {R : Type} : @f11_1000007 R = @f11_1000007d R := Classical.choose_spec f11_1000007x
noncomputable def f11_0b {R : Type} (k : Nat) (rec : Int → List (List Int) → Option R) (x0 : List (List Int) → Option R) (v0_0 : List (List Int)) (v0_1 : Int) (v0_3 : Int) (v0_4 : Int) (v0_5 : Bool) (v0_6 : Bool) (v0_7 : Bool) (v0_8 : Int) (v0_9 : Int) (v0_10 : Int) (v0_11 : Int) (v0_12 : Bool) (v0_2 : Int) (v0_13 : List (List Int)) : Option R :=
  (bif decide (v0_2 < v0_1) then (bif (decide ((0 : Int) ≤ v0_2) && decide (v0_2 < (v0_0.length : Int))) then (bif (decide (v0_2 < (60 : Int)) == true) then (bif (decide (((v0_0.getD (Int.toNat v0_2) ([] : List Int)).length : Int) > (0 : Int)) == true) then (f11_1000007 k (fun y7_N_13 => (rec (IntKind.i64.wrap (v0_2 + (1 : Int))) y7_N_13)) (v0_0.getD (Int.toNat v0_2) ([] : List Int)) v0_0 v0_1 v0_2 (decide (((v0_0.getD (Int.toNat v0_2) ([] : List Int)).length : Int) ≤ (200 : Int))) v0_3 v0_4 v0_5 v0_6 v0_7 v0_8 v0_9 v0_10 v0_11 v0_12 v0_13) else (f11_1000007 k (fun y7_N_13 => (rec (IntKind.i64.wrap (v0_2 + (1 : Int))) y7_N_13)) (v0_0.getD (Int.toNat v0_2) ([] : List Int)) v0_0 v0_1 v0_2 false v0_3 v0_4 v0_5 v0_6 v0_7 v0_8 v0_9 v0_10 v0_11 v0_12 v0_13)) else (f11_1000007 k (fun y7_N_13 => (rec (IntKind.i64.wrap (v0_2 + (1 : Int))) y7_N_13)) (v0_0.getD (Int.toNat v0_2) ([] : List Int)) v0_0 v0_1 v0_2 false v0_3 v0_4 v0_5 v0_6 v0_7 v0_8 v0_9 v0_10 v0_11 v0_12 v0_13)) else none) else (x0 v0_13))
noncomputable def f11_0d {R : Type} (k : Nat) (x0 : List (List Int) → Option R) (v0_0 : List (List Int)) (v0_1 : Int) (v0_3 : Int) (v0_4 : Int) (v0_5 : Bool) (v0_6 : Bool) (v0_7 : Bool) (v0_8 : Int) (v0_9 : Int) (v0_10 : Int) (v0_11 : Int) (v0_12 : Bool) : Nat → Int → List (List Int) → Option R
  | 0, _, _ => none
  | m + 1, v0_2, v0_13 => f11_0b k (f11_0d k x0 v0_0 v0_1 v0_3 v0_4 v0_5 v0_6 v0_7 v0_8 v0_9 v0_10 v0_11 v0_12 m) x0 v0_0 v0_1 v0_3 v0_4 v0_5 v0_6 v0_7 v0_8 v0_9 v0_10 v0_11 v0_12 v0_2 v0_13
theorem f11_0x {R : Type} : ∃ f, f = @f11_0d R := ⟨_, rfl⟩
noncomputable def f11_0 {R : Type} := Classical.choose (f11_0x (R := R))
theorem f11_0_def {R : Type} : @f11_0 R = @f11_0d R := Classical.choose_spec f11_0x
noncomputable def f11_2b {R : Type} (k : Nat) (rec : Int → List (Bool × (Bool × (Bool × (Bool × (Int × Unit))))) → Option R) (x2 : List (Bool × (Bool × (Bool × (Bool × (Int × Unit))))) → Option R) (v2_0 : Int) (v2_2 : Int) (v2_3 : Int) (v2_4 : Bool) (v2_5 : Bool) (v2_6 : Bool) (v2_7 : Int) (v2_8 : Int) (v2_9 : Int) (v2_10 : Int) (v2_11 : Bool) (v2_12 : List (List Int)) (v2_1 : Int) (v2_13 : List (Bool × (Bool × (Bool × (Bool × (Int × Unit)))))) : Option R :=
  (bif decide (v2_1 < v2_0) then (bif (decide ((0 : Int) ≤ v2_1) && decide (v2_1 < (v2_13.length : Int))) then (rec (IntKind.i64.wrap (v2_1 + (1 : Int))) (v2_13.set (Int.toNat v2_1) (true, (false, (true, (false, ((0 : Int), ()))))))) else none) else (x2 v2_13))
noncomputable def f11_2d {R : Type} (k : Nat) (x2 : List (Bool × (Bool × (Bool × (Bool × (Int × Unit))))) → Option R) (v2_0 : Int) (v2_2 : Int) (v2_3 : Int) (v2_4 : Bool) (v2_5 : Bool) (v2_6 : Bool) (v2_7 : Int) (v2_8 : Int) (v2_9 : Int) (v2_10 : Int) (v2_11 : Bool) (v2_12 : List (List Int)) : Nat → Int → List (Bool × (Bool × (Bool × (Bool × (Int × Unit))))) → Option R
  | 0, _, _ => none
  | m + 1, v2_1, v2_13 => f11_2b k (f11_2d k x2 v2_0 v2_2 v2_3 v2_4 v2_5 v2_6 v2_7 v2_8 v2_9 v2_10 v2_11 v2_12 m) x2 v2_0 v2_2 v2_3 v2_4 v2_5 v2_6 v2_7 v2_8 v2_9 v2_10 v2_11 v2_12 v2_1 v2_13
theorem f11_2x {R : Type} : ∃ f, f = @f11_2d R := ⟨_, rfl⟩
noncomputable def f11_2 {R : Type} := Classical.choose (f11_2x (R := R))
theorem f11_2_def {R : Type} : @f11_2 R = @f11_2d R := Classical.choose_spec f11_2x
noncomputable def f11d {R : Type} (k : Nat) (a0 : Int) (a1 : Int) (a2 : List (List Int)) (a3 : Int) (K : Bool → Option R) : Option R := match k with
  | 0 => none
  | k + 1 => (f47 k a0 (256 : Int) (fun r4097_0 => (f47 k a1 (100 : Int) (fun r4099_0 => (f47 k a3 (IntKind.i64.wrap ((IntKind.i64.wrap (Int.tdiv (IntKind.i64.wrap ((4 : Int) + (IntKind.i64.wrap ((2 : Int) * r4099_0)))) (2 : Int))) - (1 : Int))) (fun r6151_0 => (f11_0 k (fun y0_0_10 => (f42 k r4097_0 (IntKind.i64.wrap ((4 : Int) + (IntKind.i64.wrap ((2 : Int) * r4099_0)))) false false false (0 : Int) r4097_0 (0 : Int) y0_0_10 (IntKind.i64.wrap ((1 : Int) + r6151_0)) false (2000 : Int) (fun r20482_0 r20482_1 r20482_2 => (bif ((r20482_2 != (0 : Int)) == false) then (bif ((!r20482_1) == false) then (bif (r20482_0 != (y0_0_10.length : Int)) then (K false) else (bif (decide ((0 : Int) ≤ r20482_0) && (decide (r20482_0 ≤ r20482_0) && decide (r20482_0 ≤ (LIM 16 : Int)))) then (f11_2 k (fun y2_2_11 => (f44 k r4097_0 (IntKind.i64.wrap ((4 : Int) + (IntKind.i64.wrap ((2 : Int) * r4099_0)))) false false false (0 : Int) r4097_0 (0 : Int) y0_0_10 (IntKind.i64.wrap ((1 : Int) + r6151_0)) false y2_2_11 (fun r38915_0 r38915_1 r38915_2 r38915_3 r38915_4 r38915_5 r38915_6 r38915_7 r38915_8 r38915_9 r38915_10 r38915_11 r38915_12 => (bif ((r38915_10 == (0 : Int)) == true) then (bif (((r38915_11.length : Int) == (0 : Int)) == true) then (f46 k r38915_12 y0_0_10 (fun r40972_0 => (bif (r40972_0 == true) then (f21 k (fun r40975_0 => (K r40975_0))) else (K false)))) else (K false)) else (K false))))) ((List.replicate (Int.toNat r20482_0) (false, (false, (false, (false, ((0 : Int), ())))))).length : Int) r4097_0 (IntKind.i64.wrap ((4 : Int) + (IntKind.i64.wrap ((2 : Int) * r4099_0)))) false false false (0 : Int) r4097_0 (0 : Int) (IntKind.i64.wrap ((1 : Int) + r6151_0)) false y0_0_10 k (0 : Int) (List.replicate (Int.toNat r20482_0) (false, (false, (false, (false, ((0 : Int), ()))))))) else none)) else (K false)) else (K false))))) a2 (a2.length : Int) r4097_0 (IntKind.i64.wrap ((4 : Int) + (IntKind.i64.wrap ((2 : Int) * r4099_0)))) false false false (0 : Int) r4097_0 (0 : Int) (IntKind.i64.wrap ((1 : Int) + r6151_0)) false k (0 : Int) ([] : List (List Int)))))))))
theorem f11x {R : Type} : ∃ f, f = @f11d R := ⟨_, rfl⟩
noncomputable def f11 {R : Type} := Classical.choose (f11x (R := R))
theorem f11_def {R : Type} : @f11 R = @f11d R := Classical.choose_spec f11x
end Go.Proofs.Ytadkplikobhckaa.PM
