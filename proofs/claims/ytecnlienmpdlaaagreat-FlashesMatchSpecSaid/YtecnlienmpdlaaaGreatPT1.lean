import Derived.Test.YtecnlienmpdlaaaGreatPT0
set_option linter.unusedVariables false
set_option linter.unusedSimpArgs false
set_option maxRecDepth 100000
namespace Go.Proofs.YtecnlienmpdlaaaGreat.PM
open Go
noncomputable section
variable {R : Type}
def Qbs (k : Nat) (xN : Int → List BA → Oq R) (c0 : Int) (c1 c2 : Nat) (c3 : Int) (c4 : Bool) (c5 : List BA) : Oq R :=
 (bif c4 then (bif (decide (0 ≤ c3) && decide (c3 < (c2 : Int))) then (bif (decide (0 ≤ c0) && decide (c0 < (c5.length : Int))) then (xN (IntKind.i64.wrap (c0 + 1)) (c5.set c0.toNat (c5.getD (c1 + c3.toNat) (⟨#[]⟩ : BA)))) else none) else none) else (xN c0 c5))
def Qi4 := hid (@Qbs R)
theorem Q9w : @Qi4 R = @Qbs R := Q3
def Qo0 (k : Nat) (rec : Int → Int → List BA → Oq R) (x2 : Int → List BA → Oq R) (c1 c2 : Nat) (c0 c3 : Int) (c4 : List BA) : Oq R :=
 (bif decide (c3 < (c2 : Int)) then (bif (decide (0 ≤ c3) && decide (c3 < (c2 : Int))) then (bif (decide (0 ≤ IntKind.i64.wrap (c3 - 1)) && decide (IntKind.i64.wrap (c3 - 1) < (c2 : Int))) then (Qi4 k (fun p0 p4 => (rec p0 (IntKind.i64.wrap (c3 + 1)) p4)) c0 c1 c2 c3 (!((c4.getD (c1 + c3.toNat) (⟨#[]⟩ : BA)).toList == (c4.getD (c1 + (Int.toNat (IntKind.i64.wrap (c3 - 1)))) (⟨#[]⟩ : BA)).toList)) c4) else none) else none) else (x2 c0 c4))
def Q54 (k : Nat) (x2 : Int → List BA → Oq R) (c1 c2 : Nat) : Nat → Int → Int → List BA → Oq R
 | 0, _, _, _ => none
 | m + 1, c0, c3, c4 => Qo0 k (Q54 k x2 c1 c2 m) x2 c1 c2 c0 c3 c4
def Q10q := hid (@Q54 R)
theorem Qen : @Q10q R = @Q54 R := Q3
def Qnz (k : Nat) (rec : Int → Oq R) (K : List BA → Oq R) (x0 : Oq R) (c1 : List BA) (c0 : Int) : Oq R :=
 (bif decide (c0 < (c1.length : Int)) then (bif (decide (0 ≤ c0) && decide (c0 < (c1.length : Int))) then (bif (decide (0 ≤ IntKind.i64.wrap (c0 - 1)) && decide (IntKind.i64.wrap (c0 - 1) < (c1.length : Int))) then (bif ((c1.getD c0.toNat (⟨#[]⟩ : BA)).toList == (c1.getD (Int.toNat (IntKind.i64.wrap (c0 - 1))) (⟨#[]⟩ : BA)).toList) then (bif (decide (0 ≤ c0) && decide (c0 ≤ (c1.length : Int))) then (Q10q k (fun p0 p1 => (bif (decide (0 ≤ p0) && decide (p0 ≤ (p1.length : Int))) then (bif (decide (0 ≤ p0) && decide (p0 ≤ ((splice p1 p0.toNat (List.replicate (p1.length - p0.toNat) (⟨#[]⟩ : BA))).length : Int))) then (K (((splice p1 p0.toNat (List.replicate (p1.length - p0.toNat) (⟨#[]⟩ : BA))).drop 0).take p0.toNat)) else none) else none)) c0.toNat (c1.length - c0.toNat) k c0 1 c1) else none) else (rec (IntKind.i64.wrap (c0 + 1)))) else none) else none) else x0)
def Q53 (k : Nat) (K : List BA → Oq R) (x0 : Oq R) (c1 : List BA) : Nat → Int → Oq R
 | 0, _ => none
 | m + 1, c0 => Qnz k (Q53 k K x0 c1 m) K x0 c1 c0
def Q10p := hid (@Q53 R)
theorem Qem : @Q10p R = @Q53 R := Q3
def f123d (k : Nat) (a0 : List BA) (K : List BA → Oq R) : Oq R := match k with
 | 0 => none
 | k + 1 => (bif decide ((a0.length : Int) < 2) then (K a0) else (Q10p k K (K a0) a0 k 1))
def f123 := hid (@f123d R)
theorem Qri : @f123 R = @f123d R := Q3
def Q12o (k : Nat) (rec : Int → List BA → Oq R) (x0 : List BA → Oq R) (c0 : zL1) (c1 c2 : Int) (c3 : List BA) : Oq R :=
 (bif decide (c2 < c1) then (bif (decide (0 ≤ c2) && decide (c2 < (c0.length : Int))) then (bif decide (c3.length + ([(((((c0.getD c2.toNat ((0 : Int), (((0 : Int), (false, ((⟨#[]⟩ : BA), ((0 : Int), (false, (([] : LI), ())))))), ()))).2).1).2).2).1] : List BA).length ≤ LIM 16) then (rec (IntKind.i64.wrap (c2 + 1)) (c3 ++ ([(((((c0.getD c2.toNat ((0 : Int), (((0 : Int), (false, ((⟨#[]⟩ : BA), ((0 : Int), (false, (([] : LI), ())))))), ()))).2).1).2).2).1] : List BA))) else none) else none) else (x0 c3))
def Qai (k : Nat) (x0 : List BA → Oq R) (c0 : zL1) (c1 : Int) : Nat → Int → List BA → Oq R
 | 0, _, _ => none
 | m + 1, c2, c3 => Q12o k (Qai k x0 c0 c1 m) x0 c0 c1 c2 c3
def f74_0 := hid (@Qai R)
theorem Ql8 : @f74_0 R = @Qai R := Q3
def f74d (k : Nat) (a0 a1 a2 : Int) (a3 a4 a5 a6 : LI) (a7 : zL1) (a8 : Int) (K : List BA → Oq R) : Oq R := match k with
 | 0 => none
 | k + 1 => (f74_0 k (fun p0 => (f122 k p0 (fun r0_0 => (bif (decide (r0_0.length = p0.length) && true) then (f123 k r0_0 (fun r1_0 => (K r1_0))) else none)))) a7 (a7.length : Int) k 0 ([] : List BA))
def f74 := hid (@f74d R)
theorem Q12p : @f74 R = @f74d R := Q3
def f139d (k : Nat) (a0 a1 : Int) (a2 : Bool) (a3 : BA) (a4 : Int) (a5 : Bool) (a6 : LI) (K : Int → Oq R) : Oq R := match k with
 | 0 => none
 | k + 1 => (K (IntKind.i64.wrap (a1 - a4)))
def f139 := hid (@f139d R)
theorem Qrs : @f139 R = @f139d R := Q3
def Q50 (k : Nat) (xN : zL0 → Oq R) (c4 : Bool) (c5 : zL0) (c6 c7 : Int) (c8 : Bool) (c9 : BA) (c10 : Int) (c11 : Bool) (c12 : LI) : Oq R :=
 (bif c4 then (f139 k c6 c7 c8 c9 c10 c11 c12 (fun r0_0 => (f139 k c6 c7 c8 c9 c10 c11 c12 (fun r1_0 => (bif decide (((mget (.int .i64) r1_0 c5).getD []).length + ([(c6, ((c7, (c8, (c9, (c10, (c11, (c12, ())))))), ()))] : zL2).length ≤ LIM 80) then (bif (r0_0 == r1_0) then (xN ((mdel (.int .i64) r0_0 (mdel (.int .i64) r1_0 c5)) ++ [(r0_0, (((mget (.int .i64) r1_0 c5).getD []) ++ ([(c6, ((c7, (c8, (c9, (c10, (c11, (c12, ())))))), ()))] : zL2)))])) else none) else none))))) else (xN c5))
def Qi2 := hid (@Q50 R)
theorem Q9u : @Qi2 R = @Q50 R := Q3
def Qnw (k : Nat) (rec : Int → zL0 → Oq R) (x0 : zL0 → Oq R) (c0 : BA) (c1 : zL1) (c2 c3 : Int) (c4 : zL0) : Oq R :=
 (bif decide (c3 < c2) then (bif (decide (0 ≤ c3) && decide (c3 < (c1.length : Int))) then (Qi2 k (fun p4 => (rec (IntKind.i64.wrap (c3 + 1)) p4)) (((((((c1.getD c3.toNat ((0 : Int), (((0 : Int), (false, ((⟨#[]⟩ : BA), ((0 : Int), (false, (([] : LI), ())))))), ()))).2).1).2).2).1).toList == c0.toList) c4 ((c1.getD c3.toNat ((0 : Int), (((0 : Int), (false, ((⟨#[]⟩ : BA), ((0 : Int), (false, (([] : LI), ())))))), ()))).1) ((((c1.getD c3.toNat ((0 : Int), (((0 : Int), (false, ((⟨#[]⟩ : BA), ((0 : Int), (false, (([] : LI), ())))))), ()))).2).1).1) (((((c1.getD c3.toNat ((0 : Int), (((0 : Int), (false, ((⟨#[]⟩ : BA), ((0 : Int), (false, (([] : LI), ())))))), ()))).2).1).2).1) ((((((c1.getD c3.toNat ((0 : Int), (((0 : Int), (false, ((⟨#[]⟩ : BA), ((0 : Int), (false, (([] : LI), ())))))), ()))).2).1).2).2).1) (((((((c1.getD c3.toNat ((0 : Int), (((0 : Int), (false, ((⟨#[]⟩ : BA), ((0 : Int), (false, (([] : LI), ())))))), ()))).2).1).2).2).2).1) ((((((((c1.getD c3.toNat ((0 : Int), (((0 : Int), (false, ((⟨#[]⟩ : BA), ((0 : Int), (false, (([] : LI), ())))))), ()))).2).1).2).2).2).2).1) (((((((((c1.getD c3.toNat ((0 : Int), (((0 : Int), (false, ((⟨#[]⟩ : BA), ((0 : Int), (false, (([] : LI), ())))))), ()))).2).1).2).2).2).2).2).1)) else none) else (x0 c4))
def Q4z (k : Nat) (x0 : zL0 → Oq R) (c0 : BA) (c1 : zL1) (c2 : Int) : Nat → Int → zL0 → Oq R
 | 0, _, _ => none
 | m + 1, c3, c4 => Qnw k (Q4z k x0 c0 c1 c2 m) x0 c0 c1 c2 c3 c4
def Q10o := hid (@Q4z R)
theorem Qek : @Q10o R = @Q4z R := Q3
def f116d (k : Nat) (a0 a1 a2 : Int) (a3 a4 a5 a6 : LI) (a7 : zL1) (a8 : Int) (a9 : BA) (K : zL0 → Oq R) : Oq R := match k with
 | 0 => none
 | k + 1 => (Q10o k (fun p0 => (K p0)) a9 a7 (a7.length : Int) k 0 ([] : zL0))
def f116 := hid (@f116d R)
theorem Qrc : @f116 R = @f116d R := Q3
def f135d (k : Nat) (a0 : zL2) (K : zL2 → Oq R) : Oq R := match k with
 | 0 => none
 | _ + 1 => bif skOk keyIx a0 then K (skL keyIx a0) else none
def f135 := hid (@f135d R)
theorem Qrp : @f135 R = @f135d R := Q3
def Q52 (k : Nat) (xN : Int → Bool → Oq R) (c0 c1 : Int) (c4 c12 : Bool) (c18 : Int) : Oq R :=
 (bif c4 then (xN (IntKind.i64.wrap (c0 + 1)) (c18 == c1)) else (xN c0 c12))
def Qi3 := hid (@Q52 R)
theorem Q9v : @Qi3 R = @Q52 R := Q3
def Qny (k : Nat) (rec : Int → Int → Bool → Oq R) (x0 : Int → Bool → Oq R) (c1 : Int) (c3 : zL2) (c4 c5 : Int) (c6 c7 : Bool) (c8 c9 : Int) (c11 : Bool) (c0 c2 : Int) (c10 : Bool) : Oq R :=
 (bif decide (c2 < c1) then (bif (decide (0 ≤ c2) && decide (c2 < (c3.length : Int))) then (Qi3 k (fun p0 p10 => (rec p0 (IntKind.i64.wrap (c2 + 1)) p10)) c0 c2 ((((((((c3.getD c2.toNat ((0 : Int), (((0 : Int), (false, ((⟨#[]⟩ : BA), ((0 : Int), (false, (([] : LI), ())))))), ()))).2).1).2).2).2).2).1) c10 (((((((c3.getD c2.toNat ((0 : Int), (((0 : Int), (false, ((⟨#[]⟩ : BA), ((0 : Int), (false, (([] : LI), ())))))), ()))).2).1).2).2).2).1)) else none) else (x0 c0 c10))
def Q51 (k : Nat) (x0 : Int → Bool → Oq R) (c1 : Int) (c3 : zL2) (c4 c5 : Int) (c6 c7 : Bool) (c8 c9 : Int) (c11 : Bool) : Nat → Int → Int → Bool → Oq R
 | 0, _, _, _ => none
 | m + 1, c0, c2, c10 => Qny k (Q51 k x0 c1 c3 c4 c5 c6 c7 c8 c9 c11 m) x0 c1 c3 c4 c5 c6 c7 c8 c9 c11 c0 c2 c10
def Qre := hid (@Q51 R)
theorem Qel : @Qre R = @Q51 R := Q3
def f118d (k : Nat) (a0 : Int) (a1 : zL2) (K : Int → Int → Bool → Bool → zL2 → Oq R) : Oq R := match k with
 | 0 => none
 | k + 1 => (f135 k a1 (fun r0_0 => (bif (decide (r0_0.length = a1.length) && true) then (bif decide (0 < (r0_0.length : Int)) then (bif ((((((((r0_0.getD 0 ((0 : Int), (((0 : Int), (false, ((⟨#[]⟩ : BA), ((0 : Int), (false, (([] : LI), ())))))), ()))).2).1).2).2).2).1 == 0) == true) then (bif decide (0 < (r0_0.length : Int)) then (Qre k (fun p0 p8 => (bif (p8 == true) then (K a0 (r0_0.length : Int) (p0 == 1) (((((r0_0.getD 0 ((0 : Int), (((0 : Int), (false, ((⟨#[]⟩ : BA), ((0 : Int), (false, (([] : LI), ())))))), ()))).2).1).2).1) r0_0) else (K a0 (r0_0.length : Int) false (((((r0_0.getD 0 ((0 : Int), (((0 : Int), (false, ((⟨#[]⟩ : BA), ((0 : Int), (false, (([] : LI), ())))))), ()))).2).1).2).1) r0_0))) (r0_0.length : Int) r0_0 0 0 false false a0 (r0_0.length : Int) (((((r0_0.getD 0 ((0 : Int), (((0 : Int), (false, ((⟨#[]⟩ : BA), ((0 : Int), (false, (([] : LI), ())))))), ()))).2).1).2).1) k 0 0 false) else none) else (Qre k (fun p0 p8 => (bif (p8 == true) then (K a0 (r0_0.length : Int) (p0 == 1) false r0_0) else (K a0 (r0_0.length : Int) false false r0_0))) (r0_0.length : Int) r0_0 0 0 false false a0 (r0_0.length : Int) false k 0 0 false)) else none) else none)))
def f118 := hid (@f118d R)
theorem Qrf : @f118 R = @f118d R := Q3
def f119d (k : Nat) (a0 : zL4) (K : zL4 → Oq R) : Oq R := match k with
 | 0 => none
 | _ + 1 => bif skOk keyGen a0 then K (skL keyGen a0) else none
def f119 := hid (@f119d R)
theorem Qrg : @f119 R = @f119d R := Q3
def Q12f (k : Nat) (rec : zL4 → zL0 → Oq R) (x0 : zL4 → Oq R) (c0 : zL4) (c1 : zL0) : Oq R :=
 (allOf (List.length c1) fun i8192 => (bif (!(List.isEmpty c1)) then (bif (!(List.isEmpty (bring i8192 c1))) then (f118 k (((List.head? (bring i8192 c1)).map (·.1)).getD 0) (((List.head? (bring i8192 c1)).map (·.2)).getD []) (fun r0_0 r0_1 r0_2 r0_3 r0_4 => (bif (decide (r0_4.length = (((List.head? (bring i8192 c1)).map (·.2)).getD []).length) && true) then (bif decide (c0.length + ([(r0_0, (r0_1, (r0_2, (r0_3, ()))))] : zL4).length ≤ LIM 24) then (rec (c0 ++ ([(r0_0, (r0_1, (r0_2, (r0_3, ()))))] : zL4)) (List.tail (bring i8192 c1))) else none) else none))) else none) else (x0 c0)))
def Qag (k : Nat) (x0 : zL4 → Oq R) : Nat → zL4 → zL0 → Oq R
 | 0, _, _ => none
 | m + 1, c0, c1 => Q12f k (Qag k x0 m) x0 c0 c1
def f70_0 := hid (@Qag R)
theorem Ql2 : @f70_0 R = @Qag R := Q3
def f70d (k : Nat) (a0 a1 a2 : Int) (a3 a4 a5 a6 : LI) (a7 : zL1) (a8 : Int) (a9 : BA) (K : zL4 → Oq R) : Oq R := match k with
 | 0 => none
 | k + 1 => (f116 k a0 a1 a2 a3 a4 a5 a6 a7 a8 a9 (fun r0_0 => (f70_0 k (fun p0 => (f119 k p0 (fun r1_0 => (bif (decide (r1_0.length = p0.length) && true) then (K r1_0) else none)))) k ([] : List ((Int × (Int × (Bool × (Bool × Unit)))))) r0_0)))
def f70 := hid (@f70d R)
theorem Q12g : @f70 R = @f70d R := Q3
def Qnq (k : Nat) (rec : Int → Oq R) (K : zK7 R) (x0 : Oq R) (c0 : BA) (c1 c3 c4 c5 : Int) (c6 c7 c8 c9 : LI) (c10 : zL1) (c11 c12 c13 : Int) (c14 c15 : Bool) (c16 : zL4) (c2 : Int) : Oq R :=
 (bif decide (c2 < c1) then (bif (decide (0 ≤ c2) && decide (c2 < (c16.length : Int))) then (bif (((c16.getD c2.toNat ((0 : Int), ((0 : Int), (false, (false, ()))))).2).2).1 then (f116 k c3 c4 c5 c6 c7 c8 c9 c10 c11 c0 (fun r0_0 => (f135 k ((mget (.int .i64) ((c16.getD c2.toNat ((0 : Int), ((0 : Int), (false, (false, ()))))).1) r0_0).getD []) (fun r1_0 => (bif (decide (r1_0.length = ((mget (.int .i64) ((c16.getD c2.toNat ((0 : Int), ((0 : Int), (false, (false, ()))))).1) r0_0).getD []).length) && true) then (K ((c16.getD c2.toNat ((0 : Int), ((0 : Int), (false, (false, ()))))).1) (((c16.getD c2.toNat ((0 : Int), ((0 : Int), (false, (false, ()))))).2).1) ((((c16.getD c2.toNat ((0 : Int), ((0 : Int), (false, (false, ()))))).2).2).1) (((((c16.getD c2.toNat ((0 : Int), ((0 : Int), (false, (false, ()))))).2).2).2).1) true r1_0) else none))))) else (rec (IntKind.i64.wrap (c2 + 1)))) else none) else x0)
def Q4s (k : Nat) (K : zK7 R) (x0 : Oq R) (c0 : BA) (c1 c3 c4 c5 : Int) (c6 c7 c8 c9 : LI) (c10 : zL1) (c11 c12 c13 : Int) (c14 c15 : Bool) (c16 : zL4) : Nat → Int → Oq R
 | 0, _ => none
 | m + 1, c2 => Qnq k (Q4s k K x0 c0 c1 c3 c4 c5 c6 c7 c8 c9 c10 c11 c12 c13 c14 c15 c16 m) K x0 c0 c1 c3 c4 c5 c6 c7 c8 c9 c10 c11 c12 c13 c14 c15 c16 c2
def Q10c := hid (@Q4s R)
theorem Qed : @Q10c R = @Q4s R := Q3
def f107d (k : Nat) (a0 a1 a2 : Int) (a3 a4 a5 a6 : LI) (a7 : zL1) (a8 : Int) (a9 : BA) (K : zK7 R) : Oq R := match k with
 | 0 => none
 | k + 1 => (f70 k a0 a1 a2 a3 a4 a5 a6 a7 a8 a9 (fun r0_0 => (Q10c k K (K 0 0 false false false ([] : zL1)) a9 (r0_0.length : Int) a0 a1 a2 a3 a4 a5 a6 a7 a8 0 0 false false r0_0 k 0)))
def f107 := hid (@f107d R)
theorem Qr3 : @f107 R = @f107d R := Q3
def f117d (k : Nat) (a0 : LI) (K : LI → Oq R) : Oq R := match k with
 | 0 => none
 | _ + 1 => bif Q5u a0 then K (sortI a0) else none
def f117 := hid (@f117d R)
theorem Qrd : @f117 R = @f117d R := Q3
def Q128 (k : Nat) (rec : Int → LI → Oq R) (x2 : LI → Oq R) (c0 c1 c2 c4 c5 c6 : Int) (c7 c8 c9 c10 : LI) (c11 : zL1) (c12 : Int) (c14 : List BA) (c15 : zL2) (c3 : Int) (c13 : LI) : Oq R :=
 (bif decide (c3 < c2) then (bif (decide (0 ≤ c3) && decide (c3 < (c15.length : Int))) then (bif decide (c13.length + ([(c15.getD c3.toNat ((0 : Int), (((0 : Int), (false, ((⟨#[]⟩ : BA), ((0 : Int), (false, (([] : LI), ())))))), ()))).1] : LI).length ≤ LIM 8) then (rec (IntKind.i64.wrap (c3 + 1)) (c13 ++ ([(c15.getD c3.toNat ((0 : Int), (((0 : Int), (false, ((⟨#[]⟩ : BA), ((0 : Int), (false, (([] : LI), ())))))), ()))).1] : LI))) else none) else none) else (x2 c13))
def Qad (k : Nat) (x2 : LI → Oq R) (c0 c1 c2 c4 c5 c6 : Int) (c7 c8 c9 c10 : LI) (c11 : zL1) (c12 : Int) (c14 : List BA) (c15 : zL2) : Nat → Int → LI → Oq R
 | 0, _, _ => none
 | m + 1, c3, c13 => Q128 k (Qad k x2 c0 c1 c2 c4 c5 c6 c7 c8 c9 c10 c11 c12 c14 c15 m) x2 c0 c1 c2 c4 c5 c6 c7 c8 c9 c10 c11 c12 c14 c15 c3 c13
def f68_2 := hid (@Qad R)
theorem Qkx : @f68_2 R = @Qad R := Q3
def Q127 (k : Nat) (x1 : LI → Oq R) (c0 c1 c2 c3 c4 : Int) (c5 c6 c7 c8 : LI) (c9 : zL1) (c10 : Int) (c11 : LI) (c12 : List BA) : Oq R :=
 (bif (decide (0 ≤ c1) && decide (c1 < (c12.length : Int))) then (f107 k c2 c3 c4 c5 c6 c7 c8 c9 c10 (c12.getD c1.toNat (⟨#[]⟩ : BA)) (fun r0_0 r0_1 r0_2 r0_3 r0_4 r0_5 => (bif ((!r0_4) == false) then (bif (r0_3 == true) then (f116 k c2 c3 c4 c5 c6 c7 c8 c9 c10 (c12.getD c1.toNat (⟨#[]⟩ : BA)) (fun r1_0 => (bif ((r1_0.length : Int) == 1) then (x1 c11) else (f68_2 k (fun p11 => (x1 p11)) c0 c1 (r0_5.length : Int) c2 c3 c4 c5 c6 c7 c8 c9 c10 c12 r0_5 k 0 c11)))) else (f68_2 k (fun p11 => (x1 p11)) c0 c1 (r0_5.length : Int) c2 c3 c4 c5 c6 c7 c8 c9 c10 c12 r0_5 k 0 c11)) else (x1 c11)))) else none)
def f68_1 := hid (@Q127 R)
theorem Qkw : @f68_1 R = @Q127 R := Q3
def Q126 (k : Nat) (rec : Int → LI → Oq R) (x0 : LI → Oq R) (c0 c2 c3 c4 : Int) (c5 c6 c7 c8 : LI) (c9 : zL1) (c10 : Int) (c12 : List BA) (c1 : Int) (c11 : LI) : Oq R :=
 (bif decide (c1 < c0) then (f68_1 k (fun p11 => (rec (IntKind.i64.wrap (c1 + 1)) p11)) c0 c1 c2 c3 c4 c5 c6 c7 c8 c9 c10 c11 c12) else (x0 c11))
def Qac (k : Nat) (x0 : LI → Oq R) (c0 c2 c3 c4 : Int) (c5 c6 c7 c8 : LI) (c9 : zL1) (c10 : Int) (c12 : List BA) : Nat → Int → LI → Oq R
 | 0, _, _ => none
 | m + 1, c1, c11 => Q126 k (Qac k x0 c0 c2 c3 c4 c5 c6 c7 c8 c9 c10 c12 m) x0 c0 c2 c3 c4 c5 c6 c7 c8 c9 c10 c12 c1 c11
def f68_0 := hid (@Qac R)
theorem Qkv : @f68_0 R = @Qac R := Q3
def f68d (k : Nat) (a0 a1 a2 : Int) (a3 a4 a5 a6 : LI) (a7 : zL1) (a8 : Int) (K : LI → Oq R) : Oq R := match k with
 | 0 => none
 | k + 1 => (f74 k a0 a1 a2 a3 a4 a5 a6 a7 a8 (fun r0_0 => (f68_0 k (fun p0 => (f117 k p0 (fun r1_0 => (bif (decide (r1_0.length = p0.length) && true) then (K r1_0) else none)))) (r0_0.length : Int) a0 a1 a2 a3 a4 a5 a6 a7 a8 r0_0 k 0 ([] : LI))))
def f68 := hid (@f68d R)
theorem Q129 : @f68 R = @f68d R := Q3
def f24d (k : Nat) (a0 a1 a2 : Int) (a3 a4 a5 : LI) (K : Int → LI → Oq R) : Oq R := match k with
 | 0 => none
 | k + 1 => (f19 k a0 a1 a2 a3 a4 a5 (fun r0_0 => (bif (r0_0 != 0) then (K r0_0 ([] : LI)) else (f46 k a0 a1 a2 a3 a4 a5 (fun r1_0 r1_1 r1_2 r1_3 r1_4 r1_5 r1_6 r1_7 r1_8 => (f68 k r1_0 r1_1 r1_2 r1_3 r1_4 r1_5 r1_7 r1_8 r1_6 (fun r2_0 => (K 0 r2_0))))))))
def f24 := hid (@f24d R)
theorem Q11h : @f24 R = @f24d R := Q3
def Q12m (k : Nat) (rec : Bool → Int → Oq R) (x2 : Bool → Oq R) (c0 c3 c4 c5 : Int) (c6 c7 c8 : LI) (c9 : zL2) (c10 : Int) (c11 : Bool) (c12 : BA) (c13 : Int) (c14 : Bool) (c15 : LI) (c1 : Bool) (c2 : Int) : Oq R :=
 (bif (decide (c2 < (c9.length : Int)) == true) then (bif (!c1) then (bif (decide (0 ≤ c2) && decide (c2 < (c9.length : Int))) then (bif (((((c9.getD c2.toNat ((0 : Int), (((0 : Int), (false, ((⟨#[]⟩ : BA), ((0 : Int), (false, (([] : LI), ())))))), ()))).2).1).1 == c10) == true) then (bif (decide (0 ≤ c2) && decide (c2 < (c9.length : Int))) then (rec (((((((c9.getD c2.toNat ((0 : Int), (((0 : Int), (false, ((⟨#[]⟩ : BA), ((0 : Int), (false, (([] : LI), ())))))), ()))).2).1).2).2).1).toList == c12.toList) (IntKind.i64.wrap (c2 + 1))) else none) else (rec false (IntKind.i64.wrap (c2 + 1)))) else none) else (x2 c1)) else (x2 c1))
def Q6y (k : Nat) (x2 : Bool → Oq R) (c0 c3 c4 c5 : Int) (c6 c7 c8 : LI) (c9 : zL2) (c10 : Int) (c11 : Bool) (c12 : BA) (c13 : Int) (c14 : Bool) (c15 : LI) : Nat → Bool → Int → Oq R
 | 0, _, _ => none
 | m + 1, c1, c2 => Q12m k (Q6y k x2 c0 c3 c4 c5 c6 c7 c8 c9 c10 c11 c12 c13 c14 c15 m) x2 c0 c3 c4 c5 c6 c7 c8 c9 c10 c11 c12 c13 c14 c15 c1 c2
def f72_2 := hid (@Q6y R)
theorem Ql7 : @f72_2 R = @Q6y R := Q3
def Q87 (k : Nat) (xN : zL2 → Oq R) (c0 : Int) (c1 : Bool) (c8 : zL2) (c9 : Int) (c10 : Bool) (c11 : BA) (c12 : Int) (c13 : Bool) (c14 : LI) : Oq R :=
 (bif c1 then (bif decide (c8.length + ([(c0, ((c9, (c10, (c11, (c12, (c13, (c14, ())))))), ()))] : zL2).length ≤ LIM 80) then (xN (c8 ++ ([(c0, ((c9, (c10, (c11, (c12, (c13, (c14, ())))))), ()))] : zL2))) else none) else (xN c8))
def Qof := hid (@Q87 R)
theorem Qc3 : @Qof R = @Q87 R := Q3
def Q12l (k : Nat) (x1 : zL2 → Oq R) (c0 c1 c2 c3 : Int) (c4 c5 c6 : LI) (c7 : zL2) : Oq R :=
 (bif (!(c2 == 0)) then (f101 k c1 c2 c3 c4 c5 c6 (IntKind.i64.wrap (Int.tdiv c0 c2)) (fun r0_0 => (bif r0_0 then (x1 c7) else (f90 k c1 c2 c3 c4 c5 c6 c0 (fun r1_0 => (f112 k r1_0 (fun r2_0 r2_1 r2_2 r2_3 r2_4 r2_5 r2_6 => (f72_2 k (fun y2_2_1 => (Qof k (fun y13_N_7 => (x1 y13_N_7)) c0 (!y2_2_1) c7 r2_1 r2_2 r2_3 r2_4 r2_5 r2_6)) c0 c1 c2 c3 c4 c5 c6 c7 r2_1 r2_2 r2_3 r2_4 r2_5 r2_6 k (r2_0 != 4) 0)))))))) else none)
def f72_1 := hid (@Q12l R)
theorem Ql6 : @f72_1 R = @Q12l R := Q3
def Q12k (k : Nat) (rec : Int → zL2 → Oq R) (x0 : zL2 → Oq R) (c1 c2 c3 : Int) (c4 c5 c6 : LI) (c0 : Int) (c7 : zL2) : Oq R :=
 (f60 k c1 c2 c3 c4 c5 c6 (fun r0_0 => (bif decide (c0 < r0_0) then (f72_1 k (fun p7 => (rec (IntKind.i64.wrap (c0 + 1)) p7)) c0 c1 c2 c3 c4 c5 c6 c7) else (x0 c7))))
def Q6x (k : Nat) (x0 : zL2 → Oq R) (c1 c2 c3 : Int) (c4 c5 c6 : LI) : Nat → Int → zL2 → Oq R
 | 0, _, _ => none
 | m + 1, c0, c7 => Q12k k (Q6x k x0 c1 c2 c3 c4 c5 c6 m) x0 c1 c2 c3 c4 c5 c6 c0 c7
def f72_0 := hid (@Q6x R)
theorem Ql5 : @f72_0 R = @Q6x R := Q3
def f72d (k : Nat) (a0 a1 a2 : Int) (a3 a4 a5 : LI) (K : zL2 → Oq R) : Oq R := match k with
 | 0 => none
 | k + 1 => (f72_0 k (fun p0 => (K p0)) a0 a1 a2 a3 a4 a5 k 0 ([] : zL1))
def f72 := hid (@f72d R)
theorem Q12n : @f72 R = @f72d R := Q3
def Q12r (k : Nat) (rec x2 : Int → Oq R) (c0 : zL1) (c1 : Int) (c2 : BA) (c4 : List BA) (c3 : Int) : Oq R :=
 (bif (decide (c3 > 0) == true) then (bif (decide (0 ≤ IntKind.i64.wrap (c3 - 1)) && decide (IntKind.i64.wrap (c3 - 1) < (c4.length : Int))) then (bif (!(Op.bytesLess (c4.getD (Int.toNat (IntKind.i64.wrap (c3 - 1))) (⟨#[]⟩ : BA)).toList c2.toList || ((c4.getD (Int.toNat (IntKind.i64.wrap (c3 - 1))) (⟨#[]⟩ : BA)).toList == c2.toList))) then (rec (IntKind.i64.wrap (c3 - 1))) else (x2 c3)) else none) else (x2 c3))
def Q5h (k : Nat) (x2 : Int → Oq R) (c0 : zL1) (c1 : Int) (c2 : BA) (c4 : List BA) : Nat → Int → Oq R
 | 0, _ => none
 | m + 1, c3 => Q12r k (Q5h k x2 c0 c1 c2 c4 m) x2 c0 c1 c2 c4 c3
def f76_2 := hid (@Q5h R)
theorem Qc5 : @f76_2 R = @Q5h R := Q3
def Qs8 (k : Nat) (x1 : List BA → Oq R) (c0 : zL1) (c1 : Int) (c2 : List BA) : Oq R :=
 (bif (decide (0 ≤ c1) && decide (c1 < (c0.length : Int))) then (f76_2 k (fun p3 => (bif (decide (p3 > 0) == true) then (bif (decide (0 ≤ IntKind.i64.wrap (p3 - 1)) && decide (IntKind.i64.wrap (p3 - 1) < (c2.length : Int))) then (bif ((c2.getD (Int.toNat (IntKind.i64.wrap (p3 - 1))) (⟨#[]⟩ : BA)).toList == ((((((c0.getD c1.toNat ((0 : Int), (((0 : Int), (false, ((⟨#[]⟩ : BA), ((0 : Int), (false, (([] : LI), ())))))), ()))).2).1).2).2).1).toList) then (x1 c2) else (bif (decide (0 ≤ p3) && decide (p3 ≤ (c2.length : Int))) then (bif decide (((c2.drop 0).take p3.toNat).length ≤ LIM 16) then (bif decide (((c2.drop 0).take p3.toNat).length + ([(((((c0.getD c1.toNat ((0 : Int), (((0 : Int), (false, ((⟨#[]⟩ : BA), ((0 : Int), (false, (([] : LI), ())))))), ()))).2).1).2).2).1] : List BA).length ≤ LIM 16) then (bif (decide (0 ≤ p3) && decide (p3 ≤ (c2.length : Int))) then (bif decide ((((c2.drop 0).take p3.toNat) ++ ([(((((c0.getD c1.toNat ((0 : Int), (((0 : Int), (false, ((⟨#[]⟩ : BA), ((0 : Int), (false, (([] : LI), ())))))), ()))).2).1).2).2).1] : List BA)).length + ((c2.drop p3.toNat).take (c2.length - p3.toNat)).length ≤ LIM 16) then (x1 ((((c2.drop 0).take p3.toNat) ++ ([(((((c0.getD c1.toNat ((0 : Int), (((0 : Int), (false, ((⟨#[]⟩ : BA), ((0 : Int), (false, (([] : LI), ())))))), ()))).2).1).2).2).1] : List BA)) ++ ((c2.drop p3.toNat).take (c2.length - p3.toNat)))) else none) else none) else none) else none) else none)) else none) else (bif (decide (0 ≤ p3) && decide (p3 ≤ (c2.length : Int))) then (bif decide (((c2.drop 0).take p3.toNat).length ≤ LIM 16) then (bif decide (((c2.drop 0).take p3.toNat).length + ([(((((c0.getD c1.toNat ((0 : Int), (((0 : Int), (false, ((⟨#[]⟩ : BA), ((0 : Int), (false, (([] : LI), ())))))), ()))).2).1).2).2).1] : List BA).length ≤ LIM 16) then (bif (decide (0 ≤ p3) && decide (p3 ≤ (c2.length : Int))) then (bif decide ((((c2.drop 0).take p3.toNat) ++ ([(((((c0.getD c1.toNat ((0 : Int), (((0 : Int), (false, ((⟨#[]⟩ : BA), ((0 : Int), (false, (([] : LI), ())))))), ()))).2).1).2).2).1] : List BA)).length + ((c2.drop p3.toNat).take (c2.length - p3.toNat)).length ≤ LIM 16) then (x1 ((((c2.drop 0).take p3.toNat) ++ ([(((((c0.getD c1.toNat ((0 : Int), (((0 : Int), (false, ((⟨#[]⟩ : BA), ((0 : Int), (false, (([] : LI), ())))))), ()))).2).1).2).2).1] : List BA)) ++ ((c2.drop p3.toNat).take (c2.length - p3.toNat)))) else none) else none) else none) else none) else none))) c0 c1 ((((((c0.getD c1.toNat ((0 : Int), (((0 : Int), (false, ((⟨#[]⟩ : BA), ((0 : Int), (false, (([] : LI), ())))))), ()))).2).1).2).2).1) c2 k (c2.length : Int)) else none)
def f76_1 := hid (@Qs8 R)
theorem Qc4 : @f76_1 R = @Qs8 R := Q3
def Q12q (k : Nat) (rec : Int → List BA → Oq R) (x0 : List BA → Oq R) (c0 : zL1) (c1 : Int) (c2 : List BA) : Oq R :=
 (bif decide (c1 < (c0.length : Int)) then (f76_1 k (fun p2 => (rec (IntKind.i64.wrap (c1 + 1)) p2)) c0 c1 c2) else (x0 c2))
def Qaj (k : Nat) (x0 : List BA → Oq R) (c0 : zL1) : Nat → Int → List BA → Oq R
 | 0, _, _ => none
 | m + 1, c1, c2 => Q12q k (Qaj k x0 c0 m) x0 c0 c1 c2
def f76_0 := hid (@Qaj R)
theorem Ql9 : @f76_0 R = @Qaj R := Q3
def f76d (k : Nat) (a0 : zL1) (K : List BA → Oq R) : Oq R := match k with
 | 0 => none
 | k + 1 => (f76_0 k (fun p0 => (K p0)) a0 k 0 ([] : List BA))
def f76 := hid (@f76d R)
theorem Q12s : @f76 R = @f76d R := Q3
def Qbq (k : Nat) (xN : zL2 → Oq R) (c0 : zL1) (c3 : Int) (c4 : Bool) (c5 : zL2) : Oq R :=
 (bif c4 then (bif (decide (0 ≤ c3) && decide (c3 < (c0.length : Int))) then (bif decide (c5.length + ([((c0.getD c3.toNat ((0 : Int), (((0 : Int), (false, ((⟨#[]⟩ : BA), ((0 : Int), (false, (([] : LI), ())))))), ()))).1, (((((c0.getD c3.toNat ((0 : Int), (((0 : Int), (false, ((⟨#[]⟩ : BA), ((0 : Int), (false, (([] : LI), ())))))), ()))).2).1).1, (((((c0.getD c3.toNat ((0 : Int), (((0 : Int), (false, ((⟨#[]⟩ : BA), ((0 : Int), (false, (([] : LI), ())))))), ()))).2).1).2).1, ((((((c0.getD c3.toNat ((0 : Int), (((0 : Int), (false, ((⟨#[]⟩ : BA), ((0 : Int), (false, (([] : LI), ())))))), ()))).2).1).2).2).1, (((((((c0.getD c3.toNat ((0 : Int), (((0 : Int), (false, ((⟨#[]⟩ : BA), ((0 : Int), (false, (([] : LI), ())))))), ()))).2).1).2).2).2).1, ((((((((c0.getD c3.toNat ((0 : Int), (((0 : Int), (false, ((⟨#[]⟩ : BA), ((0 : Int), (false, (([] : LI), ())))))), ()))).2).1).2).2).2).2).1, (((((((((c0.getD c3.toNat ((0 : Int), (((0 : Int), (false, ((⟨#[]⟩ : BA), ((0 : Int), (false, (([] : LI), ())))))), ()))).2).1).2).2).2).2).2).1, ())))))), ()))] : zL2).length ≤ LIM 80) then (xN (c5 ++ ([((c0.getD c3.toNat ((0 : Int), (((0 : Int), (false, ((⟨#[]⟩ : BA), ((0 : Int), (false, (([] : LI), ())))))), ()))).1, (((((c0.getD c3.toNat ((0 : Int), (((0 : Int), (false, ((⟨#[]⟩ : BA), ((0 : Int), (false, (([] : LI), ())))))), ()))).2).1).1, (((((c0.getD c3.toNat ((0 : Int), (((0 : Int), (false, ((⟨#[]⟩ : BA), ((0 : Int), (false, (([] : LI), ())))))), ()))).2).1).2).1, ((((((c0.getD c3.toNat ((0 : Int), (((0 : Int), (false, ((⟨#[]⟩ : BA), ((0 : Int), (false, (([] : LI), ())))))), ()))).2).1).2).2).1, (((((((c0.getD c3.toNat ((0 : Int), (((0 : Int), (false, ((⟨#[]⟩ : BA), ((0 : Int), (false, (([] : LI), ())))))), ()))).2).1).2).2).2).1, ((((((((c0.getD c3.toNat ((0 : Int), (((0 : Int), (false, ((⟨#[]⟩ : BA), ((0 : Int), (false, (([] : LI), ())))))), ()))).2).1).2).2).2).2).1, (((((((((c0.getD c3.toNat ((0 : Int), (((0 : Int), (false, ((⟨#[]⟩ : BA), ((0 : Int), (false, (([] : LI), ())))))), ()))).2).1).2).2).2).2).2).1, ())))))), ()))] : zL2))) else none) else none) else (xN c5))
def Qay := hid (@Qbq R)
theorem Q9r : @Qay R = @Qbq R := Q3
def Qnr (k : Nat) (rec : Int → zL2 → Oq R) (x0 : zL2 → Oq R) (c0 : zL1) (c1 : BA) (c2 c3 : Int) (c4 : zL2) : Oq R :=
 (bif decide (c3 < (c0.length : Int)) then (bif (decide (0 ≤ c3) && decide (c3 < (c0.length : Int))) then (bif ((((((((c0.getD c3.toNat ((0 : Int), (((0 : Int), (false, ((⟨#[]⟩ : BA), ((0 : Int), (false, (([] : LI), ())))))), ()))).2).1).2).2).1).toList == c1.toList) == true) then (bif (decide (0 ≤ c3) && decide (c3 < (c0.length : Int))) then (bif (decide (0 ≤ c3) && decide (c3 < (c0.length : Int))) then (Qay k (fun p4 => (rec (IntKind.i64.wrap (c3 + 1)) p4)) c0 c3 (IntKind.i64.wrap (((((c0.getD c3.toNat ((0 : Int), (((0 : Int), (false, ((⟨#[]⟩ : BA), ((0 : Int), (false, (([] : LI), ())))))), ()))).2).1).1) - (((((((c0.getD c3.toNat ((0 : Int), (((0 : Int), (false, ((⟨#[]⟩ : BA), ((0 : Int), (false, (([] : LI), ())))))), ()))).2).1).2).2).2).1)) == c2) c4) else none) else none) else (Qay k (fun p4 => (rec (IntKind.i64.wrap (c3 + 1)) p4)) c0 c3 false c4)) else none) else (x0 c4))
def Q2m (k : Nat) (x0 : zL2 → Oq R) (c0 : zL1) (c1 : BA) (c2 : Int) : Nat → Int → zL2 → Oq R
 | 0, _, _ => none
 | m + 1, c3, c4 => Qnr k (Q2m k x0 c0 c1 c2 m) x0 c0 c1 c2 c3 c4
def Q10d := hid (@Q2m R)
theorem Qee : @Q10d R = @Q2m R := Q3
def f108d (k : Nat) (a0 : zL1) (a1 : BA) (a2 : Int) (K : zL2 → Oq R) : Oq R := match k with
 | 0 => none
 | k + 1 => (Q10d k (fun p0 => (K p0)) a0 a1 a2 k 0 ([] : zL1))
def f108 := hid (@f108d R)
theorem Qr4 : @f108 R = @f108d R := Q3
def Qnt (k : Nat) (rec : Int → Oq R) (K : zK8 R) (x0 : Oq R) (c0 : zL1) (c1 c3 : Int) (c4 : Bool) (c5 : BA) (c6 : Int) (c7 : Bool) (c2 : Int) : Oq R :=
 (bif decide (c2 < (c0.length : Int)) then (bif (decide (0 ≤ c2) && decide (c2 < (c0.length : Int))) then (bif (((((((c0.getD c2.toNat ((0 : Int), (((0 : Int), (false, ((⟨#[]⟩ : BA), ((0 : Int), (false, (([] : LI), ())))))), ()))).2).1).2).2).2).1 == c1) then (bif (decide (0 ≤ c2) && decide (c2 < (c0.length : Int))) then (K ((((c0.getD c2.toNat ((0 : Int), (((0 : Int), (false, ((⟨#[]⟩ : BA), ((0 : Int), (false, (([] : LI), ())))))), ()))).2).1).1) (((((c0.getD c2.toNat ((0 : Int), (((0 : Int), (false, ((⟨#[]⟩ : BA), ((0 : Int), (false, (([] : LI), ())))))), ()))).2).1).2).1) ((((((c0.getD c2.toNat ((0 : Int), (((0 : Int), (false, ((⟨#[]⟩ : BA), ((0 : Int), (false, (([] : LI), ())))))), ()))).2).1).2).2).1) (((((((c0.getD c2.toNat ((0 : Int), (((0 : Int), (false, ((⟨#[]⟩ : BA), ((0 : Int), (false, (([] : LI), ())))))), ()))).2).1).2).2).2).1) ((((((((c0.getD c2.toNat ((0 : Int), (((0 : Int), (false, ((⟨#[]⟩ : BA), ((0 : Int), (false, (([] : LI), ())))))), ()))).2).1).2).2).2).2).1) (((((((((c0.getD c2.toNat ((0 : Int), (((0 : Int), (false, ((⟨#[]⟩ : BA), ((0 : Int), (false, (([] : LI), ())))))), ()))).2).1).2).2).2).2).2).1) true) else none) else (rec (IntKind.i64.wrap (c2 + 1)))) else none) else x0)
def Q4w (k : Nat) (K : zK8 R) (x0 : Oq R) (c0 : zL1) (c1 c3 : Int) (c4 : Bool) (c5 : BA) (c6 : Int) (c7 : Bool) : Nat → Int → Oq R
 | 0, _ => none
 | m + 1, c2 => Qnt k (Q4w k K x0 c0 c1 c3 c4 c5 c6 c7 m) K x0 c0 c1 c3 c4 c5 c6 c7 c2
def Q10i := hid (@Q4w R)
theorem Qeh : @Q10i R = @Q4w R := Q3
def f110d (k : Nat) (a0 : zL1) (a1 : Int) (K : zK8 R) : Oq R := match k with
 | 0 => none
 | k + 1 => (Q10i k K (K 0 false (⟨#[]⟩ : BA) 0 false ([] : LI) false) a0 a1 0 false (⟨#[]⟩ : BA) 0 false k 0)
def f110 := hid (@f110d R)
theorem Qr6 : @f110 R = @f110d R := Q3
def Q4v (k : Nat) (xN : Int → Oq R) (c1 : Int) (c3 : Bool) : Oq R :=
 (bif c3 then (xN (IntKind.i64.wrap (c1 + 1))) else (xN c1))
def Qhz := hid (@Q4v R)
theorem Q9s : @Qhz R = @Q4v R := Q3
def Qns (k : Nat) (rec : Int → Int → Oq R) (x0 : Int → Oq R) (c0 : zL1) (c1 c2 : Int) : Oq R :=
 (bif decide (c2 < (c0.length : Int)) then (bif (decide (0 ≤ c2) && decide (c2 < (c0.length : Int))) then (Qhz k (fun p1 => (rec p1 (IntKind.i64.wrap (c2 + 1)))) c1 ((((((((c0.getD c2.toNat ((0 : Int), (((0 : Int), (false, ((⟨#[]⟩ : BA), ((0 : Int), (false, (([] : LI), ())))))), ()))).2).1).2).2).2).2).1)) else none) else (x0 c1))
def Q4t (k : Nat) (x0 : Int → Oq R) (c0 : zL1) : Nat → Int → Int → Oq R
 | 0, _, _ => none
 | m + 1, c1, c2 => Qns k (Q4t k x0 c0 m) x0 c0 c1 c2
def Q10f := hid (@Q4t R)
theorem Qef : @Q10f R = @Q4t R := Q3
def Q10h (k : Nat) (rec K : Int → Oq R) (c0 : zL1) (c1 : Int) : Oq R :=
 (f110 k c0 c1 (fun r0_0 r0_1 r0_2 r0_3 r0_4 r0_5 r0_6 => (bif (!r0_6) then (K 0) else (bif r0_4 then (K (IntKind.i64.wrap (c1 + 1))) else (rec (IntKind.i64.wrap (c1 + 1)))))))
def Q4u (k : Nat) (K : Int → Oq R) (c0 : zL1) : Nat → Int → Oq R
 | 0, _ => none
 | m + 1, c1 => Q10h k (Q4u k K c0 m) K c0 c1
def Q10g := hid (@Q4u R)
theorem Qeg : @Q10g R = @Q4u R := Q3
def f109d (k : Nat) (a0 : zL1) (K : Int → Oq R) : Oq R := match k with
 | 0 => none
 | k + 1 => (Q10f k (fun p1 => (bif (p1 != 1) then (K 0) else (Q10g k K a0 k 0))) a0 k 0 0)
def f109 := hid (@f109d R)
theorem Qr5 : @f109 R = @f109d R := Q3
def Q12i (k : Nat) (rec x2 : Int → Oq R) (c0 : zL1) (c1 : BA) (c2 c3 : Int) (c5 : zL4) (c4 : Int) : Oq R :=
 (bif (decide (c4 > 0) == true) then (bif (decide (0 ≤ IntKind.i64.wrap (c4 - 1)) && decide (IntKind.i64.wrap (c4 - 1) < (c5.length : Int))) then (bif decide ((c5.getD (Int.toNat (IntKind.i64.wrap (c4 - 1))) ((0 : Int), ((0 : Int), (false, (false, ()))))).1 < c3) then (rec (IntKind.i64.wrap (c4 - 1))) else (x2 c4)) else none) else (x2 c4))
def Q6w (k : Nat) (x2 : Int → Oq R) (c0 : zL1) (c1 : BA) (c2 c3 : Int) (c5 : zL4) : Nat → Int → Oq R
 | 0, _ => none
 | m + 1, c4 => Q12i k (Q6w k x2 c0 c1 c2 c3 c5 m) x2 c0 c1 c2 c3 c5 c4
def f71_2 := hid (@Q6w R)
theorem Qc2 : @f71_2 R = @Q6w R := Q3
def Ql4 (k : Nat) (x1 : zL4 → Oq R) (c0 : zL1) (c1 : BA) (c2 : Int) (c3 : zL4) : Oq R :=
 (bif (decide (0 ≤ c2) && decide (c2 < (c0.length : Int))) then (bif (!(((((((c0.getD c2.toNat ((0 : Int), (((0 : Int), (false, ((⟨#[]⟩ : BA), ((0 : Int), (false, (([] : LI), ())))))), ()))).2).1).2).2).1).toList == c1.toList)) then (x1 c3) else (bif (decide (0 ≤ c2) && decide (c2 < (c0.length : Int))) then (bif (decide (0 ≤ c2) && decide (c2 < (c0.length : Int))) then (f71_2 k (fun p4 => (bif (decide (p4 > 0) == true) then (bif (decide (0 ≤ IntKind.i64.wrap (p4 - 1)) && decide (IntKind.i64.wrap (p4 - 1) < (c3.length : Int))) then (bif ((c3.getD (Int.toNat (IntKind.i64.wrap (p4 - 1))) ((0 : Int), ((0 : Int), (false, (false, ()))))).1 == IntKind.i64.wrap (((((c0.getD c2.toNat ((0 : Int), (((0 : Int), (false, ((⟨#[]⟩ : BA), ((0 : Int), (false, (([] : LI), ())))))), ()))).2).1).1) - (((((((c0.getD c2.toNat ((0 : Int), (((0 : Int), (false, ((⟨#[]⟩ : BA), ((0 : Int), (false, (([] : LI), ())))))), ()))).2).1).2).2).2).1))) then (x1 c3) else (f108 k c0 c1 (IntKind.i64.wrap (((((c0.getD c2.toNat ((0 : Int), (((0 : Int), (false, ((⟨#[]⟩ : BA), ((0 : Int), (false, (([] : LI), ())))))), ()))).2).1).1) - (((((((c0.getD c2.toNat ((0 : Int), (((0 : Int), (false, ((⟨#[]⟩ : BA), ((0 : Int), (false, (([] : LI), ())))))), ()))).2).1).2).2).2).1))) (fun r0_0 => (f110 k r0_0 0 (fun r1_0 r1_1 r1_2 r1_3 r1_4 r1_5 r1_6 => (bif (decide (0 ≤ p4) && decide (p4 ≤ (c3.length : Int))) then (bif decide (((c3.drop 0).take p4.toNat).length ≤ LIM 24) then (f109 k r0_0 (fun r2_0 => (bif decide (((c3.drop 0).take p4.toNat).length + ([(IntKind.i64.wrap (((((c0.getD c2.toNat ((0 : Int), (((0 : Int), (false, ((⟨#[]⟩ : BA), ((0 : Int), (false, (([] : LI), ())))))), ()))).2).1).1) - (((((((c0.getD c2.toNat ((0 : Int), (((0 : Int), (false, ((⟨#[]⟩ : BA), ((0 : Int), (false, (([] : LI), ())))))), ()))).2).1).2).2).2).1)), ((r0_0.length : Int), (decide (r2_0 > 0), (r1_1, ()))))] : zL4).length ≤ LIM 24) then (bif (decide (0 ≤ p4) && decide (p4 ≤ (c3.length : Int))) then (bif decide ((((c3.drop 0).take p4.toNat) ++ ([(IntKind.i64.wrap (((((c0.getD c2.toNat ((0 : Int), (((0 : Int), (false, ((⟨#[]⟩ : BA), ((0 : Int), (false, (([] : LI), ())))))), ()))).2).1).1) - (((((((c0.getD c2.toNat ((0 : Int), (((0 : Int), (false, ((⟨#[]⟩ : BA), ((0 : Int), (false, (([] : LI), ())))))), ()))).2).1).2).2).2).1)), ((r0_0.length : Int), (decide (r2_0 > 0), (r1_1, ()))))] : zL4)).length + ((c3.drop p4.toNat).take (c3.length - p4.toNat)).length ≤ LIM 24) then (x1 ((((c3.drop 0).take p4.toNat) ++ ([(IntKind.i64.wrap (((((c0.getD c2.toNat ((0 : Int), (((0 : Int), (false, ((⟨#[]⟩ : BA), ((0 : Int), (false, (([] : LI), ())))))), ()))).2).1).1) - (((((((c0.getD c2.toNat ((0 : Int), (((0 : Int), (false, ((⟨#[]⟩ : BA), ((0 : Int), (false, (([] : LI), ())))))), ()))).2).1).2).2).2).1)), ((r0_0.length : Int), (decide (r2_0 > 0), (r1_1, ()))))] : zL4)) ++ ((c3.drop p4.toNat).take (c3.length - p4.toNat)))) else none) else none) else none))) else none) else none)))))) else none) else (f108 k c0 c1 (IntKind.i64.wrap (((((c0.getD c2.toNat ((0 : Int), (((0 : Int), (false, ((⟨#[]⟩ : BA), ((0 : Int), (false, (([] : LI), ())))))), ()))).2).1).1) - (((((((c0.getD c2.toNat ((0 : Int), (((0 : Int), (false, ((⟨#[]⟩ : BA), ((0 : Int), (false, (([] : LI), ())))))), ()))).2).1).2).2).2).1))) (fun r0_0 => (f110 k r0_0 0 (fun r1_0 r1_1 r1_2 r1_3 r1_4 r1_5 r1_6 => (bif (decide (0 ≤ p4) && decide (p4 ≤ (c3.length : Int))) then (bif decide (((c3.drop 0).take p4.toNat).length ≤ LIM 24) then (f109 k r0_0 (fun r2_0 => (bif decide (((c3.drop 0).take p4.toNat).length + ([(IntKind.i64.wrap (((((c0.getD c2.toNat ((0 : Int), (((0 : Int), (false, ((⟨#[]⟩ : BA), ((0 : Int), (false, (([] : LI), ())))))), ()))).2).1).1) - (((((((c0.getD c2.toNat ((0 : Int), (((0 : Int), (false, ((⟨#[]⟩ : BA), ((0 : Int), (false, (([] : LI), ())))))), ()))).2).1).2).2).2).1)), ((r0_0.length : Int), (decide (r2_0 > 0), (r1_1, ()))))] : zL4).length ≤ LIM 24) then (bif (decide (0 ≤ p4) && decide (p4 ≤ (c3.length : Int))) then (bif decide ((((c3.drop 0).take p4.toNat) ++ ([(IntKind.i64.wrap (((((c0.getD c2.toNat ((0 : Int), (((0 : Int), (false, ((⟨#[]⟩ : BA), ((0 : Int), (false, (([] : LI), ())))))), ()))).2).1).1) - (((((((c0.getD c2.toNat ((0 : Int), (((0 : Int), (false, ((⟨#[]⟩ : BA), ((0 : Int), (false, (([] : LI), ())))))), ()))).2).1).2).2).2).1)), ((r0_0.length : Int), (decide (r2_0 > 0), (r1_1, ()))))] : zL4)).length + ((c3.drop p4.toNat).take (c3.length - p4.toNat)).length ≤ LIM 24) then (x1 ((((c3.drop 0).take p4.toNat) ++ ([(IntKind.i64.wrap (((((c0.getD c2.toNat ((0 : Int), (((0 : Int), (false, ((⟨#[]⟩ : BA), ((0 : Int), (false, (([] : LI), ())))))), ()))).2).1).1) - (((((((c0.getD c2.toNat ((0 : Int), (((0 : Int), (false, ((⟨#[]⟩ : BA), ((0 : Int), (false, (([] : LI), ())))))), ()))).2).1).2).2).2).1)), ((r0_0.length : Int), (decide (r2_0 > 0), (r1_1, ()))))] : zL4)) ++ ((c3.drop p4.toNat).take (c3.length - p4.toNat)))) else none) else none) else none))) else none) else none))))))) c0 c1 c2 (IntKind.i64.wrap (((((c0.getD c2.toNat ((0 : Int), (((0 : Int), (false, ((⟨#[]⟩ : BA), ((0 : Int), (false, (([] : LI), ())))))), ()))).2).1).1) - (((((((c0.getD c2.toNat ((0 : Int), (((0 : Int), (false, ((⟨#[]⟩ : BA), ((0 : Int), (false, (([] : LI), ())))))), ()))).2).1).2).2).2).1))) c3 k (c3.length : Int)) else none) else none)) else none)
def f71_1 := hid (@Ql4 R)
theorem Q86 : @f71_1 R = @Ql4 R := Q3
def Q12h (k : Nat) (rec : Int → zL4 → Oq R) (x0 : zL4 → Oq R) (c0 : zL1) (c1 : BA) (c2 : Int) (c3 : zL4) : Oq R :=
 (bif decide (c2 < (c0.length : Int)) then (f71_1 k (fun p3 => (rec (IntKind.i64.wrap (c2 + 1)) p3)) c0 c1 c2 c3) else (x0 c3))
def Qah (k : Nat) (x0 : zL4 → Oq R) (c0 : zL1) (c1 : BA) : Nat → Int → zL4 → Oq R
 | 0, _, _ => none
 | m + 1, c2, c3 => Q12h k (Qah k x0 c0 c1 m) x0 c0 c1 c2 c3
def f71_0 := hid (@Qah R)
theorem Ql3 : @f71_0 R = @Qah R := Q3
def f71d (k : Nat) (a0 : zL1) (a1 : BA) (K : zL4 → Oq R) : Oq R := match k with
 | 0 => none
 | k + 1 => (f71_0 k (fun p0 => (K p0)) a0 a1 k 0 ([] : List ((Int × (Int × (Bool × (Bool × Unit)))))))
def f71 := hid (@f71d R)
theorem Q12j : @f71 R = @f71d R := Q3
def Q12t (k : Nat) (rec : Int → Oq R) (K : zK9 R) (x0 : Oq R) (c1 c2 : Int) (c3 c4 : Bool) (c5 : zL4) (c0 : Int) : Oq R :=
 (bif decide (c0 < (c5.length : Int)) then (bif (decide (0 ≤ c0) && decide (c0 < (c5.length : Int))) then (bif (((c5.getD c0.toNat ((0 : Int), ((0 : Int), (false, (false, ()))))).2).2).1 then (bif (decide (0 ≤ c0) && decide (c0 < (c5.length : Int))) then (K ((c5.getD c0.toNat ((0 : Int), ((0 : Int), (false, (false, ()))))).1) (((c5.getD c0.toNat ((0 : Int), ((0 : Int), (false, (false, ()))))).2).1) ((((c5.getD c0.toNat ((0 : Int), ((0 : Int), (false, (false, ()))))).2).2).1) (((((c5.getD c0.toNat ((0 : Int), ((0 : Int), (false, (false, ()))))).2).2).2).1) true) else none) else (rec (IntKind.i64.wrap (c0 + 1)))) else none) else x0)
def Qak (k : Nat) (K : zK9 R) (x0 : Oq R) (c1 c2 : Int) (c3 c4 : Bool) (c5 : zL4) : Nat → Int → Oq R
 | 0, _ => none
 | m + 1, c0 => Q12t k (Qak k K x0 c1 c2 c3 c4 c5 m) K x0 c1 c2 c3 c4 c5 c0
def f77_0 := hid (@Qak R)
theorem Qla : @f77_0 R = @Qak R := Q3
def f77d (k : Nat) (a0 : zL1) (a1 : BA) (K : zK9 R) : Oq R := match k with
 | 0 => none
 | k + 1 => (f71 k a0 a1 (fun r0_0 => (f77_0 k K (K 0 0 false false false) 0 0 false false r0_0 k 0)))
def f77 := hid (@f77d R)
theorem Q12u : @f77 R = @f77d R := Q3
def Q12c (k : Nat) (rec : Int → List Bool → Oq R) (x2 : List Bool → Oq R) (c0 : Int) (c2 : zL2) (c3 : List BA) (c5 : zL2) (c1 : Int) (c4 : List Bool) : Oq R :=
 (bif decide (c1 < (c5.length : Int)) then (bif (decide (0 ≤ c1) && decide (c1 < (c5.length : Int))) then (bif (decide (0 ≤ (c5.getD c1.toNat ((0 : Int), (((0 : Int), (false, ((⟨#[]⟩ : BA), ((0 : Int), (false, (([] : LI), ())))))), ()))).1) && decide ((c5.getD c1.toNat ((0 : Int), (((0 : Int), (false, ((⟨#[]⟩ : BA), ((0 : Int), (false, (([] : LI), ())))))), ()))).1 < (c4.length : Int))) then (rec (IntKind.i64.wrap (c1 + 1)) (c4.set (Int.toNat ((c5.getD c1.toNat ((0 : Int), (((0 : Int), (false, ((⟨#[]⟩ : BA), ((0 : Int), (false, (([] : LI), ())))))), ()))).1)) true)) else none) else none) else (x2 c4))
def Q85 (k : Nat) (x2 : List Bool → Oq R) (c0 : Int) (c2 : zL2) (c3 : List BA) (c5 : zL2) : Nat → Int → List Bool → Oq R
 | 0, _, _ => none
 | m + 1, c1, c4 => Q12c k (Q85 k x2 c0 c2 c3 c5 m) x2 c0 c2 c3 c5 c1 c4
def f69_2 := hid (@Q85 R)
theorem Ql0 : @f69_2 R = @Q85 R := Q3
def Q12b (k : Nat) (x1 : List Bool → Oq R) (c0 : Int) (c1 : zL2) (c2 : List BA) (c3 : List Bool) : Oq R :=
 (bif (decide (0 ≤ c0) && decide (c0 < (c2.length : Int))) then (f77 k c1 (c2.getD c0.toNat (⟨#[]⟩ : BA)) (fun r0_0 r0_1 r0_2 r0_3 r0_4 => (bif ((!r0_4) == false) then (bif (r0_3 == true) then (bif (decide (0 ≤ c0) && decide (c0 < (c2.length : Int))) then (f71 k c1 (c2.getD c0.toNat (⟨#[]⟩ : BA)) (fun r1_0 => (bif decide ((r1_0.length : Int) < 2) then (x1 c3) else (bif (decide (0 ≤ c0) && decide (c0 < (c2.length : Int))) then (f108 k c1 (c2.getD c0.toNat (⟨#[]⟩ : BA)) r0_0 (fun r2_0 => (f69_2 k (fun p3 => (x1 p3)) c0 c1 c2 r2_0 k 0 c3))) else none)))) else none) else (bif (decide (0 ≤ c0) && decide (c0 < (c2.length : Int))) then (f108 k c1 (c2.getD c0.toNat (⟨#[]⟩ : BA)) r0_0 (fun r2_0 => (f69_2 k (fun p3 => (x1 p3)) c0 c1 c2 r2_0 k 0 c3))) else none)) else (x1 c3)))) else none)
def f69_1 := hid (@Q12b R)
theorem Qkz : @f69_1 R = @Q12b R := Q3
def Q12a (k : Nat) (rec : Int → List Bool → Oq R) (x0 : List Bool → Oq R) (c1 : zL2) (c2 : List BA) (c0 : Int) (c3 : List Bool) : Oq R :=
 (bif decide (c0 < (c2.length : Int)) then (f69_1 k (fun p3 => (rec (IntKind.i64.wrap (c0 + 1)) p3)) c0 c1 c2 c3) else (x0 c3))
def Qae (k : Nat) (x0 : List Bool → Oq R) (c1 : zL2) (c2 : List BA) : Nat → Int → List Bool → Oq R
 | 0, _, _ => none
 | m + 1, c0, c3 => Q12a k (Qae k x0 c1 c2 m) x0 c1 c2 c0 c3
def f69_0 := hid (@Qae R)
theorem Qky : @f69_0 R = @Qae R := Q3
def Qil (k : Nat) (xN : LI → Oq R) (c0 : Int) (c1 : Bool) (c3 : LI) : Oq R :=
 (bif c1 then (bif decide (c3.length + ([c0] : LI).length ≤ LIM 8) then (xN (c3 ++ ([c0] : LI))) else none) else (xN c3))
def Qoe := hid (@Qil R)
theorem Qc1 : @Qoe R = @Qil R := Q3
def Q12d (k : Nat) (rec : Int → LI → Oq R) (x4 : LI → Oq R) (c1 : List Bool) (c0 : Int) (c2 : LI) : Oq R :=
 (bif decide (c0 < (c1.length : Int)) then (bif (decide (0 ≤ c0) && decide (c0 < (c1.length : Int))) then (Qoe k (fun p2 => (rec (IntKind.i64.wrap (c0 + 1)) p2)) c0 (c1.getD c0.toNat false) c2) else none) else (x4 c2))
def Qaf (k : Nat) (x4 : LI → Oq R) (c1 : List Bool) : Nat → Int → LI → Oq R
 | 0, _, _ => none
 | m + 1, c0, c2 => Q12d k (Qaf k x4 c1 m) x4 c1 c0 c2
def f69_4 := hid (@Qaf R)
theorem Ql1 : @f69_4 R = @Qaf R := Q3
def f69d (k : Nat) (a0 a1 a2 : Int) (a3 a4 a5 : LI) (K : LI → Oq R) : Oq R := match k with
 | 0 => none
 | k + 1 => (f72 k a0 a1 a2 a3 a4 a5 (fun r0_0 => (f76 k r0_0 (fun r1_0 => (f60 k a0 a1 a2 a3 a4 a5 (fun r2_0 => (bif (decide (0 ≤ r2_0) && (decide (r2_0 ≤ r2_0) && decide (r2_0 ≤ (LIM 1 : Int)))) then (f69_0 k (fun y0_0_0 => (f69_4 k (fun y4_4_0 => (K y4_4_0)) y0_0_0 k 0 ([] : LI))) r0_0 r1_0 k 0 (List.replicate (Int.toNat r2_0) false)) else none)))))))
def f69 := hid (@f69d R)
theorem Q12e : @f69 R = @f69d R := Q3
def f25d (k : Nat) (a0 a1 a2 : Int) (a3 a4 a5 : LI) (K : Int → LI → Oq R) : Oq R := match k with
 | 0 => none
 | k + 1 => (f20 k a0 a1 a2 a3 a4 a5 (fun r0_0 => (bif (r0_0 != 0) then (K r0_0 ([] : LI)) else (f69 k a0 a1 a2 a3 a4 a5 (fun r1_0 => (K 0 r1_0))))))
def f25 := hid (@f25d R)
theorem Q11i : @f25 R = @f25d R := Q3
def f59d (k : Nat) (a0 : LI) (K : Int → Int → Oq R) : Oq R := match k with
 | 0 => none
 | k + 1 => (bif decide ((a0.length : Int) > 262144) then (K 0 2) else (f111 k a0 (fun r0_0 => (K r0_0 0))))
def f59 := hid (@f59d R)
theorem Q11v : @f59 R = @f59d R := Q3
def f16d (k : Nat) (K : Bool → Oq R) : Oq R := match k with
 | 0 => none
 | k + 1 => (bif decide (0 < ([(49 : Int), (50 : Int), (51 : Int), (52 : Int), (53 : Int), (54 : Int), (55 : Int), (56 : Int), 57] : LI).length) then (f59 k ([(49 : Int), (50 : Int), (51 : Int), (52 : Int), (53 : Int), (54 : Int), (55 : Int), (56 : Int), 57] : LI) (fun r0_0 r0_1 => (bif ((r0_1 == 0) == true) then (K (r0_0 == 10673)) else (K false)))) else none)
def f16 := hid (@f16d R)
theorem Q112 : @f16 R = @f16d R := Q3
def f4d (k : Nat) (a0 a1 a2 : Int) (a3 a4 a5 : LI) (K : Bool → Oq R) : Oq R := match k with
 | 0 => none
 | k + 1 => (f17 k a0 a1 a2 a3 a4 a5 (fun r0_0 r0_1 => (f18 k a0 a1 a2 a3 a4 a5 (fun r1_0 r1_1 => (f19 k a0 a1 a2 a3 a4 a5 (fun r2_0 => (f20 k a0 a1 a2 a3 a4 a5 (fun r3_0 => (bif ((r2_0 != r3_0) == false) then (f21 k r0_1 r1_1 (fun r4_0 => (bif ((!r4_0) == false) then (bif (r0_0 != r1_0) then (K false) else (f22 k a0 a1 a2 a3 a4 a5 (fun r5_0 r5_1 => (f23 k a0 a1 a2 a3 a4 a5 (fun r6_0 r6_1 => (f21 k r5_1 r6_1 (fun r7_0 => (bif ((!r7_0) == false) then (bif (r5_0 != r6_0) then (K false) else (f24 k a0 a1 a2 a3 a4 a5 (fun r8_0 r8_1 => (f25 k a0 a1 a2 a3 a4 a5 (fun r9_0 r9_1 => (f21 k r8_1 r9_1 (fun r10_0 => (bif (r10_0 == true) then (bif ((r8_0 == r9_0) == true) then (f16 k (fun r11_0 => (K r11_0))) else (K false)) else (K false))))))))) else (K false))))))))) else (K false)))) else (K false))))))))))
def f4 := hid (@f4d R)
theorem Q19y : @f4 R = @f4d R := Q3
end
end Go.Proofs.YtecnlienmpdlaaaGreat.PM
