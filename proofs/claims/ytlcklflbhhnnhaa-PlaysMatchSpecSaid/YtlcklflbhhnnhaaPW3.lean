/- The small machine's run is the typed form (printed by a program of this work). -/
import Derived.Test.YtlcklflbhhnnhaaPW2
set_option linter.unusedVariables false
set_option linter.unusedSimpArgs false
set_option maxRecDepth 100000
namespace Go.Proofs.Ytlcklflbhhnnhaa.PM
open Go
variable {R : Type} (k : Nat) (K : KT R) (id : Nat) (ws : List PV) (rs : List RowS) (N : St → Option R) (X : Nat → St → Option R)
noncomputable abbrev kt103 : zK21 R := (fun z0 z1 z2 z3 z4 z5 z6 z7 z8 z9 z10 z11 z12 z13 z14 z15 z16 z17 z18 z19 z20 z21 z22 z23 z24 z25 z26 z27 z28 => K [zi z0] [zr13 z1 z2 z3 z4 z5 z6 z7 z8 z9 z10 z11 z12 z13 z14 z15 z16 z17 z18 z19 z20 z21 z22 z23 z24 z25 z26, ⟨0, .gone⟩, ⟨0, .gone⟩, zr2 z27, zr2 z28])
abbrev aa103 : List Sh := [.ptr 1 0, zv]
abbrev ab103 : List RSh := [zs11, .arr [(0, 0)] zP2, .arr [(0, 0)] zP2]
noncomputable def g103 (k : Nat) (v : Sh.D.DL aa103 × RSh.DL ab103) (K : KT R) : Option R := let u0 := v.2.1.2.2.2.2.2.2.2; let u1 := u0.2.2.2.2.2.2.2; let u2 := u1.2.2.2.2.2.2.2; f103 k v.1.2.1 v.2.1.1 v.2.1.2.1 v.2.1.2.2.1 v.2.1.2.2.2.1 v.2.1.2.2.2.2.1 v.2.1.2.2.2.2.2.1 v.2.1.2.2.2.2.2.2.1 v.2.1.2.2.2.2.2.2.2.1 u0.2.1 u0.2.2.1 u0.2.2.2.1 u0.2.2.2.2.1 u0.2.2.2.2.2.1 u0.2.2.2.2.2.2.1 u0.2.2.2.2.2.2.2.1 u1.2.1 u1.2.2.1 u1.2.2.2.1 u1.2.2.2.2.1 u1.2.2.2.2.2.1 u1.2.2.2.2.2.2.1 u1.2.2.2.2.2.2.2.1 u2.2.1 u2.2.2.1 u2.2.2.2.2.1 u2.2.2.2.2.2.1 v.2.2.1 v.2.2.2.1 (kt103 K)
noncomputable abbrev E103 := ending T Try.f103 an103 3 K
noncomputable def S103 := pickS (R := R) [(81, s81), (85, s85), (91, s91), (93, s93), (126, s126v1), (127, s127v1)]
theorem Q1a1 : ∀ k, S103 (R := R) k = callC T F k := Q3 ⟨Q1id, Q1if, Q1ii, Q1ik, Q131, Q132, trivial⟩
noncomputable abbrev Qto : Option R := inner T an103 (Q0 F) 3 k 167 (S103 k) (E103 K) Qxd (sh Qby ws rs) N X
abbrev Qve : List Sh := [.ptr 1 0, zv, .rw 6, .rw 7, zv]
abbrev Qw9 : List RSh := [zs12, .gone, .gone, .arr [(0, 0)] zP2, .arr [(0, 0)] zP2, .arr [(0, 0)] zP0, .arr [(0, 0)] zP0]
noncomputable def Quv : Option R :=
 Q4 Qve Qw9 (fun v => let u0 := v.2.1.2.2.2.2.2.2.2; let u1 := u0.2.2.2.2.2.2.2; let u2 := u1.2.2.2.2.2.2.2; Qy1 k (kt103 K) (fun p1 p2 p3 p4 p5 p6 p7 p8 p9 p10 p11 p12 p13 p14 p15 p16 p17 p18 p19 p20 p21 p22 p23 p24 p25 p26 p27 p28 => N (sh Qng [.ptr 1 0, zi v.1.2.1, .rw 6] [zr13 p1 p2 p3 p4 p5 p6 p7 p8 p9 p10 p11 p12 p13 p14 p15 p16 p17 p18 p19 p20 p21 p22 p23 p24 p25 p26, ⟨0, .gone⟩, ⟨0, .gone⟩, zr2 p27, zr2 p28, zr3 v.2.2.2.2.2.2.2.1])) v.1.2.1 v.2.2.2.2.2.2.1 v.2.2.2.2.2.2.2.1 k v.1.2.2.2.2.1 v.2.1.1 v.2.1.2.1 v.2.1.2.2.1 v.2.1.2.2.2.1 v.2.1.2.2.2.2.1 v.2.1.2.2.2.2.2.1 v.2.1.2.2.2.2.2.2.1 v.2.1.2.2.2.2.2.2.2.1 u0.2.1 u0.2.2.1 u0.2.2.2.1 u0.2.2.2.2.1 u0.2.2.2.2.2.1 u0.2.2.2.2.2.2.1 u0.2.2.2.2.2.2.2.1 u1.2.1 u1.2.2.1 u1.2.2.2.1 u1.2.2.2.2.1 u1.2.2.2.2.2.1 u1.2.2.2.2.2.2.1 u1.2.2.2.2.2.2.2.1 u2.2.1 u2.2.2.1 u2.2.2.2.2.1 u2.2.2.2.2.2.1 v.2.2.2.2.1 v.2.2.2.2.2.1) (Qto k K ws rs N X) ws rs
noncomputable abbrev Qtp : Option R := inner T an103 (Q0 F) 3 k 167 (S103 k) (E103 K) Qxe (sh Qbz ws rs) N X
abbrev Qvf : List Sh := [.ptr 1 0, zv, .rw 6, zv]
abbrev Qwa : List RSh := [zs12, .gone, .gone, .arr [(0, 0)] zP2, .arr [(0, 0)] zP2, .arr [(0, 0)] zP0]
noncomputable def Quw : Option R :=
 Q4 Qvf Qwa (fun v => let u0 := v.2.1.2.2.2.2.2.2.2; let u1 := u0.2.2.2.2.2.2.2; let u2 := u1.2.2.2.2.2.2.2; Qy2 k (kt103 K) (fun p6 p7 p8 p9 p10 p11 p12 p13 => N (sh Qnh [.ptr 1 0, zi v.1.2.1] [zr13 v.2.1.1 v.2.1.2.1 v.2.1.2.2.1 v.2.1.2.2.2.1 v.2.1.2.2.2.2.1 p6 p7 p8 p9 p10 p11 p12 p13 u0.2.2.2.2.2.2.1 u0.2.2.2.2.2.2.2.1 u1.2.1 u1.2.2.1 u1.2.2.2.1 u1.2.2.2.2.1 u1.2.2.2.2.2.1 u1.2.2.2.2.2.2.1 u1.2.2.2.2.2.2.2.1 u2.2.1 u2.2.2.1 u2.2.2.2.2.1 u2.2.2.2.2.2.1, ⟨0, .gone⟩, ⟨0, .gone⟩, zr2 v.2.2.2.2.1, zr2 v.2.2.2.2.2.1])) v.1.2.1 v.2.1.1 v.2.1.2.1 v.2.1.2.2.1 v.2.1.2.2.2.1 v.2.1.2.2.2.2.1 u0.2.2.2.2.2.2.1 u0.2.2.2.2.2.2.2.1 u1.2.1 u1.2.2.1 u1.2.2.2.1 u1.2.2.2.2.1 u1.2.2.2.2.2.1 u1.2.2.2.2.2.2.1 u1.2.2.2.2.2.2.2.1 u2.2.1 u2.2.2.1 u2.2.2.2.2.1 u2.2.2.2.2.2.1 v.2.2.2.2.1 v.2.2.2.2.2.1 v.2.2.2.2.2.2.1 k v.1.2.2.2.1 v.2.1.2.2.2.2.2.1 v.2.1.2.2.2.2.2.2.1 v.2.1.2.2.2.2.2.2.2.1 u0.2.1 u0.2.2.1 u0.2.2.2.1 u0.2.2.2.2.1 u0.2.2.2.2.2.1) (Qtp k K ws rs N X) ws rs
noncomputable def L103 : Option R := bif id == 0 then Quv k K ws rs N X else bif id == 2 then Quw k K ws rs N X else none
theorem Q1g9 (c0 : Int) (c30 c31 : zL3) (m : Nat) : ∀ (c1 c2 c3 c4 c5 c6 c7 c8 : Int) (c9 : ByteArray) (c10 : List Int) (c11 : Int) (c12 : zL5) (c13 c14 c15 c16 : Int) (c17 : ByteArray) (c18 : List Int) (c19 : zL5) (c20 c21 c22 c23 : Int) (c24 : List Bool) (c25 : Int) (c26 : List Bool) (c27 : Int) (c28 c29 : zL1),
  iter (atHead an103 3 Qeq) m (fun st N' => exec T an103 (Q0 F) 3 k 167 (S103 k) (E103 K) Qeq st N' (outX an103 3 0 N X)) (sh Qby [.ptr 1 0, zi c0, .rw 6, .rw 7, zi c1] [zr13 c2 c3 c4 c5 c6 c7 c8 c9 c10 c11 c12 c13 c14 c15 c16 c17 c18 c19 c20 c21 c22 c23 c24 c25 c26 c27, ⟨0, .gone⟩, ⟨0, .gone⟩, zr2 c28, zr2 c29, zr3 c30, zr3 c31]) = Q46 k (kt103 K) (fun p1 p2 p3 p4 p5 p6 p7 p8 p9 p10 p11 p12 p13 p14 p15 p16 p17 p18 p19 p20 p21 p22 p23 p24 p25 p26 p27 p28 => N (sh Qng [.ptr 1 0, zi c0, .rw 6] [zr13 p1 p2 p3 p4 p5 p6 p7 p8 p9 p10 p11 p12 p13 p14 p15 p16 p17 p18 p19 p20 p21 p22 p23 p24 p25 p26, ⟨0, .gone⟩, ⟨0, .gone⟩, zr2 p27, zr2 p28, zr3 c31])) c0 c30 c31 m c1 c2 c3 c4 c5 c6 c7 c8 c9 c10 c11 c12 c13 c14 c15 c16 c17 c18 c19 c20 c21 c22 c23 c24 c25 c26 c27 c28 c29 := by
 induction m with
 | zero => intros; rfl
 | succ m ih =>
   intro c1 c2 c3 c4 c5 c6 c7 c8 c9 c10 c11 c12 c13 c14 c15 c16 c17 c18 c19 c20 c21 c22 c23 c24 c25 c26 c27 c28 c29
   simp only [iter]
   rw [← Q9 T an103 (Q0 F) 3 k 167 (S103 k) (L103 k K) Qeq (Qc _ _ _ _ _ _ _ _ Qeq (l := []) (by kernel_rfl) trivial)]
   have h := fx29 ih
   simp only [Q46]
   rw [← h]
   show _ = _
   kernel_rfl
theorem Q1h8 : L103 k K 0 ws rs N X = Qto k K ws rs N X := by
 show Quv k K ws rs N X = _
 unfold Quv
 rw [Qd3]
 exact Q5 (a := Qve) (b := Qw9) (G := fun ws rs => Qto k K ws rs N X) (fun x y => Eq.trans (by kernel_rfl) (Eq.trans (Q1g9 k K N X x.2.1 y.2.2.2.2.2.1 y.2.2.2.2.2.2.1 k x.2.2.2.2.1 y.1.1 y.1.2.1 y.1.2.2.1 y.1.2.2.2.1 y.1.2.2.2.2.1 y.1.2.2.2.2.2.1 y.1.2.2.2.2.2.2.1 y.1.2.2.2.2.2.2.2.1 y.1.2.2.2.2.2.2.2.2.1 y.1.2.2.2.2.2.2.2.2.2.1 y.1.2.2.2.2.2.2.2.2.2.2.1 y.1.2.2.2.2.2.2.2.2.2.2.2.1 y.1.2.2.2.2.2.2.2.2.2.2.2.2.1 y.1.2.2.2.2.2.2.2.2.2.2.2.2.2.1 y.1.2.2.2.2.2.2.2.2.2.2.2.2.2.2.1 y.1.2.2.2.2.2.2.2.2.2.2.2.2.2.2.2.1 y.1.2.2.2.2.2.2.2.2.2.2.2.2.2.2.2.2.1 y.1.2.2.2.2.2.2.2.2.2.2.2.2.2.2.2.2.2.1 y.1.2.2.2.2.2.2.2.2.2.2.2.2.2.2.2.2.2.2.1 y.1.2.2.2.2.2.2.2.2.2.2.2.2.2.2.2.2.2.2.2.1 y.1.2.2.2.2.2.2.2.2.2.2.2.2.2.2.2.2.2.2.2.2.1 y.1.2.2.2.2.2.2.2.2.2.2.2.2.2.2.2.2.2.2.2.2.2.1 y.1.2.2.2.2.2.2.2.2.2.2.2.2.2.2.2.2.2.2.2.2.2.2.1 y.1.2.2.2.2.2.2.2.2.2.2.2.2.2.2.2.2.2.2.2.2.2.2.2.1 y.1.2.2.2.2.2.2.2.2.2.2.2.2.2.2.2.2.2.2.2.2.2.2.2.2.2.1 y.1.2.2.2.2.2.2.2.2.2.2.2.2.2.2.2.2.2.2.2.2.2.2.2.2.2.2.1 y.2.2.2.1 y.2.2.2.2.1).symm (by kernel_rfl))) ws rs
theorem Q1ga (c0 c2 c3 c4 c5 c6 c15 c16 : Int) (c17 : ByteArray) (c18 : List Int) (c19 : zL5) (c20 c21 c22 c23 : Int) (c24 : List Bool) (c25 : Int) (c26 : List Bool) (c27 : Int) (c28 c29 : zL1) (c30 : zL3) (m : Nat) : ∀ (c1 c7 c8 : Int) (c9 : ByteArray) (c10 : List Int) (c11 : Int) (c12 : zL5) (c13 c14 : Int),
  iter (atHead an103 3 Qer) m (fun st N' => exec T an103 (Q0 F) 3 k 167 (S103 k) (E103 K) Qer st N' (outX an103 3 2 N X)) (sh Qbz [.ptr 1 0, zi c0, .rw 6, zi c1] [zr13 c2 c3 c4 c5 c6 c7 c8 c9 c10 c11 c12 c13 c14 c15 c16 c17 c18 c19 c20 c21 c22 c23 c24 c25 c26 c27, ⟨0, .gone⟩, ⟨0, .gone⟩, zr2 c28, zr2 c29, zr3 c30]) = Q47 k (kt103 K) (fun p6 p7 p8 p9 p10 p11 p12 p13 => N (sh Qnh [.ptr 1 0, zi c0] [zr13 c2 c3 c4 c5 c6 p6 p7 p8 p9 p10 p11 p12 p13 c15 c16 c17 c18 c19 c20 c21 c22 c23 c24 c25 c26 c27, ⟨0, .gone⟩, ⟨0, .gone⟩, zr2 c28, zr2 c29])) c0 c2 c3 c4 c5 c6 c15 c16 c17 c18 c19 c20 c21 c22 c23 c24 c25 c26 c27 c28 c29 c30 m c1 c7 c8 c9 c10 c11 c12 c13 c14 := by
 induction m with
 | zero => intros; rfl
 | succ m ih =>
   intro c1 c7 c8 c9 c10 c11 c12 c13 c14
   simp only [iter]
   rw [← Q9 T an103 (Q0 F) 3 k 167 (S103 k) (L103 k K) Qer (Qc _ _ _ _ _ _ _ _ Qer (l := []) (by kernel_rfl) trivial)]
   have h := fx9 ih
   simp only [Q47]
   rw [← h]
   show _ = _
   kernel_rfl
theorem Q1h9 : L103 k K 2 ws rs N X = Qtp k K ws rs N X := by
 show Quw k K ws rs N X = _
 unfold Quw
 rw [Qd4]
 exact Q5 (a := Qvf) (b := Qwa) (G := fun ws rs => Qtp k K ws rs N X) (fun x y => Eq.trans (by kernel_rfl) (Eq.trans (Q1ga k K N X x.2.1 y.1.1 y.1.2.1 y.1.2.2.1 y.1.2.2.2.1 y.1.2.2.2.2.1 y.1.2.2.2.2.2.2.2.2.2.2.2.2.2.1 y.1.2.2.2.2.2.2.2.2.2.2.2.2.2.2.1 y.1.2.2.2.2.2.2.2.2.2.2.2.2.2.2.2.1 y.1.2.2.2.2.2.2.2.2.2.2.2.2.2.2.2.2.1 y.1.2.2.2.2.2.2.2.2.2.2.2.2.2.2.2.2.2.1 y.1.2.2.2.2.2.2.2.2.2.2.2.2.2.2.2.2.2.2.1 y.1.2.2.2.2.2.2.2.2.2.2.2.2.2.2.2.2.2.2.2.1 y.1.2.2.2.2.2.2.2.2.2.2.2.2.2.2.2.2.2.2.2.2.1 y.1.2.2.2.2.2.2.2.2.2.2.2.2.2.2.2.2.2.2.2.2.2.1 y.1.2.2.2.2.2.2.2.2.2.2.2.2.2.2.2.2.2.2.2.2.2.2.1 y.1.2.2.2.2.2.2.2.2.2.2.2.2.2.2.2.2.2.2.2.2.2.2.2.1 y.1.2.2.2.2.2.2.2.2.2.2.2.2.2.2.2.2.2.2.2.2.2.2.2.2.2.1 y.1.2.2.2.2.2.2.2.2.2.2.2.2.2.2.2.2.2.2.2.2.2.2.2.2.2.2.1 y.2.2.2.1 y.2.2.2.2.1 y.2.2.2.2.2.1 k x.2.2.2.1 y.1.2.2.2.2.2.1 y.1.2.2.2.2.2.2.1 y.1.2.2.2.2.2.2.2.1 y.1.2.2.2.2.2.2.2.2.1 y.1.2.2.2.2.2.2.2.2.2.1 y.1.2.2.2.2.2.2.2.2.2.2.1 y.1.2.2.2.2.2.2.2.2.2.2.2.1 y.1.2.2.2.2.2.2.2.2.2.2.2.2.1).symm (by kernel_rfl))) ws rs
theorem tu103 : tOk (R := R) 103 aa103 ab103 g103 := by
 intro k x y K
 unfold g103
 rw [Qqk]
 cases k with
 | zero => rfl
 | succ k => exact eS Try.f103 an103 3 167 (L103 k K) [(0, Qby, Qxd), (2, Qbz, Qxe)] (by kernel_rfl) (Q1a1 k) (by kernel_rfl) ⟨Q1h8 k K, Q1h9 k K, trivial⟩ (by kernel_rfl)
noncomputable def s103 := onS (R := R) aa103 ab103 g103 (fun k => callC T F k 103)
theorem Q1dd : sOk (R := R) s103 103 := Q6 (fun _ _ _ _ => rfl) tu103
noncomputable abbrev kt61 : zK14 R := (fun z0 z1 z2 z3 z4 z5 z6 z7 z8 z9 z10 z11 z12 z13 z14 z15 z16 z17 z18 => K [.agg [zi z0, zi z1, .val [] .str z2, .val [(0, 0)] zT2 z3, zi z4, .val [(0, 0)] zT1 z5, zi z6, zi z7], .agg [zi z8, zi z9, .val [] .str z10, .val [(0, 0)] zT2 z11, .val [(0, 0)] zT1 z12, zi z13, zi z14, zi z15, zi z16], .rw 1, zi z17] [⟨0, .arr [] (.int .i64) z18⟩])
abbrev aa61 : List Sh := [.agg [zv, zv, zv, zv, zv], zv, .val [] .str, .val [(0, 0)] zT2, .val [(0, 0)] zT3, .val [(0, 0)] zT3, zv]
abbrev ab61 : List RSh := []
noncomputable def g61 (k : Nat) (v : Sh.D.DL aa61 × RSh.DL ab61) (K : KT R) : Option R := f61 k v.1.1.1 v.1.1.2.1 v.1.1.2.2.1 v.1.1.2.2.2.1 v.1.1.2.2.2.2.1 v.1.2.1 v.1.2.2.1 v.1.2.2.2.1 v.1.2.2.2.2.1 v.1.2.2.2.2.2.1 v.1.2.2.2.2.2.2.1 (kt61 K)
noncomputable abbrev E61 := ending T Try.f61 an61 0 K
noncomputable def S61 := pickS (R := R) [(23, s23), (26, s26), (72, s72), (102, s102), (103, s103)]
theorem Q1ek : ∀ k, S61 (R := R) k = callC T F k := Q3 ⟨Q19q, Q1hw, Qsn, Q1dc, Q1dd, trivial⟩
noncomputable abbrev Qu0 : Option R := inner T an61 (Q0 F) 0 k 118 (S61 k) (E61 K) Qpf (sh Qh1 ws rs) N X
abbrev Q13r : List Sh := [zv, .ptr 1 0, .ptr 2 0, .ptr 3 0, zv, zv, .val [] .bool]
abbrev Q14k : List RSh := [zs8, zs5, zs12, .arr [(0, 0)] zP2, .arr [(0, 0)] zP2]
noncomputable def Qkt : Option R :=
 Q4 Q13r Q14k (fun v => let u0 := v.2.2.1.2.2.2.2.2.2.2; let u1 := v.2.2.2.1.2.2.2.2.2.2.2; let u2 := u1.2.2.2.2.2.2.2; let u3 := u2.2.2.2.2.2.2.2; Qfo k (fun p1 => N (sh Q10w [zi v.1.1, .ptr 1 0, .ptr 2 0, .ptr 3 0, zi p1, zi v.1.2.2.2.2.2.1] [zr10 v.2.1.1 v.2.1.2.1 v.2.1.2.2.1 v.2.1.2.2.2.2.1 v.2.1.2.2.2.2.2.2.1 v.2.1.2.2.2.2.2.2.2.1, zr7 v.2.2.1.1 v.2.2.1.2.1 v.2.2.1.2.2.1 v.2.2.1.2.2.2.2.2.1 v.2.2.1.2.2.2.2.2.2.1 v.2.2.1.2.2.2.2.2.2.2.1 u0.2.1, zr13 v.2.2.2.1.1 v.2.2.2.1.2.1 v.2.2.2.1.2.2.1 v.2.2.2.1.2.2.2.1 v.2.2.2.1.2.2.2.2.1 v.2.2.2.1.2.2.2.2.2.1 v.2.2.2.1.2.2.2.2.2.2.1 v.2.2.2.1.2.2.2.2.2.2.2.1 u1.2.1 u1.2.2.1 u1.2.2.2.1 u1.2.2.2.2.1 u1.2.2.2.2.2.1 u1.2.2.2.2.2.2.1 u1.2.2.2.2.2.2.2.1 u2.2.1 u2.2.2.1 u2.2.2.2.1 u2.2.2.2.2.1 u2.2.2.2.2.2.1 u2.2.2.2.2.2.2.1 u2.2.2.2.2.2.2.2.1 u3.2.1 u3.2.2.1 u3.2.2.2.2.1 u3.2.2.2.2.2.1, zr2 v.2.2.2.2.1, zr2 v.2.2.2.2.2.1])) v.1.2.2.2.2.1 v.1.2.2.2.2.2.1 v.1.2.2.2.2.2.2.1) (Qu0 k K ws rs N X) ws rs
noncomputable abbrev I61_0 : Option R := inner T an61 (Q0 F) 0 k 118 (S61 k) (E61 K) Q18q (sh Qk7 ws rs) N X
abbrev Q17q : List Sh := [zv, .ptr 1 0, .ptr 2 0, .ptr 3 0, zv, zv]
abbrev Q187 : List RSh := [zs8, zs5, zs12, .arr [(0, 0)] zP2, .arr [(0, 0)] zP2]
noncomputable def L61_0 : Option R :=
 Q4 Q17q Q187 (fun v => let u0 := v.2.2.1.2.2.2.2.2.2.2; let u1 := v.2.2.2.1.2.2.2.2.2.2.2; let u2 := u1.2.2.2.2.2.2.2; let u3 := u2.2.2.2.2.2.2.2; f61_0 k (kt61 K) (fun p0 p14 p15 p16 p17 p18 p19 p20 p21 p22 p23 p24 p25 p26 p27 p28 p29 p30 p31 p32 p33 p34 p35 p36 p37 p38 p39 p40 p41 => N (sh Q11x [.ptr 1 0, .ptr 2 0, .ptr 3 0, zi p0] [zr10 v.2.1.1 v.2.1.2.1 v.2.1.2.2.1 v.2.1.2.2.2.2.1 v.2.1.2.2.2.2.2.2.1 v.2.1.2.2.2.2.2.2.2.1, zr7 v.2.2.1.1 v.2.2.1.2.1 v.2.2.1.2.2.1 v.2.2.1.2.2.2.2.2.1 v.2.2.1.2.2.2.2.2.2.1 v.2.2.1.2.2.2.2.2.2.2.1 u0.2.1, zr13 p14 p15 p16 p17 p18 p19 p20 p21 p22 p23 p24 p25 p26 p27 p28 p29 p30 p31 p32 p33 p34 p35 p36 p37 p38 p39, zr2 p40, zr2 p41])) v.1.1 v.2.1.1 v.2.1.2.1 v.2.1.2.2.1 v.2.1.2.2.2.2.1 v.2.1.2.2.2.2.2.2.1 v.2.1.2.2.2.2.2.2.2.1 v.2.2.1.1 v.2.2.1.2.1 v.2.2.1.2.2.1 v.2.2.1.2.2.2.2.2.1 v.2.2.1.2.2.2.2.2.2.1 v.2.2.1.2.2.2.2.2.2.2.1 u0.2.1 k v.1.2.2.2.2.1 v.1.2.2.2.2.2.1 v.2.2.2.1.1 v.2.2.2.1.2.1 v.2.2.2.1.2.2.1 v.2.2.2.1.2.2.2.1 v.2.2.2.1.2.2.2.2.1 v.2.2.2.1.2.2.2.2.2.1 v.2.2.2.1.2.2.2.2.2.2.1 v.2.2.2.1.2.2.2.2.2.2.2.1 u1.2.1 u1.2.2.1 u1.2.2.2.1 u1.2.2.2.2.1 u1.2.2.2.2.2.1 u1.2.2.2.2.2.2.1 u1.2.2.2.2.2.2.2.1 u2.2.1 u2.2.2.1 u2.2.2.2.1 u2.2.2.2.2.1 u2.2.2.2.2.2.1 u2.2.2.2.2.2.2.1 u2.2.2.2.2.2.2.2.1 u3.2.1 u3.2.2.1 u3.2.2.2.2.1 u3.2.2.2.2.2.1 v.2.2.2.2.1 v.2.2.2.2.2.1) (I61_0 k K ws rs N X) ws rs
noncomputable def L61 : Option R := bif id == 1000020 then Qkt k K ws rs N X else bif id == 0 then L61_0 k K ws rs N X else none
theorem Q1c5 : L61 k K 1000020 ws rs N X = Qu0 k K ws rs N X := by
 show Qkt k K ws rs N X = _
 unfold Qkt
 rw [Qa5]
 exact lC (L61 k K) [] (by kernel_rfl) trivial fun x y => by kernel_rfl
theorem i61_0 (c0 c3 c4 : Int) (c5 : ByteArray) (c6 c7 c8 c9 c10 : Int) (c11 : ByteArray) (c12 c13 c14 c15 : Int) (m : Nat) : ∀ (c1 c2 c16 c17 c18 c19 c20 c21 c22 : Int) (c23 : ByteArray) (c24 : List Int) (c25 : Int) (c26 : zL5) (c27 c28 c29 c30 : Int) (c31 : ByteArray) (c32 : List Int) (c33 : zL5) (c34 c35 c36 c37 : Int) (c38 : List Bool) (c39 : Int) (c40 : List Bool) (c41 : Int) (c42 c43 : zL1),
  iter (atHead an61 0 Qoy) m (fun st N' => exec T an61 (Q0 F) 0 k 118 (S61 k) (E61 K) Qoy st N' (outX an61 0 0 N X)) (sh Qk7 [zi c0, .ptr 1 0, .ptr 2 0, .ptr 3 0, zi c1, zi c2] [zr10 c3 c4 c5 c6 c7 c8, zr7 c9 c10 c11 c12 c13 c14 c15, zr13 c16 c17 c18 c19 c20 c21 c22 c23 c24 c25 c26 c27 c28 c29 c30 c31 c32 c33 c34 c35 c36 c37 c38 c39 c40 c41, zr2 c42, zr2 c43]) = Q89 k (kt61 K) (fun p0 p14 p15 p16 p17 p18 p19 p20 p21 p22 p23 p24 p25 p26 p27 p28 p29 p30 p31 p32 p33 p34 p35 p36 p37 p38 p39 p40 p41 => N (sh Q11x [.ptr 1 0, .ptr 2 0, .ptr 3 0, zi p0] [zr10 c3 c4 c5 c6 c7 c8, zr7 c9 c10 c11 c12 c13 c14 c15, zr13 p14 p15 p16 p17 p18 p19 p20 p21 p22 p23 p24 p25 p26 p27 p28 p29 p30 p31 p32 p33 p34 p35 p36 p37 p38 p39, zr2 p40, zr2 p41])) c0 c3 c4 c5 c6 c7 c8 c9 c10 c11 c12 c13 c14 c15 m c1 c2 c16 c17 c18 c19 c20 c21 c22 c23 c24 c25 c26 c27 c28 c29 c30 c31 c32 c33 c34 c35 c36 c37 c38 c39 c40 c41 c42 c43 := by
 induction m with
 | zero => intros; rfl
 | succ m ih =>
   intro c1 c2 c16 c17 c18 c19 c20 c21 c22 c23 c24 c25 c26 c27 c28 c29 c30 c31 c32 c33 c34 c35 c36 c37 c38 c39 c40 c41 c42 c43
   simp only [iter]
   rw [← Q9 T an61 (Q0 F) 0 k 118 (S61 k) (L61 k K) Qoy (Qc _ _ _ _ _ _ _ _ Qoy (l := [(1000020, Qh1, Qpf)]) (by kernel_rfl) ⟨Q1c5 k K, trivial⟩)]
   have h := fx30 ih
   simp only [Q89]
   rw [← h]
   show _ = _
   kernel_rfl
theorem l61_0 : L61 k K 0 ws rs N X = I61_0 k K ws rs N X := by
 show L61_0 k K ws rs N X = _
 unfold L61_0
 rw [Qj2]
 exact Q5 (a := Q17q) (b := Q187) (G := fun ws rs => I61_0 k K ws rs N X) (fun x y => Eq.trans (by kernel_rfl) (Eq.trans (i61_0 k K N X x.1 y.1.1 y.1.2.1 y.1.2.2.1 y.1.2.2.2.2.1 y.1.2.2.2.2.2.2.1 y.1.2.2.2.2.2.2.2.1 y.2.1.1 y.2.1.2.1 y.2.1.2.2.1 y.2.1.2.2.2.2.2.1 y.2.1.2.2.2.2.2.2.1 y.2.1.2.2.2.2.2.2.2.1 y.2.1.2.2.2.2.2.2.2.2.1 k x.2.2.2.2.1 x.2.2.2.2.2.1 y.2.2.1.1 y.2.2.1.2.1 y.2.2.1.2.2.1 y.2.2.1.2.2.2.1 y.2.2.1.2.2.2.2.1 y.2.2.1.2.2.2.2.2.1 y.2.2.1.2.2.2.2.2.2.1 y.2.2.1.2.2.2.2.2.2.2.1 y.2.2.1.2.2.2.2.2.2.2.2.1 y.2.2.1.2.2.2.2.2.2.2.2.2.1 y.2.2.1.2.2.2.2.2.2.2.2.2.2.1 y.2.2.1.2.2.2.2.2.2.2.2.2.2.2.1 y.2.2.1.2.2.2.2.2.2.2.2.2.2.2.2.1 y.2.2.1.2.2.2.2.2.2.2.2.2.2.2.2.2.1 y.2.2.1.2.2.2.2.2.2.2.2.2.2.2.2.2.2.1 y.2.2.1.2.2.2.2.2.2.2.2.2.2.2.2.2.2.2.1 y.2.2.1.2.2.2.2.2.2.2.2.2.2.2.2.2.2.2.2.1 y.2.2.1.2.2.2.2.2.2.2.2.2.2.2.2.2.2.2.2.2.1 y.2.2.1.2.2.2.2.2.2.2.2.2.2.2.2.2.2.2.2.2.2.1 y.2.2.1.2.2.2.2.2.2.2.2.2.2.2.2.2.2.2.2.2.2.2.1 y.2.2.1.2.2.2.2.2.2.2.2.2.2.2.2.2.2.2.2.2.2.2.2.1 y.2.2.1.2.2.2.2.2.2.2.2.2.2.2.2.2.2.2.2.2.2.2.2.2.1 y.2.2.1.2.2.2.2.2.2.2.2.2.2.2.2.2.2.2.2.2.2.2.2.2.2.1 y.2.2.1.2.2.2.2.2.2.2.2.2.2.2.2.2.2.2.2.2.2.2.2.2.2.2.1 y.2.2.1.2.2.2.2.2.2.2.2.2.2.2.2.2.2.2.2.2.2.2.2.2.2.2.2.2.1 y.2.2.1.2.2.2.2.2.2.2.2.2.2.2.2.2.2.2.2.2.2.2.2.2.2.2.2.2.2.1 y.2.2.2.1 y.2.2.2.2.1).symm (by kernel_rfl))) ws rs
theorem tu61 : tOk (R := R) 61 aa61 ab61 g61 := by
 intro k x y K
 unfold g61
 rw [Qzf]
 cases k with
 | zero => rfl
 | succ k => exact eS Try.f61 an61 0 118 (L61 k K) [(0, Qk7, Q18q)] (by kernel_rfl) (Q1ek k) (by kernel_rfl) ⟨l61_0 k K, trivial⟩ (by kernel_rfl)
noncomputable def s61 := onS (R := R) aa61 ab61 g61 (fun k => callC T F k 61)
theorem Q1i2 : sOk (R := R) s61 61 := Q6 (fun _ _ _ _ => rfl) tu61
noncomputable abbrev kt70 : Int → Option R := (fun z0 => K [zi z0] [])
abbrev aa70 : List Sh := [zv, zv, zv]
abbrev ab70 : List RSh := []
noncomputable def g70 (k : Nat) (v : Sh.D.DL aa70 × RSh.DL ab70) (K : KT R) : Option R := f70 k v.1.1 v.1.2.1 v.1.2.2.1 (kt70 K)
noncomputable abbrev E70 := ending T Try.f70 an70 0 K
noncomputable def S70 := pickS (R := R) [(66, s66)]
theorem Q1es : ∀ k, S70 (R := R) k = callC T F k := Q3 ⟨Qk2, trivial⟩
theorem tu70 : tOk (R := R) 70 aa70 ab70 g70 := by
 intro k x y K
 unfold g70
 rw [Qzs]
 cases k with
 | zero => rfl
 | succ k => exact eS Try.f70 an70 0 12 L0 [] (by kernel_rfl) (Q1es k) (by kernel_rfl) trivial (by kernel_rfl)
noncomputable def s70 := onS (R := R) aa70 ab70 g70 (fun k => callC T F k 70)
theorem Q1i7 : sOk (R := R) s70 70 := Q6 (fun _ _ _ _ => rfl) tu70
noncomputable abbrev kt69 : Int → Option R := (fun z0 => K [zi z0] [])
abbrev aa69 : List Sh := [.val [(0, 0)] (.slice (.int .i64))]
abbrev ab69 : List RSh := []
noncomputable def g69 (k : Nat) (v : Sh.D.DL aa69 × RSh.DL ab69) (K : KT R) : Option R := f69 k v.1.1 (kt69 K)
noncomputable abbrev E69 := ending T Try.f69 an69 0 K
noncomputable def S69 := pickS (R := R) []
theorem Q1er : ∀ k, S69 (R := R) k = callC T F k := Q3 trivial
noncomputable abbrev I69_0 : Option R := inner T an69 (Q0 F) 0 k 15 (S69 k) (E69 K) Q18v (sh Qkc ws rs) N X
abbrev Q17v : List Sh := [.val [(0, 0)] (.slice (.int .i64)), zv, zv]
abbrev Q18c : List RSh := []
noncomputable def L69_0 : Option R :=
 Q4 Q17v Q18c (fun v => f69_0 k (kt69 K) (N (sh Q122 [] [])) v.1.1 v.1.2.1 k v.1.2.2.1) (I69_0 k K ws rs N X) ws rs
noncomputable def L69 : Option R := bif id == 0 then L69_0 k K ws rs N X else none
theorem i69_0 (c0 : List Int) (c1 : Int) (m : Nat) : ∀ (c2 : Int),
  iter (atHead an69 0 Qp3) m (fun st N' => exec T an69 (Q0 F) 0 k 15 (S69 k) (E69 K) Qp3 st N' (outX an69 0 0 N X)) (sh Qkc [.val [(0, 0)] (.slice (.int .i64)) c0, zi c1, zi c2] []) = Q8e k (kt69 K) (N (sh Q122 [] [])) c0 c1 m c2 := by
 induction m with
 | zero => intros; rfl
 | succ m ih =>
   intro c2
   simp only [iter]
   rw [← Q9 T an69 (Q0 F) 0 k 15 (S69 k) (L69 k K) Qp3 (Qc _ _ _ _ _ _ _ _ Qp3 (l := []) (by kernel_rfl) trivial)]
   have h := fx1 ih
   simp only [Q8e]
   rw [← h]
   show _ = _
   kernel_rfl
theorem l69_0 : L69 k K 0 ws rs N X = I69_0 k K ws rs N X := by
 show L69_0 k K ws rs N X = _
 unfold L69_0
 rw [Qj7]
 exact Q5 (a := Q17v) (b := Q18c) (G := fun ws rs => I69_0 k K ws rs N X) (fun x y => Eq.trans (by kernel_rfl) (Eq.trans (i69_0 k K N X x.1 x.2.1 k x.2.2.1).symm (by kernel_rfl))) ws rs
theorem tu69 : tOk (R := R) 69 aa69 ab69 g69 := by
 intro k x y K
 unfold g69
 rw [Qzr]
 cases k with
 | zero => rfl
 | succ k => exact eS Try.f69 an69 0 15 (L69 k K) [(0, Qkc, Q18v)] (by kernel_rfl) (Q1er k) (by kernel_rfl) ⟨l69_0 k K, trivial⟩ (by kernel_rfl)
noncomputable def s69 := onS (R := R) aa69 ab69 g69 (fun k => callC T F k 69)
theorem Q1i6 : sOk (R := R) s69 69 := Q6 (fun _ _ _ _ => rfl) tu69
noncomputable abbrev kt125 : Int → Option R := (fun z0 => K [zi z0] [])
abbrev aa125 : List Sh := [zv, zv]
abbrev ab125 : List RSh := []
noncomputable def g125 (k : Nat) (v : Sh.D.DL aa125 × RSh.DL ab125) (K : KT R) : Option R := f125 k v.1.1 v.1.2.1 (kt125 K)
noncomputable abbrev E125 := ending T Try.f125 an125 0 K
noncomputable def S125 := pickS (R := R) []
theorem Q1ak : ∀ k, S125 (R := R) k = callC T F k := Q3 trivial
noncomputable abbrev Qoo : Option R := inner T an125 (Q0 F) 0 k 16 (S125 k) (E125 K) Qir (sh Qch ws rs) N X
abbrev Qw0 : List Sh := [zv, .val [] .bool]
abbrev Qwv : List RSh := []
noncomputable def Qee : Option R :=
 Q4 Qw0 Qwv (fun v => Qfj k (fun p0 => N (sh Q10t [zi p0] [])) v.1.1 v.1.2.1) (Qoo k K ws rs N X) ws rs
noncomputable def L125 : Option R := bif id == 1000003 then Qee k K ws rs N X else none
theorem Q16k : L125 k K 1000003 ws rs N X = Qoo k K ws rs N X := by
 show Qee k K ws rs N X = _
 unfold Qee
 rw [Q82]
 exact lC (L125 k K) [] (by kernel_rfl) trivial fun x y => by kernel_rfl
theorem tu125 : tOk (R := R) 125 aa125 ab125 g125 := by
 intro k x y K
 unfold g125
 rw [Qr2]
 cases k with
 | zero => rfl
 | succ k => exact eS Try.f125 an125 0 16 (L125 k K) [(1000003, Qch, Qir)] (by kernel_rfl) (Q1ak k) (by kernel_rfl) ⟨Q16k k K, trivial⟩ (by kernel_rfl)
noncomputable def s125 := onS (R := R) aa125 ab125 g125 (fun k => callC T F k 125)
theorem Q1dq : sOk (R := R) s125 125 := Q6 (fun _ _ _ _ => rfl) tu125
noncomputable abbrev kt101 : Int → Option R := (fun z0 => K [zi z0] [])
abbrev aa101 : List Sh := [zv, zv]
abbrev ab101 : List RSh := []
noncomputable def g101 (k : Nat) (v : Sh.D.DL aa101 × RSh.DL ab101) (K : KT R) : Option R := f101 k v.1.1 v.1.2.1 (kt101 K)
noncomputable abbrev E101 := ending T Try.f101 an101 0 K
noncomputable def S101 := pickS (R := R) [(125, s125)]
theorem Q19z : ∀ k, S101 (R := R) k = callC T F k := Q3 ⟨Q1dq, trivial⟩
theorem tu101 : tOk (R := R) 101 aa101 ab101 g101 := by
 intro k x y K
 unfold g101
 rw [Qqi]
 cases k with
 | zero => rfl
 | succ k => exact eS Try.f101 an101 0 10 L0 [] (by kernel_rfl) (Q19z k) (by kernel_rfl) trivial (by kernel_rfl)
noncomputable def s101 := onS (R := R) aa101 ab101 g101 (fun k => callC T F k 101)
theorem Q1db : sOk (R := R) s101 101 := Q6 (fun _ _ _ _ => rfl) tu101
noncomputable abbrev kt60 : zK22 R := (fun z0 z1 z2 => K [zi z0, zi z1, zi z2] [])
abbrev aa60 : List Sh := [.agg [zv, zv, zv, zv, zv], zv]
abbrev ab60 : List RSh := []
noncomputable def g60 (k : Nat) (v : Sh.D.DL aa60 × RSh.DL ab60) (K : KT R) : Option R := f60 k v.1.1.1 v.1.1.2.1 v.1.1.2.2.1 v.1.1.2.2.2.1 v.1.1.2.2.2.2.1 v.1.2.1 (kt60 K)
noncomputable abbrev E60 := ending T Try.f60 an60 0 K
noncomputable def S60 := pickS (R := R) [(22, s22), (69, s69), (70, s70), (101, s101)]
theorem Q1ej : ∀ k, S60 (R := R) k = callC T F k := Q3 ⟨Q19p, Q1i6, Q1i7, Q1db, trivial⟩
theorem tu60 : tOk (R := R) 60 aa60 ab60 g60 := by
 intro k x y K
 unfold g60
 rw [Qzd]
 cases k with
 | zero => rfl
 | succ k => exact eS Try.f60 an60 0 32 L0 [] (by kernel_rfl) (Q1ej k) (by kernel_rfl) trivial (by kernel_rfl)
noncomputable def s60 := onS (R := R) aa60 ab60 g60 (fun k => callC T F k 60)
theorem Q1i1 : sOk (R := R) s60 60 := Q6 (fun _ _ _ _ => rfl) tu60
noncomputable abbrev kt62 : zK22 R := (fun z0 z1 z2 => K [zi z0, zi z1, zi z2] [])
abbrev aa62 : List Sh := [.agg [zv, zv, zv, zv, zv], zv]
abbrev ab62 : List RSh := []
noncomputable def g62 (k : Nat) (v : Sh.D.DL aa62 × RSh.DL ab62) (K : KT R) : Option R := f62 k v.1.1.1 v.1.1.2.1 v.1.1.2.2.1 v.1.1.2.2.2.1 v.1.1.2.2.2.2.1 v.1.2.1 (kt62 K)
noncomputable abbrev E62 := ending T Try.f62 an62 0 K
noncomputable def S62 := pickS (R := R) [(23, s23), (72, s72)]
theorem Q1el : ∀ k, S62 (R := R) k = callC T F k := Q3 ⟨Q19q, Qsn, trivial⟩
theorem tu62 : tOk (R := R) 62 aa62 ab62 g62 := by
 intro k x y K
 unfold g62
 rw [Qzg]
 cases k with
 | zero => rfl
 | succ k => exact eS Try.f62 an62 0 35 L0 [] (by kernel_rfl) (Q1el k) (by kernel_rfl) trivial (by kernel_rfl)
noncomputable def s62 := onS (R := R) aa62 ab62 g62 (fun k => callC T F k 62)
theorem Q1i3 : sOk (R := R) s62 62 := Q6 (fun _ _ _ _ => rfl) tu62
noncomputable abbrev kt51 : Bool → Option R := (fun z0 => K [.val [] .bool z0] [])
abbrev aa51 : List Sh := [.val [(0, 0)] zT2, .val [(0, 0)] zT2]
abbrev ab51 : List RSh := []
noncomputable def g51 (k : Nat) (v : Sh.D.DL aa51 × RSh.DL ab51) (K : KT R) : Option R := f51 k v.1.1 v.1.2.1 (kt51 K)
noncomputable abbrev E51 := ending T Try.f51 an51 0 K
noncomputable def S51 := pickS (R := R) []
theorem Q1eg : ∀ k, S51 (R := R) k = callC T F k := Q3 trivial
theorem tu51 : tOk (R := R) 51 aa51 ab51 g51 := by
 intro k x y K
 unfold g51
 rw [Qz9]
 cases k with
 | zero => rfl
 | succ k => exact eS Try.f51 an51 0 10 L0 [] (by kernel_rfl) (Q1eg k) (by kernel_rfl) trivial (by kernel_rfl)
noncomputable def s51 := onS (R := R) aa51 ab51 g51 (fun k => callC T F k 51)
theorem Q19s : sOk (R := R) s51 51 := Q6 (fun _ _ _ _ => rfl) tu51
noncomputable abbrev kt40 : Bool → Option R := (fun z0 => K [.val [] .bool z0] [])
abbrev aa40 : List Sh := [.val [(0, 0)] zT1, .val [(0, 0)] zT1]
abbrev ab40 : List RSh := []
noncomputable def g40 (k : Nat) (v : Sh.D.DL aa40 × RSh.DL ab40) (K : KT R) : Option R := f40 k v.1.1 v.1.2.1 (kt40 K)
noncomputable abbrev E40 := ending T Try.f40 an40 0 K
noncomputable def S40 := pickS (R := R) []
theorem Q1ef : ∀ k, S40 (R := R) k = callC T F k := Q3 trivial
noncomputable abbrev I40_0 : Option R := inner T an40 (Q0 F) 0 k 26 (S40 k) (E40 K) Q18o (sh Qk5 ws rs) N X
abbrev Q17o : List Sh := [.val [(0, 0)] zT1, .val [(0, 0)] zT1, zv, zv]
abbrev Q185 : List RSh := []
noncomputable def L40_0 : Option R :=
 Q4 Q17o Q185 (fun v => f40_0 k (kt40 K) (N (sh Q11v [] [])) v.1.1 v.1.2.1 v.1.2.2.1 k v.1.2.2.2.1) (I40_0 k K ws rs N X) ws rs
noncomputable def L40 : Option R := bif id == 0 then L40_0 k K ws rs N X else none
theorem i40_0 (c0 c1 : zL5) (c2 : Int) (m : Nat) : ∀ (c3 : Int),
  iter (atHead an40 0 Qow) m (fun st N' => exec T an40 (Q0 F) 0 k 26 (S40 k) (E40 K) Qow st N' (outX an40 0 0 N X)) (sh Qk5 [.val [(0, 0)] zT1 c0, .val [(0, 0)] zT1 c1, zi c2, zi c3] []) = Q87 k (kt40 K) (N (sh Q11v [] [])) c0 c1 c2 m c3 := by
 induction m with
 | zero => intros; rfl
 | succ m ih =>
   intro c3
   simp only [iter]
   rw [← Q9 T an40 (Q0 F) 0 k 26 (S40 k) (L40 k K) Qow (Qc _ _ _ _ _ _ _ _ Qow (l := []) (by kernel_rfl) trivial)]
   have h := fx1 ih
   simp only [Q87]
   rw [← h]
   show _ = _
   kernel_rfl
theorem l40_0 : L40 k K 0 ws rs N X = I40_0 k K ws rs N X := by
 show L40_0 k K ws rs N X = _
 unfold L40_0
 rw [Qj0]
 exact Q5 (a := Q17o) (b := Q185) (G := fun ws rs => I40_0 k K ws rs N X) (fun x y => Eq.trans (by kernel_rfl) (Eq.trans (i40_0 k K N X x.1 x.2.1 x.2.2.1 k x.2.2.2.1).symm (by kernel_rfl))) ws rs
theorem tu40 : tOk (R := R) 40 aa40 ab40 g40 := by
 intro k x y K
 unfold g40
 rw [Qz8]
 cases k with
 | zero => rfl
 | succ k => exact eS Try.f40 an40 0 26 (L40 k K) [(0, Qk5, Q18o)] (by kernel_rfl) (Q1ef k) (by kernel_rfl) ⟨l40_0 k K, trivial⟩ (by kernel_rfl)
noncomputable def s40 := onS (R := R) aa40 ab40 g40 (fun k => callC T F k 40)
theorem Q19r : sOk (R := R) s40 40 := Q6 (fun _ _ _ _ => rfl) tu40
noncomputable abbrev kt29 : Bool → Option R := (fun z0 => K [.val [] .bool z0] [])
abbrev aa29 : List Sh := [.agg [zv, zv, .val [] .str, .val [(0, 0)] zT2, zv, .val [(0, 0)] zT1, zv, zv], .agg [zv, zv, .val [] .str, .val [(0, 0)] zT2, zv, .val [(0, 0)] zT1, zv, zv]]
abbrev ab29 : List RSh := []
noncomputable def g29 (k : Nat) (v : Sh.D.DL aa29 × RSh.DL ab29) (K : KT R) : Option R := f29 k v.1.1.1 v.1.1.2.1 v.1.1.2.2.1 v.1.1.2.2.2.1 v.1.1.2.2.2.2.1 v.1.1.2.2.2.2.2.1 v.1.1.2.2.2.2.2.2.1 v.1.1.2.2.2.2.2.2.2.1 v.1.2.1.1 v.1.2.1.2.1 v.1.2.1.2.2.1 v.1.2.1.2.2.2.1 v.1.2.1.2.2.2.2.1 v.1.2.1.2.2.2.2.2.1 v.1.2.1.2.2.2.2.2.2.1 v.1.2.1.2.2.2.2.2.2.2.1 (kt29 K)
noncomputable abbrev E29 := ending T Try.f29 an29 0 K
noncomputable def S29 := pickS (R := R) [(40, s40), (51, s51)]
theorem Q1ed : ∀ k, S29 (R := R) k = callC T F k := Q3 ⟨Q19r, Q19s, trivial⟩
theorem tu29 : tOk (R := R) 29 aa29 ab29 g29 := by
 intro k x y K
 unfold g29
 rw [Qz5]
 cases k with
 | zero => rfl
 | succ k => exact eS Try.f29 an29 0 59 L0 [] (by kernel_rfl) (Q1ed k) (by kernel_rfl) trivial (by kernel_rfl)
noncomputable def s29 := onS (R := R) aa29 ab29 g29 (fun k => callC T F k 29)
theorem Q1hx : sOk (R := R) s29 29 := Q6 (fun _ _ _ _ => rfl) tu29
noncomputable abbrev kt38 : Bool → Option R := (fun z0 => K [.val [] .bool z0] [])
abbrev aa38 : List Sh := [.agg [zv, zv, .val [] .str, .val [(0, 0)] zT2, .val [(0, 0)] zT1, zv, zv, zv, zv], .agg [zv, zv, .val [] .str, .val [(0, 0)] zT2, .val [(0, 0)] zT1, zv, zv, zv, zv]]
abbrev ab38 : List RSh := []
noncomputable def g38 (k : Nat) (v : Sh.D.DL aa38 × RSh.DL ab38) (K : KT R) : Option R := let u0 := v.1.1.2.2.2.2.2.2.2; let u1 := v.1.2.1.2.2.2.2.2.2.2; f38 k v.1.1.1 v.1.1.2.1 v.1.1.2.2.1 v.1.1.2.2.2.1 v.1.1.2.2.2.2.1 v.1.1.2.2.2.2.2.1 v.1.1.2.2.2.2.2.2.1 v.1.1.2.2.2.2.2.2.2.1 u0.2.1 v.1.2.1.1 v.1.2.1.2.1 v.1.2.1.2.2.1 v.1.2.1.2.2.2.1 v.1.2.1.2.2.2.2.1 v.1.2.1.2.2.2.2.2.1 v.1.2.1.2.2.2.2.2.2.1 v.1.2.1.2.2.2.2.2.2.2.1 u1.2.1 (kt38 K)
noncomputable abbrev E38 := ending T Try.f38 an38 0 K
noncomputable def S38 := pickS (R := R) [(40, s40), (51, s51)]
theorem Q1ee : ∀ k, S38 (R := R) k = callC T F k := Q3 ⟨Q19r, Q19s, trivial⟩
theorem tu38 : tOk (R := R) 38 aa38 ab38 g38 := by
 intro k x y K
 unfold g38
 rw [Qz6]
 cases k with
 | zero => rfl
 | succ k => exact eS Try.f38 an38 0 66 L0 [] (by kernel_rfl) (Q1ee k) (by kernel_rfl) trivial (by kernel_rfl)
noncomputable def s38 := onS (R := R) aa38 ab38 g38 (fun k => callC T F k 38)
theorem Q1hy : sOk (R := R) s38 38 := Q6 (fun _ _ _ _ => rfl) tu38
noncomputable abbrev kt63 : Bool → Option R := (fun z0 => K [.val [] .bool z0] [])
abbrev aa63 : List Sh := [.val [(0, 0)] (.slice (.int .i64)), .val [(0, 0)] (.slice (.int .i64))]
abbrev ab63 : List RSh := []
noncomputable def g63 (k : Nat) (v : Sh.D.DL aa63 × RSh.DL ab63) (K : KT R) : Option R := f63 k v.1.1 v.1.2.1 (kt63 K)
noncomputable abbrev E63 := ending T Try.f63 an63 0 K
noncomputable def S63 := pickS (R := R) []
theorem Q1em : ∀ k, S63 (R := R) k = callC T F k := Q3 trivial
noncomputable abbrev I63_0 : Option R := inner T an63 (Q0 F) 0 k 26 (S63 k) (E63 K) Q18r (sh Qk8 ws rs) N X
abbrev Q17r : List Sh := [.val [(0, 0)] (.slice (.int .i64)), .val [(0, 0)] (.slice (.int .i64)), zv, zv]
abbrev Q188 : List RSh := []
noncomputable def L63_0 : Option R :=
 Q4 Q17r Q188 (fun v => f63_0 k (kt63 K) (N (sh Q11y [] [])) v.1.1 v.1.2.1 v.1.2.2.1 k v.1.2.2.2.1) (I63_0 k K ws rs N X) ws rs
noncomputable def L63 : Option R := bif id == 0 then L63_0 k K ws rs N X else none
theorem i63_0 (c0 c1 : List Int) (c2 : Int) (m : Nat) : ∀ (c3 : Int),
  iter (atHead an63 0 Qoz) m (fun st N' => exec T an63 (Q0 F) 0 k 26 (S63 k) (E63 K) Qoz st N' (outX an63 0 0 N X)) (sh Qk8 [.val [(0, 0)] (.slice (.int .i64)) c0, .val [(0, 0)] (.slice (.int .i64)) c1, zi c2, zi c3] []) = Q8a k (kt63 K) (N (sh Q11y [] [])) c0 c1 c2 m c3 := by
 induction m with
 | zero => intros; rfl
 | succ m ih =>
   intro c3
   simp only [iter]
   rw [← Q9 T an63 (Q0 F) 0 k 26 (S63 k) (L63 k K) Qoz (Qc _ _ _ _ _ _ _ _ Qoz (l := []) (by kernel_rfl) trivial)]
   have h := fx1 ih
   simp only [Q8a]
   rw [← h]
   show _ = _
   kernel_rfl
theorem l63_0 : L63 k K 0 ws rs N X = I63_0 k K ws rs N X := by
 show L63_0 k K ws rs N X = _
 unfold L63_0
 rw [Qj3]
 exact Q5 (a := Q17r) (b := Q188) (G := fun ws rs => I63_0 k K ws rs N X) (fun x y => Eq.trans (by kernel_rfl) (Eq.trans (i63_0 k K N X x.1 x.2.1 x.2.2.1 k x.2.2.2.1).symm (by kernel_rfl))) ws rs
theorem tu63 : tOk (R := R) 63 aa63 ab63 g63 := by
 intro k x y K
 unfold g63
 rw [Qzi]
 cases k with
 | zero => rfl
 | succ k => exact eS Try.f63 an63 0 26 (L63 k K) [(0, Qk8, Q18r)] (by kernel_rfl) (Q1em k) (by kernel_rfl) ⟨l63_0 k K, trivial⟩ (by kernel_rfl)
noncomputable def s63 := onS (R := R) aa63 ab63 g63 (fun k => callC T F k 63)
theorem Q1i4 : sOk (R := R) s63 63 := Q6 (fun _ _ _ _ => rfl) tu63
noncomputable abbrev kt18 : Int → Int → Option R := (fun z0 z1 => K [zi z0, zi z1] [])
abbrev aa18 : List Sh := [.val [(0, 0)] zT2]
abbrev ab18 : List RSh := []
noncomputable def g18 (k : Nat) (v : Sh.D.DL aa18 × RSh.DL ab18) (K : KT R) : Option R := f18 k v.1.1 (kt18 K)
noncomputable abbrev E18 := ending T Try.f18 an18 0 K
noncomputable def S18 := pickS (R := R) [(64, s64)]
theorem Q1e7 : ∀ k, S18 (R := R) k = callC T F k := Q3 ⟨Qsm, trivial⟩
theorem tu18 : tOk (R := R) 18 aa18 ab18 g18 := by
 intro k x y K
 unfold g18
 rw [Qyz]
 cases k with
 | zero => rfl
 | succ k => exact eS Try.f18 an18 0 9 L0 [] (by kernel_rfl) (Q1e7 k) (by kernel_rfl) trivial (by kernel_rfl)
noncomputable def s18 := onS (R := R) aa18 ab18 g18 (fun k => callC T F k 18)
theorem Q1ht : sOk (R := R) s18 18 := Q6 (fun _ _ _ _ => rfl) tu18
noncomputable abbrev kt24 : Bool → Option R := (fun z0 => K [.val [] .bool z0] [])
abbrev aa24 : List Sh := []
abbrev ab24 : List RSh := []
noncomputable def g24 (k : Nat) (v : Sh.D.DL aa24 × RSh.DL ab24) (K : KT R) : Option R := f24 k (kt24 K)
noncomputable abbrev E24 := ending T Try.f24 an24 0 K
noncomputable def S24 := pickS (R := R) [(18, s18)]
theorem Q1ea : ∀ k, S24 (R := R) k = callC T F k := Q3 ⟨Q1ht, trivial⟩
theorem tu24 : tOk (R := R) 24 aa24 ab24 g24 := by
 intro k x y K
 unfold g24
 rw [Qz2]
 cases k with
 | zero => rfl
 | succ k => exact eS Try.f24 an24 0 14 L0 [] (by kernel_rfl) (Q1ea k) (by kernel_rfl) trivial (by kernel_rfl)
noncomputable def s24 := onS (R := R) aa24 ab24 g24 (fun k => callC T F k 24)
theorem Q1hu : sOk (R := R) s24 24 := Q6 (fun _ _ _ _ => rfl) tu24
noncomputable abbrev kt17 : Bool → Option R := (fun z0 => K [.val [] .bool z0] [])
abbrev aa17 : List Sh := [.agg [zv, zv, zv, zv, zv], zv, .val [] .str, .val [(0, 0)] zT2, .val [(0, 0)] zT3, .val [(0, 0)] zT3, zv]
abbrev ab17 : List RSh := []
noncomputable def g17 (k : Nat) (v : Sh.D.DL aa17 × RSh.DL ab17) (K : KT R) : Option R := f17 k v.1.1.1 v.1.1.2.1 v.1.1.2.2.1 v.1.1.2.2.2.1 v.1.1.2.2.2.2.1 v.1.2.1 v.1.2.2.1 v.1.2.2.2.1 v.1.2.2.2.2.1 v.1.2.2.2.2.2.1 v.1.2.2.2.2.2.2.1 (kt17 K)
noncomputable abbrev E17 := ending T Try.f17 an17 0 K
noncomputable def S17 := pickS (R := R) [(24, s24), (29, s29), (38, s38), (59, s59), (60, s60), (61, s61), (62, s62), (63, s63)]
theorem Q1e6 : ∀ k, S17 (R := R) k = callC T F k := Q3 ⟨Q1hu, Q1hx, Q1hy, Q1i0, Q1i1, Q1i2, Q1i3, Q1i4, trivial⟩
theorem e17 (k : Nat) (a0 a1 a2 a3 a4 a5 : Int) (a6 : ByteArray) (a7 : List Int) (a8 a9 : List Bool) (a10 : Int) (K : KT R) : callC T F k 17 [.agg [zi a0, zi a1, zi a2, zi a3, zi a4], zi a5, .val [] .str a6, .val [(0, 0)] zT2 a7, .val [(0, 0)] zT3 a8, .val [(0, 0)] zT3 a9, zi a10] [] K = f17 k a0 a1 a2 a3 a4 a5 a6 a7 a8 a9 a10 (kt17 K) := by
 rw [Qyy]
 cases k with
 | zero => rfl
 | succ k => exact eS Try.f17 an17 0 107 L0 [] (by kernel_rfl) (Q1e6 k) (by kernel_rfl) trivial (by kernel_rfl)
end Go.Proofs.Ytlcklflbhhnnhaa.PM
