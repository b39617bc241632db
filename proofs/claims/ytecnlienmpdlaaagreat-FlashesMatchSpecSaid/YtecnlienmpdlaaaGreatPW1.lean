import Derived.Test.YtecnlienmpdlaaaGreatPW0
set_option linter.unusedVariables false
set_option linter.unusedSimpArgs false
set_option maxRecDepth 100000
namespace Go.Proofs.YtecnlienmpdlaaaGreat.PM
open Go
variable {R : Type} (k : Nat) (K : KT R) (id : Nat) (ws : List PV) (rs : List RowS) (N : St → Oq R) (X : Nat → St → Oq R)
noncomputable abbrev kt149 : zK4 R := (fun z0 z1 z2 z3 z4 z5 z6 z7 z8 z9 => K [] [zr3 z0, zr7 z1 z2 z3 z4 z5 z6 z7 z8 z9])
abbrev aa149 : List Sh := [.rw 1, zv, zv, zv, .fn 114 [.ptr 2 0]]
abbrev ab149 : List RSh := [.arr [] (.int .i64), zs4]
noncomputable def g149 (k : Nat) (v : Sh.D.DL aa149 × RSh.DL ab149) (K : KT R) : Oq R := let u0 := v.2.2.1.2.2.2.2.2.2.2; f149 k v.1.2.1 v.1.2.2.1 v.1.2.2.2.1 v.2.1 v.2.2.1.1 v.2.2.1.2.1 v.2.2.1.2.2.1 v.2.2.1.2.2.2.1 v.2.2.1.2.2.2.2.1 v.2.2.1.2.2.2.2.2.1 v.2.2.1.2.2.2.2.2.2.1 v.2.2.1.2.2.2.2.2.2.2.1 u0.2.1 (kt149 K)
noncomputable def s149 := onS (R := R) aa149 ab149 g149 (fun k => callC T F k 149)
noncomputable abbrev E149 := ending T Tryz.f149 an149 2 K
noncomputable def S149 := pickS (R := R) [(149, s149), (114, s114), (186, s186)]
theorem Q1bd {k : Nat} (ih : ∀ x y (K : KT R), callC T F k 149 (Sh.build.buildL aa149 x) (RSh.buildL ab149 y) K = g149 k (x, y) K) : S149 (R := R) k = callC T F k := Q174 ih ⟨Q14m, Q1du, trivial⟩
noncomputable abbrev Qpf : Oq R := inner T an149 (Q0 F) 2 k 220 (S149 k) (E149 K) Qk1 (sh Qdh ws rs) N X
abbrev Qxa : List Sh := [.rw 1, zv, .fn 114 [.ptr 2 0], zv, zv, zv, .val [] .bool]
abbrev Qym : List RSh := [.arr [] (.int .i64), zs4]
noncomputable def Qgm : Oq R :=
 Q6 Qxa Qym (fun v => let u0 := v.2.2.1.2.2.2.2.2.2.2; Qi9 k (fun p1 p2 => N (sh Q60 [.rw 1, zi v.1.2.1, .fn 114 [.ptr 2 0], zi p1, zi p2] [zr3 v.2.1, zr7 v.2.2.1.1 v.2.2.1.2.1 v.2.2.1.2.2.1 v.2.2.1.2.2.2.1 v.2.2.1.2.2.2.2.1 v.2.2.1.2.2.2.2.2.1 v.2.2.1.2.2.2.2.2.2.1 v.2.2.1.2.2.2.2.2.2.2.1 u0.2.1])) v.1.2.2.2.1 v.1.2.2.2.2.1 v.1.2.2.2.2.2.1 v.1.2.2.2.2.2.2.1) (Qpf k K ws rs N X) ws rs
noncomputable abbrev Quu : Oq R := inner T an149 (Q0 F) 2 k 220 (S149 k) (E149 K) Qzq (sh Q60 ws rs) N X
abbrev Qx5 : List Sh := [.rw 1, zv, .fn 114 [.ptr 2 0], zv, zv]
abbrev Qyh : List RSh := [.arr [] (.int .i64), zs4]
noncomputable def Qvz : Oq R :=
 Q6 Qx5 Qyh (fun v => let u0 := v.2.2.1.2.2.2.2.2.2.2; Qrw k (fun p1 p3 p4 p5 p6 p7 p8 p9 p10 p11 => N (sh Q6s [.rw 1, zi v.1.2.1, zi p1] [zr3 v.2.1, zr7 p3 p4 p5 p6 p7 p8 p9 p10 p11])) v.1.2.1 v.2.1 k v.1.2.2.2.1 v.1.2.2.2.2.1 v.2.2.1.1 v.2.2.1.2.1 v.2.2.1.2.2.1 v.2.2.1.2.2.2.1 v.2.2.1.2.2.2.2.1 v.2.2.1.2.2.2.2.2.1 v.2.2.1.2.2.2.2.2.2.1 v.2.2.1.2.2.2.2.2.2.2.1 u0.2.1) (Quu k K ws rs N X) ws rs
noncomputable abbrev Quv : Oq R := inner T an149 (Q0 F) 2 k 220 (S149 k) (E149 K) Qzr (sh Q9h ws rs) N X
abbrev Qx6 : List Sh := [.rw 1, zv, zv]
abbrev Qyi : List RSh := [.arr [] (.int .i64), zs4]
noncomputable def Qw0 : Oq R :=
 Q6 Qx6 Qyi (fun v => let u0 := v.2.2.1.2.2.2.2.2.2.2; Qrx k (fun p0 => N (sh Qg [] [zr3 p0, zr7 v.2.2.1.1 v.2.2.1.2.1 v.2.2.1.2.2.1 v.2.2.1.2.2.2.1 v.2.2.1.2.2.2.2.1 v.2.2.1.2.2.2.2.2.1 v.2.2.1.2.2.2.2.2.2.1 v.2.2.1.2.2.2.2.2.2.2.1 u0.2.1])) v.1.2.1 v.2.2.1.1 v.2.2.1.2.1 v.2.2.1.2.2.1 v.2.2.1.2.2.2.1 v.2.2.1.2.2.2.2.1 v.2.2.1.2.2.2.2.2.1 v.2.2.1.2.2.2.2.2.2.1 v.2.2.1.2.2.2.2.2.2.2.1 u0.2.1 k v.1.2.2.1 v.2.1) (Quv k K ws rs N X) ws rs
noncomputable abbrev Qpg : Oq R := inner T an149 (Q0 F) 2 k 220 (S149 k) (E149 K) Qk2 (sh Qdi ws rs) N X
abbrev Qxb : List Sh := [.rw 1, zv, .fn 114 [.ptr 2 0], zv, zv, zv, .val [] .bool]
abbrev Qyn : List RSh := [.arr [] (.int .i64), zs4]
noncomputable def Qgn : Oq R :=
 Q6 Qxb Qyn (fun v => let u0 := v.2.2.1.2.2.2.2.2.2.2; Qia k (fun p1 p2 => N (sh Q61 [.rw 1, zi v.1.2.1, .fn 114 [.ptr 2 0], zi p1, zi p2] [zr3 v.2.1, zr7 v.2.2.1.1 v.2.2.1.2.1 v.2.2.1.2.2.1 v.2.2.1.2.2.2.1 v.2.2.1.2.2.2.2.1 v.2.2.1.2.2.2.2.2.1 v.2.2.1.2.2.2.2.2.2.1 v.2.2.1.2.2.2.2.2.2.2.1 u0.2.1])) v.1.2.2.2.1 v.1.2.2.2.2.1 v.1.2.2.2.2.2.1 v.1.2.2.2.2.2.2.1) (Qpg k K ws rs N X) ws rs
noncomputable abbrev Quw : Oq R := inner T an149 (Q0 F) 2 k 220 (S149 k) (E149 K) Qzs (sh Q61 ws rs) N X
abbrev Qx7 : List Sh := [.rw 1, zv, .fn 114 [.ptr 2 0], zv, zv]
abbrev Qyj : List RSh := [.arr [] (.int .i64), zs4]
noncomputable def Qw1 : Oq R :=
 Q6 Qx7 Qyj (fun v => let u0 := v.2.2.1.2.2.2.2.2.2.2; Qry k (fun p1 p3 p4 p5 p6 p7 p8 p9 p10 p11 => N (sh Qom [.rw 1, zi v.1.2.1, zi p1] [zr3 v.2.1, zr7 p3 p4 p5 p6 p7 p8 p9 p10 p11])) v.1.2.1 v.2.1 k v.1.2.2.2.1 v.1.2.2.2.2.1 v.2.2.1.1 v.2.2.1.2.1 v.2.2.1.2.2.1 v.2.2.1.2.2.2.1 v.2.2.1.2.2.2.2.1 v.2.2.1.2.2.2.2.2.1 v.2.2.1.2.2.2.2.2.2.1 v.2.2.1.2.2.2.2.2.2.2.1 u0.2.1) (Quw k K ws rs N X) ws rs
noncomputable abbrev Qux : Oq R := inner T an149 (Q0 F) 2 k 220 (S149 k) (E149 K) Qzt (sh Q9i ws rs) N X
abbrev Qx8 : List Sh := [.rw 1, zv, zv]
abbrev Qyk : List RSh := [.arr [] (.int .i64), zs4]
noncomputable def Qw2 : Oq R :=
 Q6 Qx8 Qyk (fun v => let u0 := v.2.2.1.2.2.2.2.2.2.2; Qrz k (fun p0 => N (sh Qg [] [zr3 p0, zr7 v.2.2.1.1 v.2.2.1.2.1 v.2.2.1.2.2.1 v.2.2.1.2.2.2.1 v.2.2.1.2.2.2.2.1 v.2.2.1.2.2.2.2.2.1 v.2.2.1.2.2.2.2.2.2.1 v.2.2.1.2.2.2.2.2.2.2.1 u0.2.1])) v.1.2.1 v.2.2.1.1 v.2.2.1.2.1 v.2.2.1.2.2.1 v.2.2.1.2.2.2.1 v.2.2.1.2.2.2.2.1 v.2.2.1.2.2.2.2.2.1 v.2.2.1.2.2.2.2.2.2.1 v.2.2.1.2.2.2.2.2.2.2.1 u0.2.1 k v.1.2.2.1 v.2.1) (Qux k K ws rs N X) ws rs
noncomputable abbrev Qph : Oq R := inner T an149 (Q0 F) 2 k 220 (S149 k) (E149 K) Qk3 (sh Qdj ws rs) N X
abbrev Qxc : List Sh := [.rw 1, zv, zv, zv, .fn 114 [.ptr 2 0], zv, zv, .val [] .bool]
abbrev Qyo : List RSh := [.arr [] (.int .i64), zs4]
noncomputable def Qgo : Oq R :=
 Q6 Qxc Qyo (fun v => let u0 := v.2.2.1.2.2.2.2.2.2.2; Q7z k (fun p5 p6 => N (sh Qsa [.rw 1, zi v.1.2.1, zi v.1.2.2.1, zi v.1.2.2.2.1, .fn 114 [.ptr 2 0], zi v.1.2.2.2.2.2.1, zi v.1.2.2.2.2.2.2.1, zi p5, zi p6] [zr3 v.2.1, zr7 v.2.2.1.1 v.2.2.1.2.1 v.2.2.1.2.2.1 v.2.2.1.2.2.2.1 v.2.2.1.2.2.2.2.1 v.2.2.1.2.2.2.2.2.1 v.2.2.1.2.2.2.2.2.2.1 v.2.2.1.2.2.2.2.2.2.2.1 u0.2.1])) v.1.2.1 v.1.2.2.1 v.1.2.2.2.1 v.1.2.2.2.2.2.1 v.1.2.2.2.2.2.2.1 v.1.2.2.2.2.2.2.2.1) (Qph k K ws rs N X) ws rs
noncomputable abbrev Qpi : Oq R := inner T an149 (Q0 F) 2 k 220 (S149 k) (E149 K) Qk4 (sh Qdk ws rs) N X
abbrev Qxd : List Sh := [.rw 1, zv, zv, zv, .fn 114 [.ptr 2 0], zv, zv, zv, zv, zv, zv, .val [] .bool]
abbrev Qyp : List RSh := [.arr [] (.int .i64), zs4]
noncomputable def Qgp : Oq R :=
 Q6 Qxd Qyp (fun v => let u0 := v.1.2.2.2.2.2.2.2; let u1 := v.2.2.1.2.2.2.2.2.2.2; Qib k (fun p5 p6 => N (sh Q62 [.rw 1, zi v.1.2.1, zi v.1.2.2.1, zi v.1.2.2.2.1, .fn 114 [.ptr 2 0], zi v.1.2.2.2.2.2.1, zi v.1.2.2.2.2.2.2.1, zi p5, zi p6, zi u0.2.2.1] [zr3 v.2.1, zr7 v.2.2.1.1 v.2.2.1.2.1 v.2.2.1.2.2.1 v.2.2.1.2.2.2.1 v.2.2.1.2.2.2.2.1 v.2.2.1.2.2.2.2.2.1 v.2.2.1.2.2.2.2.2.2.1 v.2.2.1.2.2.2.2.2.2.2.1 u1.2.1])) v.1.2.2.2.2.2.2.2.1 u0.2.1 u0.2.2.2.1 u0.2.2.2.2.1) (Qpi k K ws rs N X) ws rs
noncomputable abbrev Quy : Oq R := inner T an149 (Q0 F) 2 k 220 (S149 k) (E149 K) Qzu (sh Q62 ws rs) N X
abbrev Qx9 : List Sh := [.rw 1, zv, zv, zv, .fn 114 [.ptr 2 0], zv, zv, zv, zv, zv]
abbrev Qyl : List RSh := [.arr [] (.int .i64), zs4]
noncomputable def Qw3 : Oq R :=
 Q6 Qx9 Qyl (fun v => let u0 := v.1.2.2.2.2.2.2.2; let u1 := v.2.2.1.2.2.2.2.2.2.2; Qs0 k (fun p5 p7 p8 p9 p10 p11 p12 p13 p14 p15 => N (sh Qon [.rw 1, zi v.1.2.1, zi v.1.2.2.1, zi v.1.2.2.2.1, .fn 114 [.ptr 2 0], zi v.1.2.2.2.2.2.1, zi v.1.2.2.2.2.2.2.1, zi p5] [zr3 v.2.1, zr7 p7 p8 p9 p10 p11 p12 p13 p14 p15])) v.1.2.1 v.1.2.2.1 v.1.2.2.2.1 v.1.2.2.2.2.2.1 v.1.2.2.2.2.2.2.1 u0.2.2.1 v.2.1 k v.1.2.2.2.2.2.2.2.1 u0.2.1 v.2.2.1.1 v.2.2.1.2.1 v.2.2.1.2.2.1 v.2.2.1.2.2.2.1 v.2.2.1.2.2.2.2.1 v.2.2.1.2.2.2.2.2.1 v.2.2.1.2.2.2.2.2.2.1 v.2.2.1.2.2.2.2.2.2.2.1 u1.2.1) (Quy k K ws rs N X) ws rs
noncomputable abbrev Qpj : Oq R := inner T an149 (Q0 F) 2 k 220 (S149 k) (E149 K) Qk5 (sh Qdl ws rs) N X
abbrev Qxe : List Sh := [.rw 1, zv, zv, zv, .fn 114 [.ptr 2 0], zv, zv, zv, .val [] .bool]
abbrev Qyq : List RSh := [.arr [] (.int .i64), zs4]
noncomputable def Qgq : Oq R :=
 Q6 Qxe Qyq (fun v => let u0 := v.1.2.2.2.2.2.2.2; let u1 := v.2.2.1.2.2.2.2.2.2.2; Q40 k (fun p5 p6 p7 p8 p9 p10 p11 p12 p13 p14 => N (sh Qsb [.rw 1, zi v.1.2.1, zi v.1.2.2.2.1, .fn 114 [.ptr 2 0], zi v.1.2.2.2.2.2.1, zi v.1.2.2.2.2.2.2.1, zi v.1.2.2.2.2.2.2.2.1] [zr3 p5, zr7 p6 p7 p8 p9 p10 p11 p12 p13 p14])) v.1.2.2.1 v.1.2.2.2.2.2.2.1 v.1.2.2.2.2.2.2.2.1 u0.2.1 v.2.1 v.2.2.1.1 v.2.2.1.2.1 v.2.2.1.2.2.1 v.2.2.1.2.2.2.1 v.2.2.1.2.2.2.2.1 v.2.2.1.2.2.2.2.2.1 v.2.2.1.2.2.2.2.2.2.1 v.2.2.1.2.2.2.2.2.2.2.1 u1.2.1) (Qpj k K ws rs N X) ws rs
noncomputable def L149 : Oq R := bif id == 1000006 then Qgm k K ws rs N X else bif id == 0 then Qvz k K ws rs N X else bif id == 2 then Qw0 k K ws rs N X else bif id == 1000018 then Qgn k K ws rs N X else bif id == 4 then Qw1 k K ws rs N X else bif id == 6 then Qw2 k K ws rs N X else bif id == 1000028 then Qgo k K ws rs N X else bif id == 1000036 then Qgp k K ws rs N X else bif id == 8 then Qw3 k K ws rs N X else bif id == 1000040 then Qgq k K ws rs N X else none
theorem Q16e : L149 k K 1000006 ws rs N X = Qpf k K ws rs N X := by
 show Qgm k K ws rs N X = _
 unfold Qgm
 rw [Q9y]
 exact lC (L149 k K) [] (by kernel_rfl) trivial fun x y => by kernel_rfl
theorem Q1h6 (c0 : Int) (c3 : LI) (m : Nat) : ∀ (c1 c2 c4 c5 c6 : Int) (c7 c8 c9 c10 : LI) (c11 : zL1) (c12 : Int),
  iter (atHead an149 2 Qhk) m (fun st N' => exec T an149 (Q0 F) 2 k 220 (S149 k) (E149 K) Qhk st N' (outX an149 2 0 N X)) (sh Q60 [.rw 1, zi c0, .fn 114 [.ptr 2 0], zi c1, zi c2] [zr3 c3, zr7 c4 c5 c6 c7 c8 c9 c10 c11 c12]) = Q3x k (fun p1 p3 p4 p5 p6 p7 p8 p9 p10 p11 => N (sh Q6s [.rw 1, zi c0, zi p1] [zr3 c3, zr7 p3 p4 p5 p6 p7 p8 p9 p10 p11])) c0 c3 m c1 c2 c4 c5 c6 c7 c8 c9 c10 c11 c12 := by
 induction m with
 | zero => intros; rfl
 | succ m ih =>
   intro c1 c2 c4 c5 c6 c7 c8 c9 c10 c11 c12
   simp only [iter]
   rw [← Q7 T an149 (Q0 F) 2 k 220 (S149 k) (L149 k K) Qhk (Qb _ _ _ _ _ _ _ _ Qhk (l := [(1000006, Qdh, Qk1)]) (by kernel_rfl) ⟨Q16e k K, trivial⟩)]
   have h := fx11 ih
   simp only [Q3x]
   rw [← h]
   show _ = _
   kernel_rfl
theorem Q1i8 : L149 k K 0 ws rs N X = Quu k K ws rs N X := by
 show Qvz k K ws rs N X = _
 unfold Qvz
 rw [Qex]
 exact Q4 (a := Qx5) (b := Qyh) (G := fun ws rs => Quu k K ws rs N X) (fun x y => Eq.trans (by kernel_rfl) (Eq.trans (Q1h6 k K N X x.2.1 y.1 k x.2.2.2.1 x.2.2.2.2.1 y.2.1.1 y.2.1.2.1 y.2.1.2.2.1 y.2.1.2.2.2.1 y.2.1.2.2.2.2.1 y.2.1.2.2.2.2.2.1 y.2.1.2.2.2.2.2.2.1 y.2.1.2.2.2.2.2.2.2.1 y.2.1.2.2.2.2.2.2.2.2.1).symm (by kernel_rfl))) ws rs
theorem Q1h7 (c0 c3 c4 c5 : Int) (c6 c7 c8 c9 : LI) (c10 : zL1) (c11 : Int) (m : Nat) : ∀ (c1 : Int) (c2 : LI),
  iter (atHead an149 2 Qhl) m (fun st N' => exec T an149 (Q0 F) 2 k 220 (S149 k) (E149 K) Qhl st N' (outX an149 2 2 N X)) (sh Q9h [.rw 1, zi c0, zi c1] [zr3 c2, zr7 c3 c4 c5 c6 c7 c8 c9 c10 c11]) = Q5c k (fun p0 => N (sh Qg [] [zr3 p0, zr7 c3 c4 c5 c6 c7 c8 c9 c10 c11])) c0 c3 c4 c5 c6 c7 c8 c9 c10 c11 m c1 c2 := by
 induction m with
 | zero => intros; rfl
 | succ m ih =>
   intro c1 c2
   simp only [iter]
   rw [← Q7 T an149 (Q0 F) 2 k 220 (S149 k) (L149 k K) Qhl (Qb _ _ _ _ _ _ _ _ Qhl (l := []) (by kernel_rfl) trivial)]
   have h := fx2 ih
   simp only [Q5c]
   rw [← h]
   show _ = _
   kernel_rfl
theorem Q1i9 : L149 k K 2 ws rs N X = Quv k K ws rs N X := by
 show Qw0 k K ws rs N X = _
 unfold Qw0
 rw [Qey]
 exact Q4 (a := Qx6) (b := Qyi) (G := fun ws rs => Quv k K ws rs N X) (fun x y => Eq.trans (by kernel_rfl) (Eq.trans (Q1h7 k K N X x.2.1 y.2.1.1 y.2.1.2.1 y.2.1.2.2.1 y.2.1.2.2.2.1 y.2.1.2.2.2.2.1 y.2.1.2.2.2.2.2.1 y.2.1.2.2.2.2.2.2.1 y.2.1.2.2.2.2.2.2.2.1 y.2.1.2.2.2.2.2.2.2.2.1 k x.2.2.1 y.1).symm (by kernel_rfl))) ws rs
theorem Q16f : L149 k K 1000018 ws rs N X = Qpg k K ws rs N X := by
 show Qgn k K ws rs N X = _
 unfold Qgn
 rw [Q9z]
 exact lC (L149 k K) [] (by kernel_rfl) trivial fun x y => by kernel_rfl
theorem Q1h8 (c0 : Int) (c3 : LI) (m : Nat) : ∀ (c1 c2 c4 c5 c6 : Int) (c7 c8 c9 c10 : LI) (c11 : zL1) (c12 : Int),
  iter (atHead an149 2 Qhm) m (fun st N' => exec T an149 (Q0 F) 2 k 220 (S149 k) (E149 K) Qhm st N' (outX an149 2 4 N X)) (sh Q61 [.rw 1, zi c0, .fn 114 [.ptr 2 0], zi c1, zi c2] [zr3 c3, zr7 c4 c5 c6 c7 c8 c9 c10 c11 c12]) = Q3y k (fun p1 p3 p4 p5 p6 p7 p8 p9 p10 p11 => N (sh Qom [.rw 1, zi c0, zi p1] [zr3 c3, zr7 p3 p4 p5 p6 p7 p8 p9 p10 p11])) c0 c3 m c1 c2 c4 c5 c6 c7 c8 c9 c10 c11 c12 := by
 induction m with
 | zero => intros; rfl
 | succ m ih =>
   intro c1 c2 c4 c5 c6 c7 c8 c9 c10 c11 c12
   simp only [iter]
   rw [← Q7 T an149 (Q0 F) 2 k 220 (S149 k) (L149 k K) Qhm (Qb _ _ _ _ _ _ _ _ Qhm (l := [(1000018, Qdi, Qk2)]) (by kernel_rfl) ⟨Q16f k K, trivial⟩)]
   have h := fx11 ih
   simp only [Q3y]
   rw [← h]
   show _ = _
   kernel_rfl
theorem Q1ia : L149 k K 4 ws rs N X = Quw k K ws rs N X := by
 show Qw1 k K ws rs N X = _
 unfold Qw1
 rw [Qez]
 exact Q4 (a := Qx7) (b := Qyj) (G := fun ws rs => Quw k K ws rs N X) (fun x y => Eq.trans (by kernel_rfl) (Eq.trans (Q1h8 k K N X x.2.1 y.1 k x.2.2.2.1 x.2.2.2.2.1 y.2.1.1 y.2.1.2.1 y.2.1.2.2.1 y.2.1.2.2.2.1 y.2.1.2.2.2.2.1 y.2.1.2.2.2.2.2.1 y.2.1.2.2.2.2.2.2.1 y.2.1.2.2.2.2.2.2.2.1 y.2.1.2.2.2.2.2.2.2.2.1).symm (by kernel_rfl))) ws rs
theorem Q1h9 (c0 c3 c4 c5 : Int) (c6 c7 c8 c9 : LI) (c10 : zL1) (c11 : Int) (m : Nat) : ∀ (c1 : Int) (c2 : LI),
  iter (atHead an149 2 Qhn) m (fun st N' => exec T an149 (Q0 F) 2 k 220 (S149 k) (E149 K) Qhn st N' (outX an149 2 6 N X)) (sh Q9i [.rw 1, zi c0, zi c1] [zr3 c2, zr7 c3 c4 c5 c6 c7 c8 c9 c10 c11]) = Q5d k (fun p0 => N (sh Qg [] [zr3 p0, zr7 c3 c4 c5 c6 c7 c8 c9 c10 c11])) c0 c3 c4 c5 c6 c7 c8 c9 c10 c11 m c1 c2 := by
 induction m with
 | zero => intros; rfl
 | succ m ih =>
   intro c1 c2
   simp only [iter]
   rw [← Q7 T an149 (Q0 F) 2 k 220 (S149 k) (L149 k K) Qhn (Qb _ _ _ _ _ _ _ _ Qhn (l := []) (by kernel_rfl) trivial)]
   have h := fx2 ih
   simp only [Q5d]
   rw [← h]
   show _ = _
   kernel_rfl
theorem Q1ib : L149 k K 6 ws rs N X = Qux k K ws rs N X := by
 show Qw2 k K ws rs N X = _
 unfold Qw2
 rw [Qf0]
 exact Q4 (a := Qx8) (b := Qyk) (G := fun ws rs => Qux k K ws rs N X) (fun x y => Eq.trans (by kernel_rfl) (Eq.trans (Q1h9 k K N X x.2.1 y.2.1.1 y.2.1.2.1 y.2.1.2.2.1 y.2.1.2.2.2.1 y.2.1.2.2.2.2.1 y.2.1.2.2.2.2.2.1 y.2.1.2.2.2.2.2.2.1 y.2.1.2.2.2.2.2.2.2.1 y.2.1.2.2.2.2.2.2.2.2.1 k x.2.2.1 y.1).symm (by kernel_rfl))) ws rs
theorem Q16g : L149 k K 1000028 ws rs N X = Qph k K ws rs N X := by
 show Qgo k K ws rs N X = _
 unfold Qgo
 rw [Q5e]
 exact lC (L149 k K) [] (by kernel_rfl) trivial fun x y => by kernel_rfl
theorem Q16h : L149 k K 1000036 ws rs N X = Qpi k K ws rs N X := by
 show Qgp k K ws rs N X = _
 unfold Qgp
 rw [Qa0]
 exact lC (L149 k K) [] (by kernel_rfl) trivial fun x y => by kernel_rfl
theorem Q1ha (c0 c1 c2 c3 c4 c7 : Int) (c8 : LI) (m : Nat) : ∀ (c5 c6 c9 c10 c11 : Int) (c12 c13 c14 c15 : LI) (c16 : zL1) (c17 : Int),
  iter (atHead an149 2 Qho) m (fun st N' => exec T an149 (Q0 F) 2 k 220 (S149 k) (E149 K) Qho st N' (outX an149 2 8 N X)) (sh Q62 [.rw 1, zi c0, zi c1, zi c2, .fn 114 [.ptr 2 0], zi c3, zi c4, zi c5, zi c6, zi c7] [zr3 c8, zr7 c9 c10 c11 c12 c13 c14 c15 c16 c17]) = Q3z k (fun p5 p7 p8 p9 p10 p11 p12 p13 p14 p15 => N (sh Qon [.rw 1, zi c0, zi c1, zi c2, .fn 114 [.ptr 2 0], zi c3, zi c4, zi p5] [zr3 c8, zr7 p7 p8 p9 p10 p11 p12 p13 p14 p15])) c0 c1 c2 c3 c4 c7 c8 m c5 c6 c9 c10 c11 c12 c13 c14 c15 c16 c17 := by
 induction m with
 | zero => intros; rfl
 | succ m ih =>
   intro c5 c6 c9 c10 c11 c12 c13 c14 c15 c16 c17
   simp only [iter]
   rw [← Q7 T an149 (Q0 F) 2 k 220 (S149 k) (L149 k K) Qho (Qb _ _ _ _ _ _ _ _ Qho (l := [(1000036, Qdk, Qk4)]) (by kernel_rfl) ⟨Q16h k K, trivial⟩)]
   have h := fx11 ih
   simp only [Q3z]
   rw [← h]
   show _ = _
   kernel_rfl
theorem Q1ic : L149 k K 8 ws rs N X = Quy k K ws rs N X := by
 show Qw3 k K ws rs N X = _
 unfold Qw3
 rw [Qf1]
 exact Q4 (a := Qx9) (b := Qyl) (G := fun ws rs => Quy k K ws rs N X) (fun x y => Eq.trans (by kernel_rfl) (Eq.trans (Q1ha k K N X x.2.1 x.2.2.1 x.2.2.2.1 x.2.2.2.2.2.1 x.2.2.2.2.2.2.1 x.2.2.2.2.2.2.2.2.2.1 y.1 k x.2.2.2.2.2.2.2.1 x.2.2.2.2.2.2.2.2.1 y.2.1.1 y.2.1.2.1 y.2.1.2.2.1 y.2.1.2.2.2.1 y.2.1.2.2.2.2.1 y.2.1.2.2.2.2.2.1 y.2.1.2.2.2.2.2.2.1 y.2.1.2.2.2.2.2.2.2.1 y.2.1.2.2.2.2.2.2.2.2.1).symm (by kernel_rfl))) ws rs
theorem Q16i : L149 k K 1000040 ws rs N X = Qpj k K ws rs N X := by
 show Qgq k K ws rs N X = _
 unfold Qgq
 rw [Qa1]
 exact lC (L149 k K) [] (by kernel_rfl) trivial fun x y => by kernel_rfl
theorem tu149 : tOk (R := R) 149 aa149 ab149 g149 := by
 intro k
 induction k with
 | zero =>
   intro x y K
   unfold g149
   rw [Qs1]
   rfl
 | succ k ih =>
   intro x y K
   unfold g149
   rw [Q82]
   exact eS Tryz.f149 an149 2 220 (L149 k K) [(0, Q60, Qzq), (2, Q9h, Qzr), (4, Q61, Qzs), (6, Q9i, Qzt), (1000028, Qdj, Qk3), (8, Q62, Qzu), (1000040, Qdl, Qk5)] (by kernel_rfl) (Q1bd ih) (by kernel_rfl) ⟨Q1i8 k K, Q1i9 k K, Q1ia k K, Q1ib k K, Q16g k K, Q1ic k K, Q16i k K, trivial⟩ (by kernel_rfl)
theorem Q1dt : sOk (R := R) s149 149 := Qc (fun _ _ _ _ => rfl) tu149
noncomputable abbrev kt137 : zK4 R := (fun z0 z1 z2 z3 z4 z5 z6 z7 z8 z9 => K [] [zr3 z0, zr7 z1 z2 z3 z4 z5 z6 z7 z8 z9])
abbrev aa137 : List Sh := [.rw 1, zv, .fn 114 [.ptr 2 0]]
abbrev ab137 : List RSh := [.arr [] (.int .i64), zs4]
noncomputable def g137 (k : Nat) (v : Sh.D.DL aa137 × RSh.DL ab137) (K : KT R) : Oq R := let u0 := v.2.2.1.2.2.2.2.2.2.2; f137 k v.1.2.1 v.2.1 v.2.2.1.1 v.2.2.1.2.1 v.2.2.1.2.2.1 v.2.2.1.2.2.2.1 v.2.2.1.2.2.2.2.1 v.2.2.1.2.2.2.2.2.1 v.2.2.1.2.2.2.2.2.2.1 v.2.2.1.2.2.2.2.2.2.2.1 u0.2.1 (kt137 K)
noncomputable abbrev E137 := ending T Tryz.f137 an137 2 K
noncomputable def S137 := pickS (R := R) [(148, s148), (149, s149)]
theorem Q1b7 : ∀ k, S137 (R := R) k = callC T F k := Q5 ⟨Q1ds, Q1dt, trivial⟩
noncomputable abbrev Quo : Oq R := inner T an137 (Q0 F) 2 k 63 (S137 k) (E137 K) Qzk (sh Q2r ws rs) N X
abbrev Qwy : List Sh := [.rw 1, zv, .fn 114 [.ptr 2 0], zv, zv, zv]
abbrev Qya : List RSh := [.arr [] (.int .i64), zs4]
noncomputable def Qvt : Oq R :=
 Q6 Qwy Qya (fun v => let u0 := v.2.2.1.2.2.2.2.2.2.2; Q10v k (fun p2 p3 p4 p5 p6 p7 p8 p9 p10 p11 p12 => N (sh Q90 [.rw 1, zi v.1.2.1, .fn 114 [.ptr 2 0], zi v.1.2.2.2.1, zi p2] [zr3 p3, zr7 p4 p5 p6 p7 p8 p9 p10 p11 p12])) v.1.2.1 v.1.2.2.2.1 k v.1.2.2.2.2.1 v.1.2.2.2.2.2.1 v.2.1 v.2.2.1.1 v.2.2.1.2.1 v.2.2.1.2.2.1 v.2.2.1.2.2.2.1 v.2.2.1.2.2.2.2.1 v.2.2.1.2.2.2.2.2.1 v.2.2.1.2.2.2.2.2.2.1 v.2.2.1.2.2.2.2.2.2.2.1 u0.2.1) (Quo k K ws rs N X) ws rs
noncomputable abbrev Quq : Oq R := inner T an137 (Q0 F) 2 k 63 (S137 k) (E137 K) Qzm (sh Q2r ws rs) N X
abbrev Qx0 : List Sh := [.rw 1, zv, .fn 114 [.ptr 2 0], zv, zv, zv]
abbrev Qyc : List RSh := [.arr [] (.int .i64), zs4]
noncomputable def Qvv : Oq R :=
 Q6 Qx0 Qyc (fun v => let u0 := v.2.2.1.2.2.2.2.2.2.2; Q10x k (fun p2 p3 p4 p5 p6 p7 p8 p9 p10 p11 p12 => N (sh Q90 [.rw 1, zi v.1.2.1, .fn 114 [.ptr 2 0], zi v.1.2.2.2.1, zi p2] [zr3 p3, zr7 p4 p5 p6 p7 p8 p9 p10 p11 p12])) v.1.2.1 v.1.2.2.2.1 k v.1.2.2.2.2.1 v.1.2.2.2.2.2.1 v.2.1 v.2.2.1.1 v.2.2.1.2.1 v.2.2.1.2.2.1 v.2.2.1.2.2.2.1 v.2.2.1.2.2.2.2.1 v.2.2.1.2.2.2.2.2.1 v.2.2.1.2.2.2.2.2.2.1 v.2.2.1.2.2.2.2.2.2.2.1 u0.2.1) (Quq k K ws rs N X) ws rs
noncomputable abbrev Qpe : Oq R := inner T an137 (Q0 F) 2 k 63 (S137 k) (E137 K) Qk0 (sh Qdg ws rs) N X
abbrev Qx1 : List Sh := [.rw 1, zv, .fn 114 [.ptr 2 0], zv, zv, zv, .val [] .bool]
abbrev Qyd : List RSh := [.arr [] (.int .i64), zs4]
noncomputable def Qgl : Oq R :=
 Q6 Qx1 Qyd (fun v => let u0 := v.2.2.1.2.2.2.2.2.2.2; Qaz k (fun p2 p3 p4 p5 p6 p7 p8 p9 p10 p11 => N (sh Q5z [.rw 1, zi v.1.2.1, .fn 114 [.ptr 2 0], zi v.1.2.2.2.1] [zr3 p2, zr7 p3 p4 p5 p6 p7 p8 p9 p10 p11])) v.1.2.1 v.1.2.2.2.2.1 v.1.2.2.2.2.2.1 v.1.2.2.2.2.2.2.1 v.2.1 v.2.2.1.1 v.2.2.1.2.1 v.2.2.1.2.2.1 v.2.2.1.2.2.2.1 v.2.2.1.2.2.2.2.1 v.2.2.1.2.2.2.2.2.1 v.2.2.1.2.2.2.2.2.2.1 v.2.2.1.2.2.2.2.2.2.2.1 u0.2.1) (Qpe k K ws rs N X) ws rs
noncomputable abbrev Qup : Oq R := inner T an137 (Q0 F) 2 k 63 (S137 k) (E137 K) Qzl (sh Q5z ws rs) N X
abbrev Qwz : List Sh := [.rw 1, zv, .fn 114 [.ptr 2 0], zv]
abbrev Qyb : List RSh := [.arr [] (.int .i64), zs4]
noncomputable def Qvu : Oq R :=
 Q6 Qwz Qyb (fun v => let u0 := v.2.2.1.2.2.2.2.2.2.2; Q10w k (fun p0 p1 p2 p3 p4 p5 p6 p7 p8 p9 => N (sh Qg [] [zr3 p0, zr7 p1 p2 p3 p4 p5 p6 p7 p8 p9])) v.1.2.1 k v.1.2.2.2.1 v.2.1 v.2.2.1.1 v.2.2.1.2.1 v.2.2.1.2.2.1 v.2.2.1.2.2.2.1 v.2.2.1.2.2.2.2.1 v.2.2.1.2.2.2.2.2.1 v.2.2.1.2.2.2.2.2.2.1 v.2.2.1.2.2.2.2.2.2.2.1 u0.2.1) (Qup k K ws rs N X) ws rs
noncomputable def L137 : Oq R := bif id == 0 then Qvt k K ws rs N X else bif id == 4 then Qvv k K ws rs N X else bif id == 1000015 then Qgl k K ws rs N X else bif id == 2 then Qvu k K ws rs N X else none
theorem Q1h0 (c0 c1 : Int) (m : Nat) : ∀ (c2 c3 : Int) (c4 : LI) (c5 c6 c7 : Int) (c8 c9 c10 c11 : LI) (c12 : zL1) (c13 : Int),
  iter (atHead an137 2 Qhe) m (fun st N' => exec T an137 (Q0 F) 2 k 63 (S137 k) (E137 K) Qhe st N' (outX an137 2 0 N X)) (sh Q2r [.rw 1, zi c0, .fn 114 [.ptr 2 0], zi c1, zi c2, zi c3] [zr3 c4, zr7 c5 c6 c7 c8 c9 c10 c11 c12 c13]) = Q3w k (fun p2 p3 p4 p5 p6 p7 p8 p9 p10 p11 p12 => N (sh Q90 [.rw 1, zi c0, .fn 114 [.ptr 2 0], zi c1, zi p2] [zr3 p3, zr7 p4 p5 p6 p7 p8 p9 p10 p11 p12])) c0 c1 m c2 c3 c4 c5 c6 c7 c8 c9 c10 c11 c12 c13 := by
 induction m with
 | zero => intros; rfl
 | succ m ih =>
   intro c2 c3 c4 c5 c6 c7 c8 c9 c10 c11 c12 c13
   simp only [iter]
   rw [← Q7 T an137 (Q0 F) 2 k 63 (S137 k) (L137 k K) Qhe (Qb _ _ _ _ _ _ _ _ Qhe (l := []) (by kernel_rfl) trivial)]
   have h := fx12 ih
   simp only [Q3w]
   rw [← h]
   show _ = _
   kernel_rfl
theorem Q1i2 : L137 k K 0 ws rs N X = Quo k K ws rs N X := by
 show Qvt k K ws rs N X = _
 unfold Qvt
 rw [Qer]
 exact Q4 (a := Qwy) (b := Qya) (G := fun ws rs => Quo k K ws rs N X) (fun x y => Eq.trans (by kernel_rfl) (Eq.trans (Q1h0 k K N X x.2.1 x.2.2.2.1 k x.2.2.2.2.1 x.2.2.2.2.2.1 y.1 y.2.1.1 y.2.1.2.1 y.2.1.2.2.1 y.2.1.2.2.2.1 y.2.1.2.2.2.2.1 y.2.1.2.2.2.2.2.1 y.2.1.2.2.2.2.2.2.1 y.2.1.2.2.2.2.2.2.2.1 y.2.1.2.2.2.2.2.2.2.2.1).symm (by kernel_rfl))) ws rs
theorem Q1h2 (c0 c1 : Int) (m : Nat) : ∀ (c2 c3 : Int) (c4 : LI) (c5 c6 c7 : Int) (c8 c9 c10 c11 : LI) (c12 : zL1) (c13 : Int),
  iter (atHead an137 2 Qhg) m (fun st N' => exec T an137 (Q0 F) 2 k 63 (S137 k) (E137 K) Qhg st N' (outX an137 2 4 N X)) (sh Q2r [.rw 1, zi c0, .fn 114 [.ptr 2 0], zi c1, zi c2, zi c3] [zr3 c4, zr7 c5 c6 c7 c8 c9 c10 c11 c12 c13]) = Q58 k (fun p2 p3 p4 p5 p6 p7 p8 p9 p10 p11 p12 => N (sh Q90 [.rw 1, zi c0, .fn 114 [.ptr 2 0], zi c1, zi p2] [zr3 p3, zr7 p4 p5 p6 p7 p8 p9 p10 p11 p12])) c0 c1 m c2 c3 c4 c5 c6 c7 c8 c9 c10 c11 c12 c13 := by
 induction m with
 | zero => intros; rfl
 | succ m ih =>
   intro c2 c3 c4 c5 c6 c7 c8 c9 c10 c11 c12 c13
   simp only [iter]
   rw [← Q7 T an137 (Q0 F) 2 k 63 (S137 k) (L137 k K) Qhg (Qb _ _ _ _ _ _ _ _ Qhg (l := []) (by kernel_rfl) trivial)]
   have h := fx12 ih
   simp only [Q58]
   rw [← h]
   show _ = _
   kernel_rfl
theorem Q1i4 : L137 k K 4 ws rs N X = Quq k K ws rs N X := by
 show Qvv k K ws rs N X = _
 unfold Qvv
 rw [Qet]
 exact Q4 (a := Qx0) (b := Qyc) (G := fun ws rs => Quq k K ws rs N X) (fun x y => Eq.trans (by kernel_rfl) (Eq.trans (Q1h2 k K N X x.2.1 x.2.2.2.1 k x.2.2.2.2.1 x.2.2.2.2.2.1 y.1 y.2.1.1 y.2.1.2.1 y.2.1.2.2.1 y.2.1.2.2.2.1 y.2.1.2.2.2.2.1 y.2.1.2.2.2.2.2.1 y.2.1.2.2.2.2.2.2.1 y.2.1.2.2.2.2.2.2.2.1 y.2.1.2.2.2.2.2.2.2.2.1).symm (by kernel_rfl))) ws rs
theorem Q16d : L137 k K 1000015 ws rs N X = Qpe k K ws rs N X := by
 show Qgl k K ws rs N X = _
 unfold Qgl
 rw [Q9x]
 exact lC (L137 k K) [] (by kernel_rfl) trivial fun x y => by kernel_rfl
theorem Q1h1 (c0 : Int) (m : Nat) : ∀ (c1 : Int) (c2 : LI) (c3 c4 c5 : Int) (c6 c7 c8 c9 : LI) (c10 : zL1) (c11 : Int),
  iter (atHead an137 2 Qhf) m (fun st N' => exec T an137 (Q0 F) 2 k 63 (S137 k) (E137 K) Qhf st N' (outX an137 2 2 N X)) (sh Q5z [.rw 1, zi c0, .fn 114 [.ptr 2 0], zi c1] [zr3 c2, zr7 c3 c4 c5 c6 c7 c8 c9 c10 c11]) = Q3c k (fun p0 p1 p2 p3 p4 p5 p6 p7 p8 p9 => N (sh Qg [] [zr3 p0, zr7 p1 p2 p3 p4 p5 p6 p7 p8 p9])) c0 m c1 c2 c3 c4 c5 c6 c7 c8 c9 c10 c11 := by
 induction m with
 | zero => intros; rfl
 | succ m ih =>
   intro c1 c2 c3 c4 c5 c6 c7 c8 c9 c10 c11
   simp only [iter]
   rw [← Q7 T an137 (Q0 F) 2 k 63 (S137 k) (L137 k K) Qhf (Qb _ _ _ _ _ _ _ _ Qhf (l := [(4, Q2r, Qzm), (1000015, Qdg, Qk0)]) (by kernel_rfl) ⟨Q1i4 k K, Q16d k K, trivial⟩)]
   have h := fx11 ih
   simp only [Q3c]
   rw [← h]
   show _ = _
   kernel_rfl
theorem Q1i3 : L137 k K 2 ws rs N X = Qup k K ws rs N X := by
 show Qvu k K ws rs N X = _
 unfold Qvu
 rw [Qes]
 exact Q4 (a := Qwz) (b := Qyb) (G := fun ws rs => Qup k K ws rs N X) (fun x y => Eq.trans (by kernel_rfl) (Eq.trans (Q1h1 k K N X x.2.1 k x.2.2.2.1 y.1 y.2.1.1 y.2.1.2.1 y.2.1.2.2.1 y.2.1.2.2.2.1 y.2.1.2.2.2.2.1 y.2.1.2.2.2.2.2.1 y.2.1.2.2.2.2.2.2.1 y.2.1.2.2.2.2.2.2.2.1 y.2.1.2.2.2.2.2.2.2.2.1).symm (by kernel_rfl))) ws rs
theorem tu137 : tOk (R := R) 137 aa137 ab137 g137 := by
 intro k x y K
 unfold g137
 rw [Qrq]
 cases k with
 | zero => rfl
 | succ k => exact eS Tryz.f137 an137 2 63 (L137 k K) [(0, Q2r, Qzk), (2, Q5z, Qzl)] (by kernel_rfl) (Q1b7 k) (by kernel_rfl) ⟨Q1i2 k K, Q1i3 k K, trivial⟩ (by kernel_rfl)
noncomputable def s137 := onS (R := R) aa137 ab137 g137 (fun k => callC T F k 137)
theorem Q1dn : sOk (R := R) s137 137 := Qc (fun _ _ _ _ => rfl) tu137
noncomputable abbrev kt113 : zK4 R := (fun z0 z1 z2 z3 z4 z5 z6 z7 z8 z9 => K [] [zr3 z0, zr7 z1 z2 z3 z4 z5 z6 z7 z8 z9])
abbrev aa113 : List Sh := [.rw 1, .fn 114 [.ptr 2 0]]
abbrev ab113 : List RSh := [.arr [] (.int .i64), zs4]
noncomputable def g113 (k : Nat) (v : Sh.D.DL aa113 × RSh.DL ab113) (K : KT R) : Oq R := let u0 := v.2.2.1.2.2.2.2.2.2.2; f113 k v.2.1 v.2.2.1.1 v.2.2.1.2.1 v.2.2.1.2.2.1 v.2.2.1.2.2.2.1 v.2.2.1.2.2.2.2.1 v.2.2.1.2.2.2.2.2.1 v.2.2.1.2.2.2.2.2.2.1 v.2.2.1.2.2.2.2.2.2.2.1 u0.2.1 (kt113 K)
noncomputable def S113 := pickS (R := R) [(137, s137)]
theorem Q1av : ∀ k, S113 (R := R) k = callC T F k := Q5 ⟨Q1dn, trivial⟩
theorem tu113 : tOk (R := R) 113 aa113 ab113 g113 := by
 intro k x y K
 unfold g113
 rw [Qr9]
 cases k with
 | zero => rfl
 | succ k => exact eS Tryz.f113 an113 2 9 L0 [] (by kernel_rfl) (Q1av k) (by kernel_rfl) trivial (by kernel_rfl)
noncomputable def s113 := onS (R := R) aa113 ab113 g113 (fun k => callC T F k 113)
theorem Q1da : sOk (R := R) s113 113 := Qc (fun _ _ _ _ => rfl) tu113
noncomputable abbrev kt67 : LI → Oq R := (fun z0 => K [.rw 1] [zr3 z0])
abbrev aa67 : List Sh := [.agg [zv, zv, zv, .val [(0, 0)] zT2, .val [(0, 0)] zP1, .val [(0, 0)] zP1, .val [(0, 0)] zP1, .val [(0, 0)] zP3, zv]]
abbrev ab67 : List RSh := []
noncomputable def g67 (k : Nat) (v : Sh.D.DL aa67 × RSh.DL ab67) (K : KT R) : Oq R := let u0 := v.1.1.2.2.2.2.2.2.2; f67 k v.1.1.1 v.1.1.2.1 v.1.1.2.2.1 v.1.1.2.2.2.1 v.1.1.2.2.2.2.1 v.1.1.2.2.2.2.2.1 v.1.1.2.2.2.2.2.2.1 v.1.1.2.2.2.2.2.2.2.1 u0.2.1 (kt67 K)
noncomputable abbrev E67 := ending T Tryz.f67 an67 0 K
noncomputable def S67 := pickS (R := R) [(113, s113)]
theorem Q1et : ∀ k, S67 (R := R) k = callC T F k := Q5 ⟨Q1da, trivial⟩
noncomputable abbrev Qv5 : Oq R := inner T an67 (Q0 F) 0 k 25 (S67 k) (E67 K) Qql (sh Qjb ws rs) N X
abbrev Q15e : List Sh := [.ptr 1 0, .rw 2, zv, .val [(0, 0)] zP1, zv, zv, .val [] .bool]
abbrev Q15n : List RSh := [zs4, .arr [] (.int .i64)]
noncomputable def Qn7 : Oq R :=
 Q6 Q15e Q15n (fun v => let u0 := v.2.1.2.2.2.2.2.2.2; Qod k (fun p12 => N (sh Qdp [.ptr 1 0, .rw 2, .val [(0, 0)] zP1 v.1.2.2.2.1, zi v.1.2.2.2.2.1, zi v.1.2.2.2.2.2.1] [zr7 v.2.1.1 v.2.1.2.1 v.2.1.2.2.1 v.2.1.2.2.2.1 v.2.1.2.2.2.2.1 v.2.1.2.2.2.2.2.1 v.2.1.2.2.2.2.2.2.1 v.2.1.2.2.2.2.2.2.2.1 u0.2.1, zr3 p12])) v.1.2.2.1 v.1.2.2.2.2.2.2.1 v.2.2.1) (Qv5 k K ws rs N X) ws rs
noncomputable abbrev I67_0 : Oq R := inner T an67 (Q0 F) 0 k 25 (S67 k) (E67 K) Q19d (sh Qdp ws rs) N X
abbrev Q17v : List Sh := [.ptr 1 0, .rw 2, .val [(0, 0)] zP1, zv, zv]
abbrev Q18l : List RSh := [zs4, .arr [] (.int .i64)]
noncomputable def L67_0 : Oq R :=
 Q6 Q17v Q18l (fun v => let u0 := v.2.1.2.2.2.2.2.2.2; f67_0 k (fun p9 => N (sh Q13m [.ptr 1 0, .rw 2] [zr7 v.2.1.1 v.2.1.2.1 v.2.1.2.2.1 v.2.1.2.2.2.1 v.2.1.2.2.2.2.1 v.2.1.2.2.2.2.2.1 v.2.1.2.2.2.2.2.2.1 v.2.1.2.2.2.2.2.2.2.1 u0.2.1, zr3 p9])) v.1.2.2.1 v.1.2.2.2.1 v.2.1.1 v.2.1.2.1 v.2.1.2.2.1 v.2.1.2.2.2.1 v.2.1.2.2.2.2.1 v.2.1.2.2.2.2.2.1 v.2.1.2.2.2.2.2.2.1 v.2.1.2.2.2.2.2.2.2.1 u0.2.1 k v.1.2.2.2.2.1 v.2.2.1) (I67_0 k K ws rs N X) ws rs
noncomputable def L67 : Oq R := bif id == 1000006 then Qn7 k K ws rs N X else bif id == 0 then L67_0 k K ws rs N X else none
theorem Q1cl : L67 k K 1000006 ws rs N X = Qv5 k K ws rs N X := by
 show Qn7 k K ws rs N X = _
 unfold Qn7
 rw [Qc0]
 exact lC (L67 k K) [] (by kernel_rfl) trivial fun x y => by kernel_rfl
theorem i67_0 (c0 : LI) (c1 c3 c4 c5 : Int) (c6 c7 c8 c9 : LI) (c10 : zL1) (c11 : Int) (m : Nat) : ∀ (c2 : Int) (c12 : LI),
  iter (atHead an67 0 Qpz) m (fun st N' => exec T an67 (Q0 F) 0 k 25 (S67 k) (E67 K) Qpz st N' (outX an67 0 0 N X)) (sh Qdp [.ptr 1 0, .rw 2, .val [(0, 0)] zP1 c0, zi c1, zi c2] [zr7 c3 c4 c5 c6 c7 c8 c9 c10 c11, zr3 c12]) = Qab k (fun p9 => N (sh Q13m [.ptr 1 0, .rw 2] [zr7 c3 c4 c5 c6 c7 c8 c9 c10 c11, zr3 p9])) c0 c1 c3 c4 c5 c6 c7 c8 c9 c10 c11 m c2 c12 := by
 induction m with
 | zero => intros; rfl
 | succ m ih =>
   intro c2 c12
   simp only [iter]
   rw [← Q7 T an67 (Q0 F) 0 k 25 (S67 k) (L67 k K) Qpz (Qb _ _ _ _ _ _ _ _ Qpz (l := [(1000006, Qjb, Qql)]) (by kernel_rfl) ⟨Q1cl k K, trivial⟩)]
   have h := fx2 ih
   simp only [Qab]
   rw [← h]
   show _ = _
   kernel_rfl
theorem l67_0 : L67 k K 0 ws rs N X = I67_0 k K ws rs N X := by
 show L67_0 k K ws rs N X = _
 unfold L67_0
 rw [Qku]
 exact Q4 (a := Q17v) (b := Q18l) (G := fun ws rs => I67_0 k K ws rs N X) (fun x y => Eq.trans (by kernel_rfl) (Eq.trans (i67_0 k K N X x.2.2.1 x.2.2.2.1 y.1.1 y.1.2.1 y.1.2.2.1 y.1.2.2.2.1 y.1.2.2.2.2.1 y.1.2.2.2.2.2.1 y.1.2.2.2.2.2.2.1 y.1.2.2.2.2.2.2.2.1 y.1.2.2.2.2.2.2.2.2.1 k x.2.2.2.2.1 y.2.1).symm (by kernel_rfl))) ws rs
theorem tu67 : tOk (R := R) 67 aa67 ab67 g67 := by
 intro k x y K
 unfold g67
 rw [Q125]
 cases k with
 | zero => rfl
 | succ k => exact eS Tryz.f67 an67 0 25 (L67 k K) [(0, Qdp, Q19d)] (by kernel_rfl) (Q1et k) (by kernel_rfl) ⟨l67_0 k K, trivial⟩ (by kernel_rfl)
noncomputable def s67 := onS (R := R) aa67 ab67 g67 (fun k => callC T F k 67)
theorem Q1j4 : sOk (R := R) s67 67 := Qc (fun _ _ _ _ => rfl) tu67
noncomputable abbrev kt22 : Int → LI → Oq R := (fun z0 z1 => K [.rw 1, zi z0] [zr3 z1])
abbrev aa22 : List Sh := [.agg [zv, zv, zv, .val [(0, 0)] zT2, .val [(0, 0)] zP1, .val [(0, 0)] zP1]]
abbrev ab22 : List RSh := []
noncomputable def g22 (k : Nat) (v : Sh.D.DL aa22 × RSh.DL ab22) (K : KT R) : Oq R := f22 k v.1.1.1 v.1.1.2.1 v.1.1.2.2.1 v.1.1.2.2.2.1 v.1.1.2.2.2.2.1 v.1.1.2.2.2.2.2.1 (kt22 K)
noncomputable def S22 := pickS (R := R) [(19, s19), (46, s46), (67, s67)]
theorem Q1eb : ∀ k, S22 (R := R) k = callC T F k := Q5 ⟨Qsv, Q14p, Q1j4, trivial⟩
theorem tu22 : tOk (R := R) 22 aa22 ab22 g22 := by
 intro k x y K
 unfold g22
 rw [Q11f]
 cases k with
 | zero => rfl
 | succ k => exact eS Tryz.f22 an22 0 13 L0 [] (by kernel_rfl) (Q1eb k) (by kernel_rfl) trivial (by kernel_rfl)
noncomputable def s22 := onS (R := R) aa22 ab22 g22 (fun k => callC T F k 22)
theorem Q1ir : sOk (R := R) s22 22 := Qc (fun _ _ _ _ => rfl) tu22
noncomputable abbrev kt51 : LI → Oq R := (fun z0 => K [.rw 1] [zr3 z0])
abbrev aa51 : List Sh := [.agg [zv, zv, zv, .val [(0, 0)] zT2, .val [(0, 0)] zP1, .val [(0, 0)] zP1], zv]
abbrev ab51 : List RSh := []
noncomputable def g51 (k : Nat) (v : Sh.D.DL aa51 × RSh.DL ab51) (K : KT R) : Oq R := f51 k v.1.1.1 v.1.1.2.1 v.1.1.2.2.1 v.1.1.2.2.2.1 v.1.1.2.2.2.2.1 v.1.1.2.2.2.2.2.1 v.1.2.1 (kt51 K)
noncomputable abbrev E51 := ending T Tryz.f51 an51 0 K
noncomputable def S51 := pickS (R := R) [(60, s60), (61, s61)]
theorem Q1ej : ∀ k, S51 (R := R) k = callC T F k := Q5 ⟨Qsx, Q1ad, trivial⟩
noncomputable abbrev I51_2 : Oq R := inner T an51 (Q0 F) 0 k 71 (S51 k) (E51 K) Q19b (sh Q8l ws rs) N X
abbrev Q17t : List Sh := [zv, .ptr 1 0, .rw 2, zv, zv]
abbrev Q18j : List RSh := [zs0, .arr [] (.int .i64)]
noncomputable def L51_2 : Oq R :=
 Q6 Q17t Q18j (fun v => f51_2 k (fun p2 => N (sh Q8l [zi v.1.1, .ptr 1 0, .rw 2, zi v.1.2.2.2.1, zi p2] [zr0 v.2.1.1 v.2.1.2.1 v.2.1.2.2.1 v.2.1.2.2.2.1 v.2.1.2.2.2.2.1 v.2.1.2.2.2.2.2.1, zr3 v.2.2.1])) v.1.1 v.1.2.2.2.1 v.2.1.1 v.2.1.2.1 v.2.1.2.2.1 v.2.1.2.2.2.1 v.2.1.2.2.2.2.1 v.2.1.2.2.2.2.2.1 v.2.2.1 k v.1.2.2.2.2.1) (I51_2 k K ws rs N X) ws rs
noncomputable abbrev I51_1 : Oq R := inner T an51 (Q0 F) 0 k 71 (S51 k) (E51 K) Q19a (sh Q14v ws rs) N X
abbrev Q1fb : List Sh := [zv, .ptr 1 0, .rw 2, zv]
abbrev Q1fi : List RSh := [zs0, .arr [] (.int .i64)]
noncomputable def L51_1 : Oq R :=
 Q6 Q1fb Q1fi (fun v => f51_1 k (fun p8 => N (sh Qdn [zi v.1.1, .ptr 1 0, .rw 2, zi v.1.2.2.2.1] [zr0 v.2.1.1 v.2.1.2.1 v.2.1.2.2.1 v.2.1.2.2.2.1 v.2.1.2.2.2.2.1 v.2.1.2.2.2.2.2.1, zr3 p8])) v.1.1 v.1.2.2.2.1 v.2.1.1 v.2.1.2.1 v.2.1.2.2.1 v.2.1.2.2.2.1 v.2.1.2.2.2.2.1 v.2.1.2.2.2.2.2.1 v.2.2.1) (I51_1 k K ws rs N X) ws rs
noncomputable abbrev I51_0 : Oq R := inner T an51 (Q0 F) 0 k 71 (S51 k) (E51 K) Q199 (sh Qdn ws rs) N X
abbrev Q17s : List Sh := [zv, .ptr 1 0, .rw 2, zv]
abbrev Q18i : List RSh := [zs0, .arr [] (.int .i64)]
noncomputable def L51_0 : Oq R :=
 Q6 Q17s Q18i (fun v => f51_0 k (fun p0 => N (sh Q28 [.rw 1] [zr3 p0])) v.1.1 v.2.1.1 v.2.1.2.1 v.2.1.2.2.1 v.2.1.2.2.2.1 v.2.1.2.2.2.2.1 v.2.1.2.2.2.2.2.1 k v.1.2.2.2.1 v.2.2.1) (I51_0 k K ws rs N X) ws rs
noncomputable def L51 : Oq R := bif id == 2 then L51_2 k K ws rs N X else bif id == 1 then L51_1 k K ws rs N X else bif id == 0 then L51_0 k K ws rs N X else none
theorem i51_2 (c0 c1 c3 c4 c5 : Int) (c6 c7 c8 c9 : LI) (m : Nat) : ∀ (c2 : Int),
  iter (atHead an51 0 Qpx) m (fun st N' => exec T an51 (Q0 F) 0 k 71 (S51 k) (E51 K) Qpx st N' (outX an51 0 2 N X)) (sh Q8l [zi c0, .ptr 1 0, .rw 2, zi c1, zi c2] [zr0 c3 c4 c5 c6 c7 c8, zr3 c9]) = Qa9 k (fun p2 => N (sh Q8l [zi c0, .ptr 1 0, .rw 2, zi c1, zi p2] [zr0 c3 c4 c5 c6 c7 c8, zr3 c9])) c0 c1 c3 c4 c5 c6 c7 c8 c9 m c2 := by
 induction m with
 | zero => intros; rfl
 | succ m ih =>
   intro c2
   simp only [iter]
   rw [← Q7 T an51 (Q0 F) 0 k 71 (S51 k) (L51 k K) Qpx (Qb _ _ _ _ _ _ _ _ Qpx (l := []) (by kernel_rfl) trivial)]
   have h := fx1 ih
   simp only [Qa9]
   rw [← h]
   show _ = _
   kernel_rfl
theorem l51_2 : L51 k K 2 ws rs N X = I51_2 k K ws rs N X := by
 show L51_2 k K ws rs N X = _
 unfold L51_2
 rw [Qkr]
 exact Q4 (a := Q17t) (b := Q18j) (G := fun ws rs => I51_2 k K ws rs N X) (fun x y => Eq.trans (by kernel_rfl) (Eq.trans (i51_2 k K N X x.1 x.2.2.2.1 y.1.1 y.1.2.1 y.1.2.2.1 y.1.2.2.2.1 y.1.2.2.2.2.1 y.1.2.2.2.2.2.1 y.2.1 k x.2.2.2.2.1).symm (by kernel_rfl))) ws rs
theorem l51_1 : L51 k K 1 ws rs N X = I51_1 k K ws rs N X := by
 show L51_1 k K ws rs N X = _
 unfold L51_1
 rw [Qkq]
 exact lC (L51 k K) [(2, Q8l, Q19b)] (by kernel_rfl) ⟨l51_2 k K, trivial⟩ fun x y => by kernel_rfl
theorem i51_0 (c0 c2 c3 c4 : Int) (c5 c6 c7 : LI) (m : Nat) : ∀ (c1 : Int) (c8 : LI),
  iter (atHead an51 0 Qpw) m (fun st N' => exec T an51 (Q0 F) 0 k 71 (S51 k) (E51 K) Qpw st N' (outX an51 0 0 N X)) (sh Qdn [zi c0, .ptr 1 0, .rw 2, zi c1] [zr0 c2 c3 c4 c5 c6 c7, zr3 c8]) = Q84 k (fun p0 => N (sh Q28 [.rw 1] [zr3 p0])) c0 c2 c3 c4 c5 c6 c7 m c1 c8 := by
 induction m with
 | zero => intros; rfl
 | succ m ih =>
   intro c1 c8
   simp only [iter]
   rw [← Q7 T an51 (Q0 F) 0 k 71 (S51 k) (L51 k K) Qpw (Qb _ _ _ _ _ _ _ _ Qpw (l := [(1, Q14v, Q19a)]) (by kernel_rfl) ⟨l51_1 k K, trivial⟩)]
   have h := fx2 ih
   simp only [Q84]
   rw [← h]
   show _ = _
   kernel_rfl
theorem l51_0 : L51 k K 0 ws rs N X = I51_0 k K ws rs N X := by
 show L51_0 k K ws rs N X = _
 unfold L51_0
 rw [Qkp]
 exact Q4 (a := Q17s) (b := Q18i) (G := fun ws rs => I51_0 k K ws rs N X) (fun x y => Eq.trans (by kernel_rfl) (Eq.trans (i51_0 k K N X x.1 y.1.1 y.1.2.1 y.1.2.2.1 y.1.2.2.2.1 y.1.2.2.2.2.1 y.1.2.2.2.2.2.1 k x.2.2.2.1 y.2.1).symm (by kernel_rfl))) ws rs
theorem tu51 : tOk (R := R) 51 aa51 ab51 g51 := by
 intro k x y K
 unfold g51
 rw [Q11t]
 cases k with
 | zero => rfl
 | succ k => exact eS Tryz.f51 an51 0 71 (L51 k K) [(0, Qdn, Q199)] (by kernel_rfl) (Q1ej k) (by kernel_rfl) ⟨l51_0 k K, trivial⟩ (by kernel_rfl)
noncomputable def s51 := onS (R := R) aa51 ab51 g51 (fun k => callC T F k 51)
theorem Q1iy : sOk (R := R) s51 51 := Qc (fun _ _ _ _ => rfl) tu51
noncomputable abbrev kt23 : Int → LI → Oq R := (fun z0 z1 => K [.rw 1, zi z0] [zr3 z1])
abbrev aa23 : List Sh := [.agg [zv, zv, zv, .val [(0, 0)] zT2, .val [(0, 0)] zP1, .val [(0, 0)] zP1]]
abbrev ab23 : List RSh := []
noncomputable def g23 (k : Nat) (v : Sh.D.DL aa23 × RSh.DL ab23) (K : KT R) : Oq R := f23 k v.1.1.1 v.1.1.2.1 v.1.1.2.2.1 v.1.1.2.2.2.1 v.1.1.2.2.2.2.1 v.1.1.2.2.2.2.2.1 (kt23 K)
noncomputable def S23 := pickS (R := R) [(20, s20), (51, s51)]
theorem Q1ec : ∀ k, S23 (R := R) k = callC T F k := Q5 ⟨Qsw, Q1iy, trivial⟩
theorem tu23 : tOk (R := R) 23 aa23 ab23 g23 := by
 intro k x y K
 unfold g23
 rw [Q11g]
 cases k with
 | zero => rfl
 | succ k => exact eS Tryz.f23 an23 0 12 L0 [] (by kernel_rfl) (Q1ec k) (by kernel_rfl) trivial (by kernel_rfl)
noncomputable def s23 := onS (R := R) aa23 ab23 g23 (fun k => callC T F k 23)
theorem Q1is : sOk (R := R) s23 23 := Qc (fun _ _ _ _ => rfl) tu23
noncomputable abbrev kt122 : List BA → Oq R := (fun z0 => K [] [⟨0, .arr [] .str z0⟩])
abbrev aa122 : List Sh := [.rw 1]
abbrev ab122 : List RSh := [.arr [] .str]
noncomputable def g122 (k : Nat) (v : Sh.D.DL aa122 × RSh.DL ab122) (K : KT R) : Oq R := f122 k v.2.1 (kt122 K)
theorem e122 (k : Nat) (a0 : List BA) (K : KT R) : callC T F k 122 [.rw 1] [⟨0, .arr [] .str a0⟩] K = f122 k a0 (kt122 K) := by
 rw [Qrh]
 cases k with
 | zero => rfl
 | succ k => exact Q1dx (m := [.any]) [] rfl (by kernel_rfl) a0 K
theorem tu122 : tOk (R := R) 122 aa122 ab122 g122 := fun k x y K => e122 k y.1 K
noncomputable def s122 := onS (R := R) aa122 ab122 g122 (fun k => callC T F k 122)
theorem Q1df : sOk (R := R) s122 122 := Qc (fun _ _ _ _ => rfl) tu122
noncomputable abbrev kt123 : List BA → Oq R := (fun z0 => K [.rw 2] [⟨0, .gone⟩, ⟨0, .arr [] .str z0⟩])
abbrev aa123 : List Sh := [.rw 1]
abbrev ab123 : List RSh := [.arr [] .str]
noncomputable def g123 (k : Nat) (v : Sh.D.DL aa123 × RSh.DL ab123) (K : KT R) : Oq R := f123 k v.2.1 (kt123 K)
noncomputable abbrev E123 := ending T Tryz.f123 an123 1 K
noncomputable def S123 := pickS (R := R) []
theorem Q1b0 : ∀ k, S123 (R := R) k = callC T F k := Q5 trivial
noncomputable abbrev Qpd : Oq R := inner T an123 (Q0 F) 1 k 61 (S123 k) (E123 K) Qjz (sh Qdf ws rs) N X
abbrev Qwu : List Sh := [.rw 1, zv, .rs 1, zv, .val [] .bool]
abbrev Qy6 : List RSh := [.arr [] .str]
noncomputable def Qgk : Oq R :=
 Q6 Qwu Qy6 (fun v => Qi4 k (fun p0 p4 => N (sh Q5y [.rw 1, zi p0, .rs 1 v.1.2.2.1.1 v.1.2.2.1.2, zi v.1.2.2.2.1] [⟨0, .arr [] .str p4⟩])) v.1.2.1 v.1.2.2.1.1 v.1.2.2.1.2 v.1.2.2.2.1 v.1.2.2.2.2.1 v.2.1) (Qpd k K ws rs N X) ws rs
noncomputable abbrev Quk : Oq R := inner T an123 (Q0 F) 1 k 61 (S123 k) (E123 K) Qzg (sh Q5y ws rs) N X
abbrev Qwt : List Sh := [.rw 1, zv, .rs 1, zv]
abbrev Qy5 : List RSh := [.arr [] .str]
noncomputable def Qvp : Oq R :=
 Q6 Qwt Qy5 (fun v => Q10q k (fun p0 p1 => N (sh Qr [.rw 1, zi p0] [⟨0, .arr [] .str p1⟩])) v.1.2.2.1.1 v.1.2.2.1.2 k v.1.2.1 v.1.2.2.2.1 v.2.1) (Quk k K ws rs N X) ws rs
noncomputable abbrev Quj : Oq R := inner T an123 (Q0 F) 1 k 61 (S123 k) (E123 K) Qzf (sh Qr ws rs) N X
abbrev Qws : List Sh := [.rw 1, zv]
abbrev Qy4 : List RSh := [.arr [] .str]
noncomputable def Qvo : Oq R :=
 Q6 Qws Qy4 (fun v => Q10p k (kt123 K) (N (sh Qf9 [.rw 1] [⟨0, .arr [] .str v.2.1⟩])) v.2.1 k v.1.2.1) (Quj k K ws rs N X) ws rs
noncomputable def L123 : Oq R := bif id == 1000012 then Qgk k K ws rs N X else bif id == 2 then Qvp k K ws rs N X else bif id == 0 then Qvo k K ws rs N X else none
theorem Q16c : L123 k K 1000012 ws rs N X = Qpd k K ws rs N X := by
 show Qgk k K ws rs N X = _
 unfold Qgk
 rw [Q9w]
 exact lC (L123 k K) [] (by kernel_rfl) trivial fun x y => by kernel_rfl
theorem Q1gw (c1 c2 m : Nat) : ∀ (c0 c3 : Int) (c4 : List BA),
  iter (atHead an123 1 Qha) m (fun st N' => exec T an123 (Q0 F) 1 k 61 (S123 k) (E123 K) Qha st N' (outX an123 1 2 N X)) (sh Q5y [.rw 1, zi c0, .rs 1 c1 c2, zi c3] [⟨0, .arr [] .str c4⟩]) = Q54 k (fun p0 p1 => N (sh Qr [.rw 1, zi p0] [⟨0, .arr [] .str p1⟩])) c1 c2 m c0 c3 c4 := by
 induction m with
 | zero => intros; rfl
 | succ m ih =>
   intro c0 c3 c4
   simp only [iter]
   rw [← Q7 T an123 (Q0 F) 1 k 61 (S123 k) (L123 k K) Qha (Qb _ _ _ _ _ _ _ _ Qha (l := [(1000012, Qdf, Qjz)]) (by kernel_rfl) ⟨Q16c k K, trivial⟩)]
   have h := fx3 ih
   simp only [Q54]
   rw [← h]
   show _ = _
   kernel_rfl
theorem Q1hy : L123 k K 2 ws rs N X = Quk k K ws rs N X := by
 show Qvp k K ws rs N X = _
 unfold Qvp
 rw [Qen]
 exact Q4 (a := Qwt) (b := Qy5) (G := fun ws rs => Quk k K ws rs N X) (fun x y => Eq.trans (by kernel_rfl) (Eq.trans (Q1gw k K N X x.2.2.1.1 x.2.2.1.2 k x.2.1 x.2.2.2.1 y.1).symm (by kernel_rfl))) ws rs
theorem Q1gv (c1 : List BA) (m : Nat) : ∀ (c0 : Int),
  iter (atHead an123 1 Qh9) m (fun st N' => exec T an123 (Q0 F) 1 k 61 (S123 k) (E123 K) Qh9 st N' (outX an123 1 0 N X)) (sh Qr [.rw 1, zi c0] [⟨0, .arr [] .str c1⟩]) = Q53 k (kt123 K) (N (sh Qf9 [.rw 1] [⟨0, .arr [] .str c1⟩])) c1 m c0 := by
 induction m with
 | zero => intros; rfl
 | succ m ih =>
   intro c0
   simp only [iter]
   rw [← Q7 T an123 (Q0 F) 1 k 61 (S123 k) (L123 k K) Qh9 (Qb _ _ _ _ _ _ _ _ Qh9 (l := [(2, Q5y, Qzg)]) (by kernel_rfl) ⟨Q1hy k K, trivial⟩)]
   have h := fx1 ih
   simp only [Q53]
   rw [← h]
   show _ = _
   kernel_rfl
theorem Q1hx : L123 k K 0 ws rs N X = Quj k K ws rs N X := by
 show Qvo k K ws rs N X = _
 unfold Qvo
 rw [Qem]
 exact Q4 (a := Qws) (b := Qy4) (G := fun ws rs => Quj k K ws rs N X) (fun x y => Eq.trans (by kernel_rfl) (Eq.trans (Q1gv k K N X y.1 k x.2.1).symm (by kernel_rfl))) ws rs
theorem tu123 : tOk (R := R) 123 aa123 ab123 g123 := by
 intro k x y K
 unfold g123
 rw [Qri]
 cases k with
 | zero => rfl
 | succ k => exact eS Tryz.f123 an123 1 61 (L123 k K) [(0, Qr, Qzf)] (by kernel_rfl) (Q1b0 k) (by kernel_rfl) ⟨Q1hx k K, trivial⟩ (by kernel_rfl)
noncomputable def s123 := onS (R := R) aa123 ab123 g123 (fun k => callC T F k 123)
theorem Q1dg : sOk (R := R) s123 123 := Qc (fun _ _ _ _ => rfl) tu123
noncomputable abbrev kt74 : List BA → Oq R := (fun z0 => K [.rw 1] [⟨0, .arr [] .str z0⟩])
abbrev aa74 : List Sh := [.agg [zv, zv, zv, .val [(0, 0)] zT2, .val [(0, 0)] zP1, .val [(0, 0)] zP1, .val [(0, 0)] zP1, .val [(0, 0)] zP3, zv]]
abbrev ab74 : List RSh := []
noncomputable def g74 (k : Nat) (v : Sh.D.DL aa74 × RSh.DL ab74) (K : KT R) : Oq R := let u0 := v.1.1.2.2.2.2.2.2.2; f74 k v.1.1.1 v.1.1.2.1 v.1.1.2.2.1 v.1.1.2.2.2.1 v.1.1.2.2.2.2.1 v.1.1.2.2.2.2.2.1 v.1.1.2.2.2.2.2.2.1 v.1.1.2.2.2.2.2.2.2.1 u0.2.1 (kt74 K)
noncomputable abbrev E74 := ending T Tryz.f74 an74 0 K
noncomputable def S74 := pickS (R := R) [(122, s122), (123, s123)]
theorem Q1ez : ∀ k, S74 (R := R) k = callC T F k := Q5 ⟨Q1df, Q1dg, trivial⟩
noncomputable abbrev I74_0 : Oq R := inner T an74 (Q0 F) 0 k 24 (S74 k) (E74 K) Q19s (sh Qmp ws rs) N X
abbrev Q186 : List Sh := [.rw 1, .val [(0, 0)] zP3, zv, zv]
abbrev Q18w : List RSh := [.arr [] .str]
noncomputable def L74_0 : Oq R :=
 Q6 Q186 Q18w (fun v => f74_0 k (fun p0 => N (sh Qz [.rw 1] [⟨0, .arr [] .str p0⟩])) v.1.2.1 v.1.2.2.1 k v.1.2.2.2.1 v.2.1) (I74_0 k K ws rs N X) ws rs
noncomputable def L74 : Oq R := bif id == 0 then L74_0 k K ws rs N X else none
theorem i74_0 (c0 : zL1) (c1 : Int) (m : Nat) : ∀ (c2 : Int) (c3 : List BA),
  iter (atHead an74 0 Qqa) m (fun st N' => exec T an74 (Q0 F) 0 k 24 (S74 k) (E74 K) Qqa st N' (outX an74 0 0 N X)) (sh Qmp [.rw 1, .val [(0, 0)] zP3 c0, zi c1, zi c2] [⟨0, .arr [] .str c3⟩]) = Qai k (fun p0 => N (sh Qz [.rw 1] [⟨0, .arr [] .str p0⟩])) c0 c1 m c2 c3 := by
 induction m with
 | zero => intros; rfl
 | succ m ih =>
   intro c2 c3
   simp only [iter]
   rw [← Q7 T an74 (Q0 F) 0 k 24 (S74 k) (L74 k K) Qqa (Qb _ _ _ _ _ _ _ _ Qqa (l := []) (by kernel_rfl) trivial)]
   have h := fx2 ih
   simp only [Qai]
   rw [← h]
   show _ = _
   kernel_rfl
theorem l74_0 : L74 k K 0 ws rs N X = I74_0 k K ws rs N X := by
 show L74_0 k K ws rs N X = _
 unfold L74_0
 rw [Ql8]
 exact Q4 (a := Q186) (b := Q18w) (G := fun ws rs => I74_0 k K ws rs N X) (fun x y => Eq.trans (by kernel_rfl) (Eq.trans (i74_0 k K N X x.2.1 x.2.2.1 k x.2.2.2.1 y.1).symm (by kernel_rfl))) ws rs
theorem tu74 : tOk (R := R) 74 aa74 ab74 g74 := by
 intro k x y K
 unfold g74
 rw [Q12p]
 cases k with
 | zero => rfl
 | succ k => exact eS Tryz.f74 an74 0 24 (L74 k K) [(0, Qmp, Q19s)] (by kernel_rfl) (Q1ez k) (by kernel_rfl) ⟨l74_0 k K, trivial⟩ (by kernel_rfl)
noncomputable def s74 := onS (R := R) aa74 ab74 g74 (fun k => callC T F k 74)
theorem Q1j9 : sOk (R := R) s74 74 := Qc (fun _ _ _ _ => rfl) tu74
noncomputable abbrev kt139 : Int → Oq R := (fun z0 => K [zi z0] [])
abbrev aa139 : List Sh := [.agg [zv, zv, .val [] .bool, .val [] .str, zv, .val [] .bool, .val [(0, 0)] zT2]]
abbrev ab139 : List RSh := []
noncomputable def g139 (k : Nat) (v : Sh.D.DL aa139 × RSh.DL ab139) (K : KT R) : Oq R := f139 k v.1.1.1 v.1.1.2.1 v.1.1.2.2.1 v.1.1.2.2.2.1 v.1.1.2.2.2.2.1 v.1.1.2.2.2.2.2.1 v.1.1.2.2.2.2.2.2.1 (kt139 K)
noncomputable def S139 := pickS (R := R) []
theorem Q1b9 : ∀ k, S139 (R := R) k = callC T F k := Q5 trivial
theorem tu139 : tOk (R := R) 139 aa139 ab139 g139 := by
 intro k x y K
 unfold g139
 rw [Qrs]
 cases k with
 | zero => rfl
 | succ k => exact eS Tryz.f139 an139 0 10 L0 [] (by kernel_rfl) (Q1b9 k) (by kernel_rfl) trivial (by kernel_rfl)
noncomputable def s139 := onS (R := R) aa139 ab139 g139 (fun k => callC T F k 139)
theorem Q1dp : sOk (R := R) s139 139 := Qc (fun _ _ _ _ => rfl) tu139
noncomputable abbrev kt116 : zL0 → Oq R := (fun z0 => K [.rw 1] [⟨0, .mp 0 [(0, 0)] (.int .i64) zP3 false z0 none⟩])
abbrev aa116 : List Sh := [.agg [zv, zv, zv, .val [(0, 0)] zT2, .val [(0, 0)] zP1, .val [(0, 0)] zP1, .val [(0, 0)] zP1, .val [(0, 0)] zP3, zv], .val [] .str]
abbrev ab116 : List RSh := []
noncomputable def g116 (k : Nat) (v : Sh.D.DL aa116 × RSh.DL ab116) (K : KT R) : Oq R := let u0 := v.1.1.2.2.2.2.2.2.2; f116 k v.1.1.1 v.1.1.2.1 v.1.1.2.2.1 v.1.1.2.2.2.1 v.1.1.2.2.2.2.1 v.1.1.2.2.2.2.2.1 v.1.1.2.2.2.2.2.2.1 v.1.1.2.2.2.2.2.2.2.1 u0.2.1 v.1.2.1 (kt116 K)
noncomputable abbrev E116 := ending T Tryz.f116 an116 0 K
noncomputable def S116 := pickS (R := R) [(139, s139)]
theorem Q1ay : ∀ k, S116 (R := R) k = callC T F k := Q5 ⟨Q1dp, trivial⟩
noncomputable abbrev Qpb : Oq R := inner T an116 (Q0 F) 0 k 33 (S116 k) (E116 K) Qjx (sh Qdd ws rs) N X
abbrev Qwp : List Sh := [.val [] .str, .rw 1, .ptr 2 0, .val [(0, 0)] zP3, zv, zv, .val [] .bool]
abbrev Qy1 : List RSh := [.mp 0 [(0, 0)] (.int .i64) zP3 false, zs5]
noncomputable def Qgi : Oq R :=
 Q6 Qwp Qy1 (fun v => Qi2 k (fun p4 => N (sh Q7j [.val [] .str v.1.1, .rw 1, .val [(0, 0)] zP3 v.1.2.2.2.1, zi v.1.2.2.2.2.1, zi v.1.2.2.2.2.2.1] [⟨0, .mp 0 [(0, 0)] (.int .i64) zP3 false p4 none⟩])) v.1.2.2.2.2.2.2.1 v.2.1 v.2.2.1.1 v.2.2.1.2.1 v.2.2.1.2.2.1 v.2.2.1.2.2.2.1 v.2.2.1.2.2.2.2.1 v.2.2.1.2.2.2.2.2.1 v.2.2.1.2.2.2.2.2.2.1) (Qpb k K ws rs N X) ws rs
noncomputable abbrev Quh : Oq R := inner T an116 (Q0 F) 0 k 33 (S116 k) (E116 K) Qzd (sh Q7j ws rs) N X
abbrev Qwo : List Sh := [.val [] .str, .rw 1, .val [(0, 0)] zP3, zv, zv]
abbrev Qy0 : List RSh := [.mp 0 [(0, 0)] (.int .i64) zP3 false]
noncomputable def Qvm : Oq R :=
 Q6 Qwo Qy0 (fun v => Q10o k (fun p0 => N (sh Q28 [.rw 1] [⟨0, .mp 0 [(0, 0)] (.int .i64) zP3 false p0 none⟩])) v.1.1 v.1.2.2.1 v.1.2.2.2.1 k v.1.2.2.2.2.1 v.2.1) (Quh k K ws rs N X) ws rs
noncomputable def L116 : Oq R := bif id == 1000006 then Qgi k K ws rs N X else bif id == 0 then Qvm k K ws rs N X else none
theorem Q16a : L116 k K 1000006 ws rs N X = Qpb k K ws rs N X := by
 show Qgi k K ws rs N X = _
 unfold Qgi
 rw [Q9u]
 exact lC (L116 k K) [] (by kernel_rfl) trivial fun x y => by kernel_rfl
theorem Q1gt (c0 : BA) (c1 : zL1) (c2 : Int) (m : Nat) : ∀ (c3 : Int) (c4 : zL0),
  iter (atHead an116 0 Qh7) m (fun st N' => exec T an116 (Q0 F) 0 k 33 (S116 k) (E116 K) Qh7 st N' (outX an116 0 0 N X)) (sh Q7j [.val [] .str c0, .rw 1, .val [(0, 0)] zP3 c1, zi c2, zi c3] [⟨0, .mp 0 [(0, 0)] (.int .i64) zP3 false c4 none⟩]) = Q4z k (fun p0 => N (sh Q28 [.rw 1] [⟨0, .mp 0 [(0, 0)] (.int .i64) zP3 false p0 none⟩])) c0 c1 c2 m c3 c4 := by
 induction m with
 | zero => intros; rfl
 | succ m ih =>
   intro c3 c4
   simp only [iter]
   rw [← Q7 T an116 (Q0 F) 0 k 33 (S116 k) (L116 k K) Qh7 (Qb _ _ _ _ _ _ _ _ Qh7 (l := [(1000006, Qdd, Qjx)]) (by kernel_rfl) ⟨Q16a k K, trivial⟩)]
   have h := fx2 ih
   simp only [Q4z]
   rw [← h]
   show _ = _
   kernel_rfl
theorem Q1hv : L116 k K 0 ws rs N X = Quh k K ws rs N X := by
 show Qvm k K ws rs N X = _
 unfold Qvm
 rw [Qek]
 exact Q4 (a := Qwo) (b := Qy0) (G := fun ws rs => Quh k K ws rs N X) (fun x y => Eq.trans (by kernel_rfl) (Eq.trans (Q1gt k K N X x.1 x.2.2.1 x.2.2.2.1 k x.2.2.2.2.1 y.1).symm (by kernel_rfl))) ws rs
theorem tu116 : tOk (R := R) 116 aa116 ab116 g116 := by
 intro k x y K
 unfold g116
 rw [Qrc]
 cases k with
 | zero => rfl
 | succ k => exact eS Tryz.f116 an116 0 33 (L116 k K) [(0, Q7j, Qzd)] (by kernel_rfl) (Q1ay k) (by kernel_rfl) ⟨Q1hv k K, trivial⟩ (by kernel_rfl)
noncomputable def s116 := onS (R := R) aa116 ab116 g116 (fun k => callC T F k 116)
theorem Qoy : sOk (R := R) s116 116 := Qc (fun _ _ _ _ => rfl) tu116
noncomputable abbrev kt135 : zL2 → Oq R := (fun z0 => K [] [zr8 z0])
abbrev aa135 : List Sh := [.rw 1, .fn 136 []]
abbrev ab135 : List RSh := [.arr [(0, 0)] zP0]
noncomputable def g135 (k : Nat) (v : Sh.D.DL aa135 × RSh.DL ab135) (K : KT R) : Oq R := f135 k v.2.1 (kt135 K)
theorem e135 (k : Nat) (a0 : zL2) (K : KT R) : callC T F k 135 [.rw 1, .fn 136 []] [zr8 a0] K = f135 k a0 (kt135 K) := by
 rw [Qrp]
 cases k with
 | zero => rfl
 | succ k => exact Q14q (m := [.any, .any]) (ty := zP0) (c := 136) (key := keyIx) [(0, 0)] rfl (by kernel_rfl) a0 K
theorem tu135 : tOk (R := R) 135 aa135 ab135 g135 := fun k x y K => e135 k y.1 K
noncomputable def s135 := onS (R := R) aa135 ab135 g135 (fun k => callC T F k 135)
theorem Q14n : sOk (R := R) s135 135 := Qc (fun _ _ _ _ => rfl) tu135
noncomputable abbrev kt118 : Int → Int → Bool → Bool → zL2 → Oq R := (fun z0 z1 z2 z3 z4 => K [.agg [zi z0, zi z1, .val [] .bool z2, .val [] .bool z3]] [zr8 z4])
abbrev aa118 : List Sh := [zv, .rw 1]
abbrev ab118 : List RSh := [.arr [(0, 0)] zP0]
noncomputable def g118 (k : Nat) (v : Sh.D.DL aa118 × RSh.DL ab118) (K : KT R) : Oq R := f118 k v.1.1 v.2.1 (kt118 K)
noncomputable abbrev E118 := ending T Tryz.f118 an118 1 K
noncomputable def S118 := pickS (R := R) [(135, s135)]
theorem Q1az : ∀ k, S118 (R := R) k = callC T F k := Q5 ⟨Q14n, trivial⟩
noncomputable abbrev Qpc : Oq R := inner T an118 (Q0 F) 1 k 55 (S118 k) (E118 K) Qjy (sh Qde ws rs) N X
abbrev Qwr : List Sh := [.ptr 2 0, .ptr 3 0, zv, zv, .ptr 4 0, .rw 1, zv, zv, .val [] .bool]
abbrev Qy3 : List RSh := [.arr [(0, 0)] zP0, zs6, zs6, zs5]
noncomputable def Qgj : Oq R :=
 Q6 Qwr Qy3 (fun v => let u0 := v.1.2.2.2.2.2.2.2; Qi3 k (fun p0 p10 => N (sh Q5x [.ptr 2 0, .ptr 3 0, zi p0, .rw 1, zi v.1.2.2.2.2.2.2.1, zi v.1.2.2.2.2.2.2.2.1] [zr8 v.2.1, zr9 v.2.2.1.1 v.2.2.1.2.1 v.2.2.1.2.2.1 v.2.2.1.2.2.2.1, zr9 v.2.2.2.1.1 v.2.2.2.1.2.1 p10 v.2.2.2.1.2.2.2.1])) v.1.2.2.1 v.1.2.2.2.1 u0.2.1 v.2.2.2.1.2.2.1 v.2.2.2.2.1.2.2.2.2.1) (Qpc k K ws rs N X) ws rs
noncomputable abbrev Qui : Oq R := inner T an118 (Q0 F) 1 k 55 (S118 k) (E118 K) Qze (sh Q5x ws rs) N X
abbrev Qwq : List Sh := [.ptr 2 0, .ptr 3 0, zv, .rw 1, zv, zv]
abbrev Qy2 : List RSh := [.arr [(0, 0)] zP0, zs6, zs6]
noncomputable def Qvn : Oq R :=
 Q6 Qwq Qy2 (fun v => Qre k (fun p0 p8 => N (sh Qol [.ptr 2 0, .ptr 3 0, zi p0] [zr8 v.2.1, zr9 v.2.2.1.1 v.2.2.1.2.1 v.2.2.1.2.2.1 v.2.2.1.2.2.2.1, zr9 v.2.2.2.1.1 v.2.2.2.1.2.1 p8 v.2.2.2.1.2.2.2.1])) v.1.2.2.2.2.1 v.2.1 v.2.2.1.1 v.2.2.1.2.1 v.2.2.1.2.2.1 v.2.2.1.2.2.2.1 v.2.2.2.1.1 v.2.2.2.1.2.1 v.2.2.2.1.2.2.2.1 k v.1.2.2.1 v.1.2.2.2.2.2.1 v.2.2.2.1.2.2.1) (Qui k K ws rs N X) ws rs
noncomputable def L118 : Oq R := bif id == 1000008 then Qgj k K ws rs N X else bif id == 0 then Qvn k K ws rs N X else none
theorem Q16b : L118 k K 1000008 ws rs N X = Qpc k K ws rs N X := by
 show Qgj k K ws rs N X = _
 unfold Qgj
 rw [Q9v]
 exact lC (L118 k K) [] (by kernel_rfl) trivial fun x y => by kernel_rfl
theorem Q1gu (c1 : Int) (c3 : zL2) (c4 c5 : Int) (c6 c7 : Bool) (c8 c9 : Int) (c11 : Bool) (m : Nat) : ∀ (c0 c2 : Int) (c10 : Bool),
  iter (atHead an118 1 Qh8) m (fun st N' => exec T an118 (Q0 F) 1 k 55 (S118 k) (E118 K) Qh8 st N' (outX an118 1 0 N X)) (sh Q5x [.ptr 2 0, .ptr 3 0, zi c0, .rw 1, zi c1, zi c2] [zr8 c3, zr9 c4 c5 c6 c7, zr9 c8 c9 c10 c11]) = Q51 k (fun p0 p8 => N (sh Qol [.ptr 2 0, .ptr 3 0, zi p0] [zr8 c3, zr9 c4 c5 c6 c7, zr9 c8 c9 p8 c11])) c1 c3 c4 c5 c6 c7 c8 c9 c11 m c0 c2 c10 := by
 induction m with
 | zero => intros; rfl
 | succ m ih =>
   intro c0 c2 c10
   simp only [iter]
   rw [← Q7 T an118 (Q0 F) 1 k 55 (S118 k) (L118 k K) Qh8 (Qb _ _ _ _ _ _ _ _ Qh8 (l := [(1000008, Qde, Qjy)]) (by kernel_rfl) ⟨Q16b k K, trivial⟩)]
   have h := fx3 ih
   simp only [Q51]
   rw [← h]
   show _ = _
   kernel_rfl
theorem Q1hw : L118 k K 0 ws rs N X = Qui k K ws rs N X := by
 show Qvn k K ws rs N X = _
 unfold Qvn
 rw [Qel]
 exact Q4 (a := Qwq) (b := Qy2) (G := fun ws rs => Qui k K ws rs N X) (fun x y => Eq.trans (by kernel_rfl) (Eq.trans (Q1gu k K N X x.2.2.2.2.1 y.1 y.2.1.1 y.2.1.2.1 y.2.1.2.2.1 y.2.1.2.2.2.1 y.2.2.1.1 y.2.2.1.2.1 y.2.2.1.2.2.2.1 k x.2.2.1 x.2.2.2.2.2.1 y.2.2.1.2.2.1).symm (by kernel_rfl))) ws rs
theorem tu118 : tOk (R := R) 118 aa118 ab118 g118 := by
 intro k x y K
 unfold g118
 rw [Qrf]
 cases k with
 | zero => rfl
 | succ k => exact eS Tryz.f118 an118 1 55 (L118 k K) [(0, Q5x, Qze)] (by kernel_rfl) (Q1az k) (by kernel_rfl) ⟨Q1hw k K, trivial⟩ (by kernel_rfl)
noncomputable def s118 := onS (R := R) aa118 ab118 g118 (fun k => callC T F k 118)
theorem Q1dd : sOk (R := R) s118 118 := Qc (fun _ _ _ _ => rfl) tu118
noncomputable abbrev kt119 : zL4 → Oq R := (fun z0 => K [] [zr10 z0])
abbrev aa119 : List Sh := [.rw 1, .fn 120 []]
abbrev ab119 : List RSh := [.arr [] zP2]
noncomputable def g119 (k : Nat) (v : Sh.D.DL aa119 × RSh.DL ab119) (K : KT R) : Oq R := f119 k v.2.1 (kt119 K)
theorem e119 (k : Nat) (a0 : zL4) (K : KT R) : callC T F k 119 [.rw 1, .fn 120 []] [zr10 a0] K = f119 k a0 (kt119 K) := by
 rw [Qrg]
 cases k with
 | zero => rfl
 | succ k => exact Q14q (m := [.any, .any]) (ty := zP2) (c := 120) (key := keyGen) [] rfl (by kernel_rfl) a0 K
theorem tu119 : tOk (R := R) 119 aa119 ab119 g119 := fun k x y K => e119 k y.1 K
noncomputable def s119 := onS (R := R) aa119 ab119 g119 (fun k => callC T F k 119)
theorem Q1de : sOk (R := R) s119 119 := Qc (fun _ _ _ _ => rfl) tu119
noncomputable abbrev kt70 : zL4 → Oq R := (fun z0 => K [.rw 1] [zr10 z0])
abbrev aa70 : List Sh := [.agg [zv, zv, zv, .val [(0, 0)] zT2, .val [(0, 0)] zP1, .val [(0, 0)] zP1, .val [(0, 0)] zP1, .val [(0, 0)] zP3, zv], .val [] .str]
abbrev ab70 : List RSh := []
noncomputable def g70 (k : Nat) (v : Sh.D.DL aa70 × RSh.DL ab70) (K : KT R) : Oq R := let u0 := v.1.1.2.2.2.2.2.2.2; f70 k v.1.1.1 v.1.1.2.1 v.1.1.2.2.1 v.1.1.2.2.2.1 v.1.1.2.2.2.2.1 v.1.1.2.2.2.2.2.1 v.1.1.2.2.2.2.2.2.1 v.1.1.2.2.2.2.2.2.2.1 u0.2.1 v.1.2.1 (kt70 K)
noncomputable abbrev E70 := ending T Tryz.f70 an70 0 K
noncomputable def S70 := pickS (R := R) [(116, s116), (118, s118), (119, s119)]
theorem Q1ew : ∀ k, S70 (R := R) k = callC T F k := Q5 ⟨Qoy, Q1dd, Q1de, trivial⟩
noncomputable abbrev I70_0 : Oq R := inner T an70 (Q0 F) 0 k 26 (S70 k) (E70 K) Q19l (sh Qmo ws rs) N X
abbrev Q181 : List Sh := [.rw 1, .ptr 2 0]
abbrev Q18r : List RSh := [.arr [] zP2, .mp 1 [(0, 0)] (.int .i64) zP3 false]
noncomputable def L70_0 : Oq R :=
 Q6 Q181 Q18r (fun v => f70_0 k (fun p0 => N (sh Q28 [.rw 1] [zr10 p0])) k v.2.1 v.2.2.1) (I70_0 k K ws rs N X) ws rs
noncomputable def L70 : Oq R := bif id == 0 then L70_0 k K ws rs N X else none
theorem i70_0 (m : Nat) : ∀ (c0 : zL4) (c1 : zL0),
  iter (atHead an70 0 Qq5) m (fun st N' => exec T an70 (Q0 F) 0 k 26 (S70 k) (E70 K) Qq5 st N' (outX an70 0 0 N X)) (sh Qmo [.rw 1, .ptr 2 0] [zr10 c0, ⟨0, .mp 1 [(0, 0)] (.int .i64) zP3 false c1 none⟩]) = Qag k (fun p0 => N (sh Q28 [.rw 1] [zr10 p0])) m c0 c1 := by
 induction m with
 | zero => intros; rfl
 | succ m ih =>
   intro c0 c1
   simp only [iter]
   rw [← Q7 T an70 (Q0 F) 0 k 26 (S70 k) (L70 k K) Qq5 (Qb _ _ _ _ _ _ _ _ Qq5 (l := []) (by kernel_rfl) trivial)]
   have h := fx2 ih
   simp only [Qag]
   rw [← h]
   show _ = _
   kernel_rfl
theorem l70_0 : L70 k K 0 ws rs N X = I70_0 k K ws rs N X := by
 show L70_0 k K ws rs N X = _
 unfold L70_0
 rw [Ql2]
 exact Q4 (a := Q181) (b := Q18r) (G := fun ws rs => I70_0 k K ws rs N X) (fun x y => Eq.trans (by kernel_rfl) (Eq.trans (i70_0 k K N X k y.1 y.2.1).symm (by kernel_rfl))) ws rs
theorem tu70 : tOk (R := R) 70 aa70 ab70 g70 := by
 intro k x y K
 unfold g70
 rw [Q12g]
 cases k with
 | zero => rfl
 | succ k => exact eS Tryz.f70 an70 0 26 (L70 k K) [(0, Qmo, Q19l)] (by kernel_rfl) (Q1ew k) (by kernel_rfl) ⟨l70_0 k K, trivial⟩ (by kernel_rfl)
noncomputable def s70 := onS (R := R) aa70 ab70 g70 (fun k => callC T F k 70)
theorem Q1j7 : sOk (R := R) s70 70 := Qc (fun _ _ _ _ => rfl) tu70
noncomputable abbrev kt107 : zK7 R := (fun z0 z1 z2 z3 z4 z5 => K [.agg [zi z0, zi z1, .val [] .bool z2, .val [] .bool z3], .rw 1, .val [] .bool z4] [zr8 z5])
abbrev aa107 : List Sh := [.agg [zv, zv, zv, .val [(0, 0)] zT2, .val [(0, 0)] zP1, .val [(0, 0)] zP1, .val [(0, 0)] zP1, .val [(0, 0)] zP3, zv], .val [] .str]
abbrev ab107 : List RSh := []
noncomputable def g107 (k : Nat) (v : Sh.D.DL aa107 × RSh.DL ab107) (K : KT R) : Oq R := let u0 := v.1.1.2.2.2.2.2.2.2; f107 k v.1.1.1 v.1.1.2.1 v.1.1.2.2.1 v.1.1.2.2.2.1 v.1.1.2.2.2.2.1 v.1.1.2.2.2.2.2.1 v.1.1.2.2.2.2.2.2.1 v.1.1.2.2.2.2.2.2.2.1 u0.2.1 v.1.2.1 (kt107 K)
noncomputable abbrev E107 := ending T Tryz.f107 an107 0 K
noncomputable def S107 := pickS (R := R) [(70, s70), (116, s116), (135, s135)]
theorem Q1ap : ∀ k, S107 (R := R) k = callC T F k := Q5 ⟨Q1j7, Qoy, Q14n, trivial⟩
noncomputable abbrev Qua : Oq R := inner T an107 (Q0 F) 0 k 32 (S107 k) (E107 K) Qz6 (sh Q9c ws rs) N X
abbrev Qwe : List Sh := [.val [] .str, .ptr 1 0, .ptr 2 0, .rw 3, zv, zv]
abbrev Qxq : List RSh := [zs4, zs6, .arr [] zP2]
noncomputable def Qvf : Oq R :=
 Q6 Qwe Qxq (fun v => let u0 := v.2.1.2.2.2.2.2.2.2; Q10c k (kt107 K) (N (sh Q44 [.ptr 1 0] [zr9 v.2.2.1.1 v.2.2.1.2.1 v.2.2.1.2.2.1 v.2.2.1.2.2.2.1])) v.1.1 v.1.2.2.2.2.1 v.2.1.1 v.2.1.2.1 v.2.1.2.2.1 v.2.1.2.2.2.1 v.2.1.2.2.2.2.1 v.2.1.2.2.2.2.2.1 v.2.1.2.2.2.2.2.2.1 v.2.1.2.2.2.2.2.2.2.1 u0.2.1 v.2.2.1.1 v.2.2.1.2.1 v.2.2.1.2.2.1 v.2.2.1.2.2.2.1 v.2.2.2.1 k v.1.2.2.2.2.2.1) (Qua k K ws rs N X) ws rs
noncomputable def L107 : Oq R := bif id == 0 then Qvf k K ws rs N X else none
theorem Q1gm (c0 : BA) (c1 c3 c4 c5 : Int) (c6 c7 c8 c9 : LI) (c10 : zL1) (c11 c12 c13 : Int) (c14 c15 : Bool) (c16 : zL4) (m : Nat) : ∀ (c2 : Int),
  iter (atHead an107 0 Qh0) m (fun st N' => exec T an107 (Q0 F) 0 k 32 (S107 k) (E107 K) Qh0 st N' (outX an107 0 0 N X)) (sh Q9c [.val [] .str c0, .ptr 1 0, .ptr 2 0, .rw 3, zi c1, zi c2] [zr7 c3 c4 c5 c6 c7 c8 c9 c10 c11, zr9 c12 c13 c14 c15, zr10 c16]) = Q4s k (kt107 K) (N (sh Q44 [.ptr 1 0] [zr9 c12 c13 c14 c15])) c0 c1 c3 c4 c5 c6 c7 c8 c9 c10 c11 c12 c13 c14 c15 c16 m c2 := by
 induction m with
 | zero => intros; rfl
 | succ m ih =>
   intro c2
   simp only [iter]
   rw [← Q7 T an107 (Q0 F) 0 k 32 (S107 k) (L107 k K) Qh0 (Qb _ _ _ _ _ _ _ _ Qh0 (l := []) (by kernel_rfl) trivial)]
   have h := fx1 ih
   simp only [Q4s]
   rw [← h]
   show _ = _
   kernel_rfl
theorem Q1ho : L107 k K 0 ws rs N X = Qua k K ws rs N X := by
 show Qvf k K ws rs N X = _
 unfold Qvf
 rw [Qed]
 exact Q4 (a := Qwe) (b := Qxq) (G := fun ws rs => Qua k K ws rs N X) (fun x y => Eq.trans (by kernel_rfl) (Eq.trans (Q1gm k K N X x.1 x.2.2.2.2.1 y.1.1 y.1.2.1 y.1.2.2.1 y.1.2.2.2.1 y.1.2.2.2.2.1 y.1.2.2.2.2.2.1 y.1.2.2.2.2.2.2.1 y.1.2.2.2.2.2.2.2.1 y.1.2.2.2.2.2.2.2.2.1 y.2.1.1 y.2.1.2.1 y.2.1.2.2.1 y.2.1.2.2.2.1 y.2.2.1 k x.2.2.2.2.2.1).symm (by kernel_rfl))) ws rs
theorem tu107 : tOk (R := R) 107 aa107 ab107 g107 := by
 intro k x y K
 unfold g107
 rw [Qr3]
 cases k with
 | zero => rfl
 | succ k => exact eS Tryz.f107 an107 0 32 (L107 k K) [(0, Q9c, Qz6)] (by kernel_rfl) (Q1ap k) (by kernel_rfl) ⟨Q1ho k K, trivial⟩ (by kernel_rfl)
noncomputable def s107 := onS (R := R) aa107 ab107 g107 (fun k => callC T F k 107)
theorem Q1d8 : sOk (R := R) s107 107 := Qc (fun _ _ _ _ => rfl) tu107
noncomputable abbrev kt117 : LI → Oq R := (fun z0 => K [] [zr3 z0])
abbrev aa117 : List Sh := [.rw 1]
abbrev ab117 : List RSh := [.arr [] (.int .i64)]
noncomputable def g117 (k : Nat) (v : Sh.D.DL aa117 × RSh.DL ab117) (K : KT R) : Oq R := f117 k v.2.1 (kt117 K)
theorem e117 (k : Nat) (a0 : LI) (K : KT R) : callC T F k 117 [.rw 1] [zr3 a0] K = f117 k a0 (kt117 K) := by
 rw [Qrd]
 cases k with
 | zero => rfl
 | succ k => exact Qty (m := [.any]) (by kernel_rfl) a0 K
theorem tu117 : tOk (R := R) 117 aa117 ab117 g117 := fun k x y K => e117 k y.1 K
noncomputable def s117 := onS (R := R) aa117 ab117 g117 (fun k => callC T F k 117)
theorem Q1dc : sOk (R := R) s117 117 := Qc (fun _ _ _ _ => rfl) tu117
noncomputable abbrev kt68 : LI → Oq R := (fun z0 => K [.rw 1] [zr3 z0])
abbrev aa68 : List Sh := [.agg [zv, zv, zv, .val [(0, 0)] zT2, .val [(0, 0)] zP1, .val [(0, 0)] zP1, .val [(0, 0)] zP1, .val [(0, 0)] zP3, zv]]
abbrev ab68 : List RSh := []
noncomputable def g68 (k : Nat) (v : Sh.D.DL aa68 × RSh.DL ab68) (K : KT R) : Oq R := let u0 := v.1.1.2.2.2.2.2.2.2; f68 k v.1.1.1 v.1.1.2.1 v.1.1.2.2.1 v.1.1.2.2.2.1 v.1.1.2.2.2.2.1 v.1.1.2.2.2.2.2.1 v.1.1.2.2.2.2.2.2.1 v.1.1.2.2.2.2.2.2.2.1 u0.2.1 (kt68 K)
noncomputable abbrev E68 := ending T Tryz.f68 an68 0 K
noncomputable def S68 := pickS (R := R) [(74, s74), (107, s107), (116, s116), (117, s117)]
theorem Q1eu : ∀ k, S68 (R := R) k = callC T F k := Q5 ⟨Q1j9, Q1d8, Qoy, Q1dc, trivial⟩
noncomputable abbrev I68_2 : Oq R := inner T an68 (Q0 F) 0 k 54 (S68 k) (E68 K) Q19g (sh Qmn ws rs) N X
abbrev Q17x : List Sh := [.ptr 1 0, .rw 2, .rw 3, zv, zv, .rw 4, zv, zv]
abbrev Q18n : List RSh := [zs4, .arr [] (.int .i64), .arr [] .str, .arr [(0, 0)] zP0]
noncomputable def L68_2 : Oq R :=
 Q6 Q17x Q18n (fun v => let u0 := v.2.1.2.2.2.2.2.2.2; f68_2 k (fun p11 => N (sh Qfy [.ptr 1 0, .rw 2, .rw 3, zi v.1.2.2.2.1, zi v.1.2.2.2.2.1] [zr7 v.2.1.1 v.2.1.2.1 v.2.1.2.2.1 v.2.1.2.2.2.1 v.2.1.2.2.2.2.1 v.2.1.2.2.2.2.2.1 v.2.1.2.2.2.2.2.2.1 v.2.1.2.2.2.2.2.2.2.1 u0.2.1, zr3 p11, ⟨0, .arr [] .str v.2.2.2.1⟩])) v.1.2.2.2.1 v.1.2.2.2.2.1 v.1.2.2.2.2.2.2.1 v.2.1.1 v.2.1.2.1 v.2.1.2.2.1 v.2.1.2.2.2.1 v.2.1.2.2.2.2.1 v.2.1.2.2.2.2.2.1 v.2.1.2.2.2.2.2.2.1 v.2.1.2.2.2.2.2.2.2.1 u0.2.1 v.2.2.2.1 v.2.2.2.2.1 k v.1.2.2.2.2.2.2.2.1 v.2.2.1) (I68_2 k K ws rs N X) ws rs
noncomputable abbrev I68_1 : Oq R := inner T an68 (Q0 F) 0 k 54 (S68 k) (E68 K) Q19f (sh Qfy ws rs) N X
abbrev Q1fc : List Sh := [.ptr 1 0, .rw 2, .rw 3, zv, zv]
abbrev Q1fj : List RSh := [zs4, .arr [] (.int .i64), .arr [] .str]
noncomputable def L68_1 : Oq R :=
 Q6 Q1fc Q1fj (fun v => let u0 := v.2.1.2.2.2.2.2.2.2; f68_1 k (fun p11 => N (sh Qdq [.ptr 1 0, .rw 2, .rw 3, zi v.1.2.2.2.1, zi v.1.2.2.2.2.1] [zr7 v.2.1.1 v.2.1.2.1 v.2.1.2.2.1 v.2.1.2.2.2.1 v.2.1.2.2.2.2.1 v.2.1.2.2.2.2.2.1 v.2.1.2.2.2.2.2.2.1 v.2.1.2.2.2.2.2.2.2.1 u0.2.1, zr3 p11, ⟨0, .arr [] .str v.2.2.2.1⟩])) v.1.2.2.2.1 v.1.2.2.2.2.1 v.2.1.1 v.2.1.2.1 v.2.1.2.2.1 v.2.1.2.2.2.1 v.2.1.2.2.2.2.1 v.2.1.2.2.2.2.2.1 v.2.1.2.2.2.2.2.2.1 v.2.1.2.2.2.2.2.2.2.1 u0.2.1 v.2.2.1 v.2.2.2.1) (I68_1 k K ws rs N X) ws rs
noncomputable abbrev I68_0 : Oq R := inner T an68 (Q0 F) 0 k 54 (S68 k) (E68 K) Q19e (sh Qdq ws rs) N X
abbrev Q17w : List Sh := [.ptr 1 0, .rw 2, .rw 3, zv, zv]
abbrev Q18m : List RSh := [zs4, .arr [] (.int .i64), .arr [] .str]
noncomputable def L68_0 : Oq R :=
 Q6 Q17w Q18m (fun v => let u0 := v.2.1.2.2.2.2.2.2.2; f68_0 k (fun p0 => N (sh Qz [.rw 1] [zr3 p0])) v.1.2.2.2.1 v.2.1.1 v.2.1.2.1 v.2.1.2.2.1 v.2.1.2.2.2.1 v.2.1.2.2.2.2.1 v.2.1.2.2.2.2.2.1 v.2.1.2.2.2.2.2.2.1 v.2.1.2.2.2.2.2.2.2.1 u0.2.1 v.2.2.2.1 k v.1.2.2.2.2.1 v.2.2.1) (I68_0 k K ws rs N X) ws rs
noncomputable def L68 : Oq R := bif id == 2 then L68_2 k K ws rs N X else bif id == 1 then L68_1 k K ws rs N X else bif id == 0 then L68_0 k K ws rs N X else none
theorem i68_2 (c0 c1 c2 c4 c5 c6 : Int) (c7 c8 c9 c10 : LI) (c11 : zL1) (c12 : Int) (c14 : List BA) (c15 : zL2) (m : Nat) : ∀ (c3 : Int) (c13 : LI),
  iter (atHead an68 0 Qq1) m (fun st N' => exec T an68 (Q0 F) 0 k 54 (S68 k) (E68 K) Qq1 st N' (outX an68 0 2 N X)) (sh Qmn [.ptr 1 0, .rw 2, .rw 3, zi c0, zi c1, .rw 4, zi c2, zi c3] [zr7 c4 c5 c6 c7 c8 c9 c10 c11 c12, zr3 c13, ⟨0, .arr [] .str c14⟩, zr8 c15]) = Qad k (fun p11 => N (sh Qfy [.ptr 1 0, .rw 2, .rw 3, zi c0, zi c1] [zr7 c4 c5 c6 c7 c8 c9 c10 c11 c12, zr3 p11, ⟨0, .arr [] .str c14⟩])) c0 c1 c2 c4 c5 c6 c7 c8 c9 c10 c11 c12 c14 c15 m c3 c13 := by
 induction m with
 | zero => intros; rfl
 | succ m ih =>
   intro c3 c13
   simp only [iter]
   rw [← Q7 T an68 (Q0 F) 0 k 54 (S68 k) (L68 k K) Qq1 (Qb _ _ _ _ _ _ _ _ Qq1 (l := []) (by kernel_rfl) trivial)]
   have h := fx2 ih
   simp only [Qad]
   rw [← h]
   show _ = _
   kernel_rfl
theorem l68_2 : L68 k K 2 ws rs N X = I68_2 k K ws rs N X := by
 show L68_2 k K ws rs N X = _
 unfold L68_2
 rw [Qkx]
 exact Q4 (a := Q17x) (b := Q18n) (G := fun ws rs => I68_2 k K ws rs N X) (fun x y => Eq.trans (by kernel_rfl) (Eq.trans (i68_2 k K N X x.2.2.2.1 x.2.2.2.2.1 x.2.2.2.2.2.2.1 y.1.1 y.1.2.1 y.1.2.2.1 y.1.2.2.2.1 y.1.2.2.2.2.1 y.1.2.2.2.2.2.1 y.1.2.2.2.2.2.2.1 y.1.2.2.2.2.2.2.2.1 y.1.2.2.2.2.2.2.2.2.1 y.2.2.1 y.2.2.2.1 k x.2.2.2.2.2.2.2.1 y.2.1).symm (by kernel_rfl))) ws rs
theorem l68_1 : L68 k K 1 ws rs N X = I68_1 k K ws rs N X := by
 show L68_1 k K ws rs N X = _
 unfold L68_1
 rw [Qkw]
 exact lC (L68 k K) [(2, Qmn, Q19g)] (by kernel_rfl) ⟨l68_2 k K, trivial⟩ fun x y => by kernel_rfl
theorem i68_0 (c0 c2 c3 c4 : Int) (c5 c6 c7 c8 : LI) (c9 : zL1) (c10 : Int) (c12 : List BA) (m : Nat) : ∀ (c1 : Int) (c11 : LI),
  iter (atHead an68 0 Qq0) m (fun st N' => exec T an68 (Q0 F) 0 k 54 (S68 k) (E68 K) Qq0 st N' (outX an68 0 0 N X)) (sh Qdq [.ptr 1 0, .rw 2, .rw 3, zi c0, zi c1] [zr7 c2 c3 c4 c5 c6 c7 c8 c9 c10, zr3 c11, ⟨0, .arr [] .str c12⟩]) = Qac k (fun p0 => N (sh Qz [.rw 1] [zr3 p0])) c0 c2 c3 c4 c5 c6 c7 c8 c9 c10 c12 m c1 c11 := by
 induction m with
 | zero => intros; rfl
 | succ m ih =>
   intro c1 c11
   simp only [iter]
   rw [← Q7 T an68 (Q0 F) 0 k 54 (S68 k) (L68 k K) Qq0 (Qb _ _ _ _ _ _ _ _ Qq0 (l := [(1, Qfy, Q19f)]) (by kernel_rfl) ⟨l68_1 k K, trivial⟩)]
   have h := fx2 ih
   simp only [Qac]
   rw [← h]
   show _ = _
   kernel_rfl
theorem l68_0 : L68 k K 0 ws rs N X = I68_0 k K ws rs N X := by
 show L68_0 k K ws rs N X = _
 unfold L68_0
 rw [Qkv]
 exact Q4 (a := Q17w) (b := Q18m) (G := fun ws rs => I68_0 k K ws rs N X) (fun x y => Eq.trans (by kernel_rfl) (Eq.trans (i68_0 k K N X x.2.2.2.1 y.1.1 y.1.2.1 y.1.2.2.1 y.1.2.2.2.1 y.1.2.2.2.2.1 y.1.2.2.2.2.2.1 y.1.2.2.2.2.2.2.1 y.1.2.2.2.2.2.2.2.1 y.1.2.2.2.2.2.2.2.2.1 y.2.2.1 k x.2.2.2.2.1 y.2.1).symm (by kernel_rfl))) ws rs
theorem tu68 : tOk (R := R) 68 aa68 ab68 g68 := by
 intro k x y K
 unfold g68
 rw [Q129]
 cases k with
 | zero => rfl
 | succ k => exact eS Tryz.f68 an68 0 54 (L68 k K) [(0, Qdq, Q19e)] (by kernel_rfl) (Q1eu k) (by kernel_rfl) ⟨l68_0 k K, trivial⟩ (by kernel_rfl)
noncomputable def s68 := onS (R := R) aa68 ab68 g68 (fun k => callC T F k 68)
theorem Q1j5 : sOk (R := R) s68 68 := Qc (fun _ _ _ _ => rfl) tu68
noncomputable abbrev kt24 : Int → LI → Oq R := (fun z0 z1 => K [.rw 1, zi z0] [zr3 z1])
abbrev aa24 : List Sh := [.agg [zv, zv, zv, .val [(0, 0)] zT2, .val [(0, 0)] zP1, .val [(0, 0)] zP1]]
abbrev ab24 : List RSh := []
noncomputable def g24 (k : Nat) (v : Sh.D.DL aa24 × RSh.DL ab24) (K : KT R) : Oq R := f24 k v.1.1.1 v.1.1.2.1 v.1.1.2.2.1 v.1.1.2.2.2.1 v.1.1.2.2.2.2.1 v.1.1.2.2.2.2.2.1 (kt24 K)
noncomputable def S24 := pickS (R := R) [(19, s19), (46, s46), (68, s68)]
theorem Q1ed : ∀ k, S24 (R := R) k = callC T F k := Q5 ⟨Qsv, Q14p, Q1j5, trivial⟩
theorem tu24 : tOk (R := R) 24 aa24 ab24 g24 := by
 intro k x y K
 unfold g24
 rw [Q11h]
 cases k with
 | zero => rfl
 | succ k => exact eS Tryz.f24 an24 0 13 L0 [] (by kernel_rfl) (Q1ed k) (by kernel_rfl) trivial (by kernel_rfl)
noncomputable def s24 := onS (R := R) aa24 ab24 g24 (fun k => callC T F k 24)
theorem Q1it : sOk (R := R) s24 24 := Qc (fun _ _ _ _ => rfl) tu24
noncomputable abbrev kt72 : zL2 → Oq R := (fun z0 => K [.rw 1] [zr4 z0])
abbrev aa72 : List Sh := [.agg [zv, zv, zv, .val [(0, 0)] zT2, .val [(0, 0)] zP1, .val [(0, 0)] zP1]]
abbrev ab72 : List RSh := []
noncomputable def g72 (k : Nat) (v : Sh.D.DL aa72 × RSh.DL ab72) (K : KT R) : Oq R := f72 k v.1.1.1 v.1.1.2.1 v.1.1.2.2.1 v.1.1.2.2.2.1 v.1.1.2.2.2.2.1 v.1.1.2.2.2.2.2.1 (kt72 K)
noncomputable abbrev E72 := ending T Tryz.f72 an72 0 K
noncomputable def S72 := pickS (R := R) [(60, s60), (90, s90), (101, s101), (112, s112)]
theorem Q1ey : ∀ k, S72 (R := R) k = callC T F k := Q5 ⟨Qsx, Q1af, Q14h, Q14l, trivial⟩
noncomputable abbrev I72_2 : Oq R := inner T an72 (Q0 F) 0 k 69 (S72 k) (E72 K) Q19r (sh Qg0 ws rs) N X
abbrev Q185 : List Sh := [.ptr 1 0, .rw 2, zv, .ptr 3 0, .val [] .bool, zv]
abbrev Q18v : List RSh := [zs0, .arr [] zP0, .vars [zv, .val [] .bool, .val [] .str, zv, .val [] .bool, .rw 4], .arr [] (.int .u8)]
noncomputable def L72_2 : Oq R :=
 Q6 Q185 Q18v (fun v => f72_2 k (fun p1 => N (sh Q13o [.ptr 1 0, .rw 2, zi v.1.2.2.1, .ptr 3 0, .val [] .bool p1] [zr0 v.2.1.1 v.2.1.2.1 v.2.1.2.2.1 v.2.1.2.2.2.1 v.2.1.2.2.2.2.1 v.2.1.2.2.2.2.2.1, zr4 v.2.2.1, ⟨0, .vars [zi v.2.2.2.1.1, .val [] .bool v.2.2.2.1.2.1, .val [] .str v.2.2.2.1.2.2.1, zi v.2.2.2.1.2.2.2.1, .val [] .bool v.2.2.2.1.2.2.2.2.1, .rw 4]⟩, zr1 v.2.2.2.2.1])) v.1.2.2.1 v.2.1.1 v.2.1.2.1 v.2.1.2.2.1 v.2.1.2.2.2.1 v.2.1.2.2.2.2.1 v.2.1.2.2.2.2.2.1 v.2.2.1 v.2.2.2.1.1 v.2.2.2.1.2.1 v.2.2.2.1.2.2.1 v.2.2.2.1.2.2.2.1 v.2.2.2.1.2.2.2.2.1 v.2.2.2.2.1 k v.1.2.2.2.2.1 v.1.2.2.2.2.2.1) (I72_2 k K ws rs N X) ws rs
noncomputable abbrev Qv7 : Oq R := inner T an72 (Q0 F) 0 k 69 (S72 k) (E72 K) Qqn (sh Qjd ws rs) N X
abbrev Q15g : List Sh := [.ptr 1 0, .rw 2, zv, .ptr 3 0, .val [] .bool]
abbrev Q15p : List RSh := [zs0, .arr [] zP0, .vars [zv, .val [] .bool, .val [] .str, zv, .val [] .bool, .rw 4], .arr [] (.int .u8)]
noncomputable def Qn9 : Oq R :=
 Q6 Q15g Q15p (fun v => Qof k (fun p7 => N (sh Q8n [.ptr 1 0, .rw 2, zi v.1.2.2.1] [zr0 v.2.1.1 v.2.1.2.1 v.2.1.2.2.1 v.2.1.2.2.2.1 v.2.1.2.2.2.2.1 v.2.1.2.2.2.2.2.1, zr4 p7])) v.1.2.2.1 v.1.2.2.2.2.1 v.2.2.1 v.2.2.2.1.1 v.2.2.2.1.2.1 v.2.2.2.1.2.2.1 v.2.2.2.1.2.2.2.1 v.2.2.2.1.2.2.2.2.1 v.2.2.2.2.1) (Qv7 k K ws rs N X) ws rs
noncomputable abbrev I72_1 : Oq R := inner T an72 (Q0 F) 0 k 69 (S72 k) (E72 K) Q19q (sh Q14x ws rs) N X
abbrev Q1ff : List Sh := [.ptr 1 0, .rw 2, zv]
abbrev Q1fm : List RSh := [zs0, .arr [] zP0]
noncomputable def L72_1 : Oq R :=
 Q6 Q1ff Q1fm (fun v => f72_1 k (fun p7 => N (sh Q8n [.ptr 1 0, .rw 2, zi v.1.2.2.1] [zr0 v.2.1.1 v.2.1.2.1 v.2.1.2.2.1 v.2.1.2.2.2.1 v.2.1.2.2.2.2.1 v.2.1.2.2.2.2.2.1, zr4 p7])) v.1.2.2.1 v.2.1.1 v.2.1.2.1 v.2.1.2.2.1 v.2.1.2.2.2.1 v.2.1.2.2.2.2.1 v.2.1.2.2.2.2.2.1 v.2.2.1) (I72_1 k K ws rs N X) ws rs
noncomputable abbrev I72_0 : Oq R := inner T an72 (Q0 F) 0 k 69 (S72 k) (E72 K) Q19p (sh Q8n ws rs) N X
abbrev Q184 : List Sh := [.ptr 1 0, .rw 2, zv]
abbrev Q18u : List RSh := [zs0, .arr [] zP0]
noncomputable def L72_0 : Oq R :=
 Q6 Q184 Q18u (fun v => f72_0 k (fun p0 => N (sh Qz [.rw 1] [zr4 p0])) v.2.1.1 v.2.1.2.1 v.2.1.2.2.1 v.2.1.2.2.2.1 v.2.1.2.2.2.2.1 v.2.1.2.2.2.2.2.1 k v.1.2.2.1 v.2.2.1) (I72_0 k K ws rs N X) ws rs
noncomputable def L72 : Oq R := bif id == 2 then L72_2 k K ws rs N X else bif id == 1000013 then Qn9 k K ws rs N X else bif id == 1 then L72_1 k K ws rs N X else bif id == 0 then L72_0 k K ws rs N X else none
theorem i72_2 (c0 c3 c4 c5 : Int) (c6 c7 c8 : LI) (c9 : zL2) (c10 : Int) (c11 : Bool) (c12 : BA) (c13 : Int) (c14 : Bool) (c15 : LI) (m : Nat) : ∀ (c1 : Bool) (c2 : Int),
  iter (atHead an72 0 Qq9) m (fun st N' => exec T an72 (Q0 F) 0 k 69 (S72 k) (E72 K) Qq9 st N' (outX an72 0 2 N X)) (sh Qg0 [.ptr 1 0, .rw 2, zi c0, .ptr 3 0, .val [] .bool c1, zi c2] [zr0 c3 c4 c5 c6 c7 c8, zr4 c9, ⟨0, .vars [zi c10, .val [] .bool c11, .val [] .str c12, zi c13, .val [] .bool c14, .rw 4]⟩, zr1 c15]) = Q6y k (fun p1 => N (sh Q13o [.ptr 1 0, .rw 2, zi c0, .ptr 3 0, .val [] .bool p1] [zr0 c3 c4 c5 c6 c7 c8, zr4 c9, ⟨0, .vars [zi c10, .val [] .bool c11, .val [] .str c12, zi c13, .val [] .bool c14, .rw 4]⟩, zr1 c15])) c0 c3 c4 c5 c6 c7 c8 c9 c10 c11 c12 c13 c14 c15 m c1 c2 := by
 induction m with
 | zero => intros; rfl
 | succ m ih =>
   intro c1 c2
   simp only [iter]
   rw [← Q7 T an72 (Q0 F) 0 k 69 (S72 k) (L72 k K) Qq9 (Qb _ _ _ _ _ _ _ _ Qq9 (l := []) (by kernel_rfl) trivial)]
   have h := fx2 ih
   simp only [Q6y]
   rw [← h]
   show _ = _
   kernel_rfl
theorem l72_2 : L72 k K 2 ws rs N X = I72_2 k K ws rs N X := by
 show L72_2 k K ws rs N X = _
 unfold L72_2
 rw [Ql7]
 exact Q4 (a := Q185) (b := Q18v) (G := fun ws rs => I72_2 k K ws rs N X) (fun x y => Eq.trans (by kernel_rfl) (Eq.trans (i72_2 k K N X x.2.2.1 y.1.1 y.1.2.1 y.1.2.2.1 y.1.2.2.2.1 y.1.2.2.2.2.1 y.1.2.2.2.2.2.1 y.2.1 y.2.2.1.1 y.2.2.1.2.1 y.2.2.1.2.2.1 y.2.2.1.2.2.2.1 y.2.2.1.2.2.2.2.1 y.2.2.2.1 k x.2.2.2.2.1 x.2.2.2.2.2.1).symm (by kernel_rfl))) ws rs
theorem Q1cn : L72 k K 1000013 ws rs N X = Qv7 k K ws rs N X := by
 show Qn9 k K ws rs N X = _
 unfold Qn9
 rw [Qc3]
 exact lC (L72 k K) [] (by kernel_rfl) trivial fun x y => by kernel_rfl
theorem l72_1 : L72 k K 1 ws rs N X = I72_1 k K ws rs N X := by
 show L72_1 k K ws rs N X = _
 unfold L72_1
 rw [Ql6]
 exact lC (L72 k K) [(2, Qg0, Q19r), (1000013, Qjd, Qqn)] (by kernel_rfl) ⟨l72_2 k K, Q1cn k K, trivial⟩ fun x y => by kernel_rfl
theorem i72_0 (c1 c2 c3 : Int) (c4 c5 c6 : LI) (m : Nat) : ∀ (c0 : Int) (c7 : zL2),
  iter (atHead an72 0 Qq8) m (fun st N' => exec T an72 (Q0 F) 0 k 69 (S72 k) (E72 K) Qq8 st N' (outX an72 0 0 N X)) (sh Q8n [.ptr 1 0, .rw 2, zi c0] [zr0 c1 c2 c3 c4 c5 c6, zr4 c7]) = Q6x k (fun p0 => N (sh Qz [.rw 1] [zr4 p0])) c1 c2 c3 c4 c5 c6 m c0 c7 := by
 induction m with
 | zero => intros; rfl
 | succ m ih =>
   intro c0 c7
   simp only [iter]
   rw [← Q7 T an72 (Q0 F) 0 k 69 (S72 k) (L72 k K) Qq8 (Qb _ _ _ _ _ _ _ _ Qq8 (l := [(1, Q14x, Q19q)]) (by kernel_rfl) ⟨l72_1 k K, trivial⟩)]
   have h := fx2 ih
   simp only [Q6x]
   rw [← h]
   show _ = _
   kernel_rfl
theorem l72_0 : L72 k K 0 ws rs N X = I72_0 k K ws rs N X := by
 show L72_0 k K ws rs N X = _
 unfold L72_0
 rw [Ql5]
 exact Q4 (a := Q184) (b := Q18u) (G := fun ws rs => I72_0 k K ws rs N X) (fun x y => Eq.trans (by kernel_rfl) (Eq.trans (i72_0 k K N X y.1.1 y.1.2.1 y.1.2.2.1 y.1.2.2.2.1 y.1.2.2.2.2.1 y.1.2.2.2.2.2.1 k x.2.2.1 y.2.1).symm (by kernel_rfl))) ws rs
theorem tu72 : tOk (R := R) 72 aa72 ab72 g72 := by
 intro k x y K
 unfold g72
 rw [Q12n]
 cases k with
 | zero => rfl
 | succ k => exact eS Tryz.f72 an72 0 69 (L72 k K) [(0, Q8n, Q19p)] (by kernel_rfl) (Q1ey k) (by kernel_rfl) ⟨l72_0 k K, trivial⟩ (by kernel_rfl)
noncomputable def s72 := onS (R := R) aa72 ab72 g72 (fun k => callC T F k 72)
theorem Q1j8 : sOk (R := R) s72 72 := Qc (fun _ _ _ _ => rfl) tu72
noncomputable abbrev kt76 : List BA → Oq R := (fun z0 => K [.rw 1] [⟨0, .arr [] .str z0⟩])
abbrev aa76 : List Sh := [.val [(0, 0)] zP3]
abbrev ab76 : List RSh := []
noncomputable def g76 (k : Nat) (v : Sh.D.DL aa76 × RSh.DL ab76) (K : KT R) : Oq R := f76 k v.1.1 (kt76 K)
noncomputable abbrev E76 := ending T Tryz.f76 an76 0 K
noncomputable def S76 := pickS (R := R) []
theorem Q1f0 : ∀ k, S76 (R := R) k = callC T F k := Q5 trivial
noncomputable abbrev I76_2 : Oq R := inner T an76 (Q0 F) 0 k 61 (S76 k) (E76 K) Q19v (sh Q8o ws rs) N X
abbrev Q188 : List Sh := [.val [(0, 0)] zP3, .rw 1, zv, .val [] .str, zv]
abbrev Q18y : List RSh := [.arr [] .str]
noncomputable def L76_2 : Oq R :=
 Q6 Q188 Q18y (fun v => f76_2 k (fun p3 => N (sh Q8o [.val [(0, 0)] zP3 v.1.1, .rw 1, zi v.1.2.2.1, .val [] .str v.1.2.2.2.1, zi p3] [⟨0, .arr [] .str v.2.1⟩])) v.1.1 v.1.2.2.1 v.1.2.2.2.1 v.2.1 k v.1.2.2.2.2.1) (I76_2 k K ws rs N X) ws rs
noncomputable abbrev I76_1 : Oq R := inner T an76 (Q0 F) 0 k 61 (S76 k) (E76 K) Q19u (sh Qm ws rs) N X
abbrev Q1fg : List Sh := [.val [(0, 0)] zP3, .rw 1, zv]
abbrev Q1fn : List RSh := [.arr [] .str]
noncomputable def L76_1 : Oq R :=
 Q6 Q1fg Q1fn (fun v => f76_1 k (fun p2 => N (sh Qm [.val [(0, 0)] zP3 v.1.1, .rw 1, zi v.1.2.2.1] [⟨0, .arr [] .str p2⟩])) v.1.1 v.1.2.2.1 v.2.1) (I76_1 k K ws rs N X) ws rs
noncomputable abbrev I76_0 : Oq R := inner T an76 (Q0 F) 0 k 61 (S76 k) (E76 K) Q19t (sh Qmq ws rs) N X
abbrev Q187 : List Sh := [.val [(0, 0)] zP3, .rw 1, zv]
abbrev Q18x : List RSh := [.arr [] .str]
noncomputable def L76_0 : Oq R :=
 Q6 Q187 Q18x (fun v => f76_0 k (fun p0 => N (sh Qz [.rw 1] [⟨0, .arr [] .str p0⟩])) v.1.1 k v.1.2.2.1 v.2.1) (I76_0 k K ws rs N X) ws rs
noncomputable def L76 : Oq R := bif id == 2 then L76_2 k K ws rs N X else bif id == 1 then L76_1 k K ws rs N X else bif id == 0 then L76_0 k K ws rs N X else none
theorem i76_2 (c0 : zL1) (c1 : Int) (c2 : BA) (c4 : List BA) (m : Nat) : ∀ (c3 : Int),
  iter (atHead an76 0 Qqc) m (fun st N' => exec T an76 (Q0 F) 0 k 61 (S76 k) (E76 K) Qqc st N' (outX an76 0 2 N X)) (sh Q8o [.val [(0, 0)] zP3 c0, .rw 1, zi c1, .val [] .str c2, zi c3] [⟨0, .arr [] .str c4⟩]) = Q5h k (fun p3 => N (sh Q8o [.val [(0, 0)] zP3 c0, .rw 1, zi c1, .val [] .str c2, zi p3] [⟨0, .arr [] .str c4⟩])) c0 c1 c2 c4 m c3 := by
 induction m with
 | zero => intros; rfl
 | succ m ih =>
   intro c3
   simp only [iter]
   rw [← Q7 T an76 (Q0 F) 0 k 61 (S76 k) (L76 k K) Qqc (Qb _ _ _ _ _ _ _ _ Qqc (l := []) (by kernel_rfl) trivial)]
   have h := fx1 ih
   simp only [Q5h]
   rw [← h]
   show _ = _
   kernel_rfl
theorem l76_2 : L76 k K 2 ws rs N X = I76_2 k K ws rs N X := by
 show L76_2 k K ws rs N X = _
 unfold L76_2
 rw [Qc5]
 exact Q4 (a := Q188) (b := Q18y) (G := fun ws rs => I76_2 k K ws rs N X) (fun x y => Eq.trans (by kernel_rfl) (Eq.trans (i76_2 k K N X x.1 x.2.2.1 x.2.2.2.1 y.1 k x.2.2.2.2.1).symm (by kernel_rfl))) ws rs
theorem l76_1 : L76 k K 1 ws rs N X = I76_1 k K ws rs N X := by
 show L76_1 k K ws rs N X = _
 unfold L76_1
 rw [Qc4]
 exact lC (L76 k K) [(2, Q8o, Q19v)] (by kernel_rfl) ⟨l76_2 k K, trivial⟩ fun x y => by kernel_rfl
theorem i76_0 (c0 : zL1) (m : Nat) : ∀ (c1 : Int) (c2 : List BA),
  iter (atHead an76 0 Qqb) m (fun st N' => exec T an76 (Q0 F) 0 k 61 (S76 k) (E76 K) Qqb st N' (outX an76 0 0 N X)) (sh Qmq [.val [(0, 0)] zP3 c0, .rw 1, zi c1] [⟨0, .arr [] .str c2⟩]) = Qaj k (fun p0 => N (sh Qz [.rw 1] [⟨0, .arr [] .str p0⟩])) c0 m c1 c2 := by
 induction m with
 | zero => intros; rfl
 | succ m ih =>
   intro c1 c2
   simp only [iter]
   rw [← Q7 T an76 (Q0 F) 0 k 61 (S76 k) (L76 k K) Qqb (Qb _ _ _ _ _ _ _ _ Qqb (l := [(1, Qm, Q19u)]) (by kernel_rfl) ⟨l76_1 k K, trivial⟩)]
   have h := fx2 ih
   simp only [Qaj]
   rw [← h]
   show _ = _
   kernel_rfl
theorem l76_0 : L76 k K 0 ws rs N X = I76_0 k K ws rs N X := by
 show L76_0 k K ws rs N X = _
 unfold L76_0
 rw [Ql9]
 exact Q4 (a := Q187) (b := Q18x) (G := fun ws rs => I76_0 k K ws rs N X) (fun x y => Eq.trans (by kernel_rfl) (Eq.trans (i76_0 k K N X x.1 k x.2.2.1 y.1).symm (by kernel_rfl))) ws rs
theorem tu76 : tOk (R := R) 76 aa76 ab76 g76 := by
 intro k x y K
 unfold g76
 rw [Q12s]
 cases k with
 | zero => rfl
 | succ k => exact eS Tryz.f76 an76 0 61 (L76 k K) [(0, Qmq, Q19t)] (by kernel_rfl) (Q1f0 k) (by kernel_rfl) ⟨l76_0 k K, trivial⟩ (by kernel_rfl)
noncomputable def s76 := onS (R := R) aa76 ab76 g76 (fun k => callC T F k 76)
theorem Q1ja : sOk (R := R) s76 76 := Qc (fun _ _ _ _ => rfl) tu76
end Go.Proofs.YtecnlienmpdlaaaGreat.PM
