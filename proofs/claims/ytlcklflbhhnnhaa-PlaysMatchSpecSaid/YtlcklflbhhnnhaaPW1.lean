/- The small machine's run is the typed form (printed by a program of this work). -/
import Derived.Test.YtlcklflbhhnnhaaPW0
set_option linter.unusedVariables false
set_option linter.unusedSimpArgs false
set_option maxRecDepth 100000
namespace Go.Proofs.Ytlcklflbhhnnhaa.PM
open Go
variable {R : Type} (k : Nat) (K : KT R) (id : Nat) (ws : List PV) (rs : List RowS) (N : St → Option R) (X : Nat → St → Option R)
noncomputable abbrev kt117 : zK5 R := (fun z0 z1 z2 z3 z4 z5 z6 z7 z8 => K [.agg [zi z0, zi z1, .val [] .str z2, .val [(0, 0)] zT2 z3, zi z4, .val [(0, 0)] zT1 z5, zi z6, zi z7], zi z8] [])
abbrev aa117 : List Sh := [.agg [zv, zv, .val [] .str, .val [(0, 0)] zT2, zv, .val [(0, 0)] zT1, zv, zv], .val [(0, 0)] zT1]
abbrev ab117 : List RSh := []
noncomputable def g117 (k : Nat) (v : Sh.D.DL aa117 × RSh.DL ab117) (K : KT R) : Option R := f117 k v.1.1.1 v.1.1.2.1 v.1.1.2.2.1 v.1.1.2.2.2.1 v.1.1.2.2.2.2.1 v.1.1.2.2.2.2.2.1 v.1.1.2.2.2.2.2.2.1 v.1.1.2.2.2.2.2.2.2.1 v.1.2.1 (kt117 K)
noncomputable abbrev E117 := ending T Try.f117 an117 0 K
noncomputable def S117 := pickS (R := R) [(71, s71), (86, s86), (131, s131)]
theorem Q1ac : ∀ k, S117 (R := R) k = callC T F k := Q3 ⟨Q1i8, Q19t, Q133, trivial⟩
noncomputable abbrev Qof : Option R := inner T an117 (Q0 F) 0 k 67 (S117 k) (E117 K) Qij (sh Qc6 ws rs) N X
abbrev Qvm : List Sh := [.ptr 1 0, .ptr 2 0, .val [] .bool, .val [(0, 0)] zT1, .val [] .bool, .rw 3, .ptr 4 0, .val [(0, 0)] zT1, zv, zv, .val [] .bool]
abbrev Qwh : List RSh := [zs7, zs8, .arr [] zP1, zs2]
noncomputable def Qe3 : Option R :=
 Q4 Qvm Qwh (fun v => let u0 := v.1.2.2.2.2.2.2.2; Qf9 k (fun p20 => N (sh Q10p [.ptr 1 0, .ptr 2 0, .val [] .bool v.1.2.2.1, .val [(0, 0)] zT1 v.1.2.2.2.1, .val [] .bool v.1.2.2.2.2.1, .rw 3, .val [(0, 0)] zT1 v.1.2.2.2.2.2.2.2.1, zi u0.2.1, zi u0.2.2.1] [zr9 v.2.1.1 v.2.1.2.1 v.2.1.2.2.1 v.2.1.2.2.2.1 v.2.1.2.2.2.2.1 v.2.1.2.2.2.2.2.1 v.2.1.2.2.2.2.2.2.1 v.2.1.2.2.2.2.2.2.2.1, zr10 v.2.2.1.1 v.2.2.1.2.1 v.2.2.1.2.2.1 v.2.2.1.2.2.2.2.1 v.2.2.1.2.2.2.2.2.2.1 v.2.2.1.2.2.2.2.2.2.2.1, zr4 p20])) u0.2.2.2.1 v.2.2.2.1 v.2.2.2.2.1.1 v.2.2.2.2.1.2.1) (Qof k K ws rs N X) ws rs
noncomputable abbrev Qts : Option R := inner T an117 (Q0 F) 0 k 67 (S117 k) (E117 K) Qxh (sh Qc5 ws rs) N X
abbrev Qvl : List Sh := [.ptr 1 0, .ptr 2 0, .val [] .bool, .val [(0, 0)] zT1, .val [] .bool, .rw 3, .val [(0, 0)] zT1, zv, zv]
abbrev Qwg : List RSh := [zs7, zs8, .arr [] zP1]
noncomputable def Quz : Option R :=
 Q4 Qvl Qwg (fun v => let u0 := v.1.2.2.2.2.2.2.2; Qyc k (fun p17 => N (sh Qnk [.ptr 1 0, .ptr 2 0, .val [] .bool v.1.2.2.1, .val [(0, 0)] zT1 v.1.2.2.2.1, .val [] .bool v.1.2.2.2.2.1, .rw 3] [zr9 v.2.1.1 v.2.1.2.1 v.2.1.2.2.1 v.2.1.2.2.2.1 v.2.1.2.2.2.2.1 v.2.1.2.2.2.2.2.1 v.2.1.2.2.2.2.2.2.1 v.2.1.2.2.2.2.2.2.2.1, zr10 v.2.2.1.1 v.2.2.1.2.1 v.2.2.1.2.2.1 v.2.2.1.2.2.2.2.1 v.2.2.1.2.2.2.2.2.2.1 v.2.2.1.2.2.2.2.2.2.2.1, zr4 p17])) v.1.2.2.1 v.1.2.2.2.1 v.1.2.2.2.2.1 v.1.2.2.2.2.2.2.1 v.1.2.2.2.2.2.2.2.1 v.2.1.1 v.2.1.2.1 v.2.1.2.2.1 v.2.1.2.2.2.1 v.2.1.2.2.2.2.1 v.2.1.2.2.2.2.2.1 v.2.1.2.2.2.2.2.2.1 v.2.1.2.2.2.2.2.2.2.1 v.2.2.1.1 v.2.2.1.2.1 v.2.2.1.2.2.1 v.2.2.1.2.2.2.2.1 v.2.2.1.2.2.2.2.2.2.1 v.2.2.1.2.2.2.2.2.2.2.1 k u0.2.1 v.2.2.2.1) (Qts k K ws rs N X) ws rs
noncomputable abbrev Qog : Option R := inner T an117 (Q0 F) 0 k 67 (S117 k) (E117 K) Qik (sh Qc7 ws rs) N X
abbrev Qvn : List Sh := [.ptr 1 0, .ptr 2 0, .val [] .bool]
abbrev Qwi : List RSh := [zs7, zs8]
noncomputable def Qe4 : Option R :=
 Q4 Qvn Qwi (fun v => Q6c k (fun p0 p6 => N (sh Qrt [.ptr 1 0, .ptr 2 0] [zr9 p0 v.2.1.2.1 v.2.1.2.2.1 v.2.1.2.2.2.1 v.2.1.2.2.2.2.1 v.2.1.2.2.2.2.2.1 p6 v.2.1.2.2.2.2.2.2.2.1, zr10 v.2.2.1.1 v.2.2.1.2.1 v.2.2.1.2.2.1 v.2.2.1.2.2.2.2.1 v.2.2.1.2.2.2.2.2.2.1 v.2.2.1.2.2.2.2.2.2.2.1])) v.1.2.2.1 v.2.1.1 v.2.1.2.2.2.2.2.2.1) (Qog k K ws rs N X) ws rs
noncomputable def L117 : Option R := bif id == 1000008 then Qe3 k K ws rs N X else bif id == 0 then Quz k K ws rs N X else bif id == 1000016 then Qe4 k K ws rs N X else none
theorem Q169 : L117 k K 1000008 ws rs N X = Qof k K ws rs N X := by
 show Qe3 k K ws rs N X = _
 unfold Qe3
 rw [Q7t]
 exact lC (L117 k K) [] (by kernel_rfl) trivial fun x y => by kernel_rfl
theorem Q1gd (c0 : Bool) (c1 : zL5) (c2 : Bool) (c3 : zL5) (c4 c6 c7 : Int) (c8 : ByteArray) (c9 : List Int) (c10 : Int) (c11 : zL5) (c12 c13 c14 c15 : Int) (c16 : ByteArray) (c17 c18 c19 : Int) (m : Nat) : ∀ (c5 : Int) (c20 : zL6),
  iter (atHead an117 0 Qeu) m (fun st N' => exec T an117 (Q0 F) 0 k 67 (S117 k) (E117 K) Qeu st N' (outX an117 0 0 N X)) (sh Qc5 [.ptr 1 0, .ptr 2 0, .val [] .bool c0, .val [(0, 0)] zT1 c1, .val [] .bool c2, .rw 3, .val [(0, 0)] zT1 c3, zi c4, zi c5] [zr9 c6 c7 c8 c9 c10 c11 c12 c13, zr10 c14 c15 c16 c17 c18 c19, zr4 c20]) = Q48 k (fun p17 => N (sh Qnk [.ptr 1 0, .ptr 2 0, .val [] .bool c0, .val [(0, 0)] zT1 c1, .val [] .bool c2, .rw 3] [zr9 c6 c7 c8 c9 c10 c11 c12 c13, zr10 c14 c15 c16 c17 c18 c19, zr4 p17])) c0 c1 c2 c3 c4 c6 c7 c8 c9 c10 c11 c12 c13 c14 c15 c16 c17 c18 c19 m c5 c20 := by
 induction m with
 | zero => intros; rfl
 | succ m ih =>
   intro c5 c20
   simp only [iter]
   rw [← Q9 T an117 (Q0 F) 0 k 67 (S117 k) (L117 k K) Qeu (Qc _ _ _ _ _ _ _ _ Qeu (l := [(1000008, Qc6, Qij)]) (by kernel_rfl) ⟨Q169 k K, trivial⟩)]
   have h := fx2 ih
   simp only [Q48]
   rw [← h]
   show _ = _
   kernel_rfl
theorem Q1hc : L117 k K 0 ws rs N X = Qts k K ws rs N X := by
 show Quz k K ws rs N X = _
 unfold Quz
 rw [Qd7]
 exact Q5 (a := Qvl) (b := Qwg) (G := fun ws rs => Qts k K ws rs N X) (fun x y => Eq.trans (by kernel_rfl) (Eq.trans (Q1gd k K N X x.2.2.1 x.2.2.2.1 x.2.2.2.2.1 x.2.2.2.2.2.2.1 x.2.2.2.2.2.2.2.1 y.1.1 y.1.2.1 y.1.2.2.1 y.1.2.2.2.1 y.1.2.2.2.2.1 y.1.2.2.2.2.2.1 y.1.2.2.2.2.2.2.1 y.1.2.2.2.2.2.2.2.1 y.2.1.1 y.2.1.2.1 y.2.1.2.2.1 y.2.1.2.2.2.2.1 y.2.1.2.2.2.2.2.2.1 y.2.1.2.2.2.2.2.2.2.1 k x.2.2.2.2.2.2.2.2.1 y.2.2.1).symm (by kernel_rfl))) ws rs
theorem Q16a : L117 k K 1000016 ws rs N X = Qog k K ws rs N X := by
 show Qe4 k K ws rs N X = _
 unfold Qe4
 rw [Q7u]
 exact lC (L117 k K) [] (by kernel_rfl) trivial fun x y => by kernel_rfl
theorem tu117 : tOk (R := R) 117 aa117 ab117 g117 := by
 intro k x y K
 unfold g117
 rw [Qqv]
 cases k with
 | zero => rfl
 | succ k => exact eS Try.f117 an117 0 67 (L117 k K) [(0, Qc5, Qxh), (1000016, Qc7, Qik)] (by kernel_rfl) (Q1ac k) (by kernel_rfl) ⟨Q1hc k K, Q16a k K, trivial⟩ (by kernel_rfl)
noncomputable def s117 := onS (R := R) aa117 ab117 g117 (fun k => callC T F k 117)
theorem Q1dj : sOk (R := R) s117 117 := Q6 (fun _ _ _ _ => rfl) tu117
noncomputable abbrev kt90 : zK5 R := (fun z0 z1 z2 z3 z4 z5 z6 z7 z8 => K [.agg [zi z0, zi z1, .val [] .str z2, .val [(0, 0)] zT2 z3, zi z4, .val [(0, 0)] zT1 z5, zi z6, zi z7], zi z8] [])
abbrev aa90 : List Sh := [.agg [zv, zv, .val [] .str, .val [(0, 0)] zT2, zv, .val [(0, 0)] zT1, zv, zv], .agg [zv, zv, .val [] .str, zv, zv, zv, .val [(0, 0)] zT2, .val [(0, 0)] zT1, .val [] .bool]]
abbrev ab90 : List RSh := []
noncomputable def g90 (k : Nat) (v : Sh.D.DL aa90 × RSh.DL ab90) (K : KT R) : Option R := let u0 := v.1.2.1.2.2.2.2.2.2.2; f90 k v.1.1.1 v.1.1.2.1 v.1.1.2.2.1 v.1.1.2.2.2.1 v.1.1.2.2.2.2.1 v.1.1.2.2.2.2.2.1 v.1.1.2.2.2.2.2.2.1 v.1.1.2.2.2.2.2.2.2.1 v.1.2.1.1 v.1.2.1.2.1 v.1.2.1.2.2.1 v.1.2.1.2.2.2.1 v.1.2.1.2.2.2.2.1 v.1.2.1.2.2.2.2.2.1 v.1.2.1.2.2.2.2.2.2.1 v.1.2.1.2.2.2.2.2.2.2.1 u0.2.1 (kt90 K)
noncomputable abbrev E90 := ending T Try.f90 an90 0 K
noncomputable def S90 := pickS (R := R) [(117, s117)]
theorem Q1f7 : ∀ k, S90 (R := R) k = callC T F k := Q3 ⟨Q1dj, trivial⟩
noncomputable abbrev Qua : Option R := inner T an90 (Q0 F) 0 k 56 (S90 k) (E90 K) Qpp (sh Qhb ws rs) N X
abbrev Q141 : List Sh := [.ptr 1 0, .ptr 2 0, .val [] .bool]
abbrev Q14u : List RSh := [zs7, zs8]
noncomputable def Ql3 : Option R :=
 Q4 Q141 Q14u (fun v => Qfz k (fun p0 p5 p6 => N (sh Q19h [.ptr 1 0, .ptr 2 0] [zr9 p0 v.2.1.2.1 v.2.1.2.2.1 v.2.1.2.2.2.1 v.2.1.2.2.2.2.1 p5 p6 v.2.1.2.2.2.2.2.2.2.1, zr10 v.2.2.1.1 v.2.2.1.2.1 v.2.2.1.2.2.1 v.2.2.1.2.2.2.2.1 v.2.2.1.2.2.2.2.2.2.1 v.2.2.1.2.2.2.2.2.2.2.1])) v.1.2.2.1 v.2.1.1 v.2.1.2.2.2.2.2.1 v.2.1.2.2.2.2.2.2.1) (Qua k K ws rs N X) ws rs
noncomputable abbrev Qu9 : Option R := inner T an90 (Q0 F) 0 k 56 (S90 k) (E90 K) Qpo (sh Qha ws rs) N X
abbrev Q140 : List Sh := [.ptr 1 0, .ptr 2 0, .ptr 3 0, .val [] .bool]
abbrev Q14t : List RSh := [zs7, zs4, zs8]
noncomputable def Ql2 : Option R :=
 Q4 Q140 Q14t (fun v => let u0 := v.2.2.1.2.2.2.2.2.2.2; Qfx k (fun p0 p5 p6 => N (sh Q19g [.ptr 1 0, .ptr 2 0] [zr9 p0 v.2.1.2.1 v.2.1.2.2.1 v.2.1.2.2.2.1 v.2.1.2.2.2.2.1 p5 p6 v.2.1.2.2.2.2.2.2.2.1, zr10 v.2.2.2.1.1 v.2.2.2.1.2.1 v.2.2.2.1.2.2.1 v.2.2.2.1.2.2.2.2.1 v.2.2.2.1.2.2.2.2.2.2.1 v.2.2.2.1.2.2.2.2.2.2.2.1])) v.1.2.2.2.1 v.2.1.1 v.2.1.2.2.2.2.2.1 v.2.1.2.2.2.2.2.2.1 v.2.2.1.1) (Qu9 k K ws rs N X) ws rs
noncomputable def L90 : Option R := bif id == 1000008 then Ql3 k K ws rs N X else bif id == 1000006 then Ql2 k K ws rs N X else none
theorem Q1cf : L90 k K 1000008 ws rs N X = Qua k K ws rs N X := by
 show Ql3 k K ws rs N X = _
 unfold Ql3
 rw [Qae]
 exact lC (L90 k K) [] (by kernel_rfl) trivial fun x y => by kernel_rfl
theorem Q1ce : L90 k K 1000006 ws rs N X = Qu9 k K ws rs N X := by
 show Ql2 k K ws rs N X = _
 unfold Ql2
 rw [Qad]
 exact lC (L90 k K) [(1000008, Qhb, Qpp)] (by kernel_rfl) ⟨Q1cf k K, trivial⟩ fun x y => by kernel_rfl
theorem tu90 : tOk (R := R) 90 aa90 ab90 g90 := by
 intro k x y K
 unfold g90
 rw [Q10f]
 cases k with
 | zero => rfl
 | succ k => exact eS Try.f90 an90 0 56 (L90 k K) [(1000006, Qha, Qpo)] (by kernel_rfl) (Q1f7 k) (by kernel_rfl) ⟨Q1ce k K, trivial⟩ (by kernel_rfl)
noncomputable def s90 := onS (R := R) aa90 ab90 g90 (fun k => callC T F k 90)
theorem Q1ih : sOk (R := R) s90 90 := Q6 (fun _ _ _ _ => rfl) tu90
noncomputable abbrev kt107 : zK7 R := (fun z0 z1 z2 z3 z4 z5 z6 => K [.agg [zi z0, zi z1, .val [] .str z2, zi z3, zi z4, zi z5, .nils, .nils, .val [] .bool z6]] [])
abbrev aa107 : List Sh := [.agg [zv, zv, .val [] .str, .val [(0, 0)] zT2, zv, .val [(0, 0)] zT1, zv, zv]]
abbrev ab107 : List RSh := []
noncomputable def g107 (k : Nat) (v : Sh.D.DL aa107 × RSh.DL ab107) (K : KT R) : Option R := f107 k v.1.1.1 v.1.1.2.1 v.1.1.2.2.1 v.1.1.2.2.2.1 v.1.1.2.2.2.2.1 v.1.1.2.2.2.2.2.1 v.1.1.2.2.2.2.2.2.1 v.1.1.2.2.2.2.2.2.2.1 (kt107 K)
noncomputable abbrev E107 := ending T Try.f107 an107 0 K
noncomputable def S107 := pickS (R := R) [(64, s64)]
theorem Q1a5 : ∀ k, S107 (R := R) k = callC T F k := Q3 ⟨Qsm, trivial⟩
theorem tu107 : tOk (R := R) 107 aa107 ab107 g107 := by
 intro k x y K
 unfold g107
 rw [Qqm]
 cases k with
 | zero => rfl
 | succ k => exact eS Try.f107 an107 0 12 L0 [] (by kernel_rfl) (Q1a5 k) (by kernel_rfl) trivial (by kernel_rfl)
noncomputable def s107 := onS (R := R) aa107 ab107 g107 (fun k => callC T F k 107)
theorem Q12v : sOk (R := R) s107 107 := Q6 (fun _ _ _ _ => rfl) tu107
noncomputable abbrev kt109 : zL6 → Option R := (fun z0 => K [.rw 1] [zr4 z0])
abbrev aa109 : List Sh := [.val [(0, 0)] zT1]
abbrev ab109 : List RSh := []
noncomputable def g109 (k : Nat) (v : Sh.D.DL aa109 × RSh.DL ab109) (K : KT R) : Option R := f109 k v.1.1 (kt109 K)
theorem e109 (k : Nat) (a0 : zL5) (K : KT R) : callC T F k 109 [.val [(0, 0)] zT1 a0] [] K = f109 k a0 (kt109 K) := by
 rw [Qqo]
 cases k with
 | zero => rfl
 | succ k => exact Qcw (m := [.lend zP1]) (ty := zP1) (bytes := 16) (by kernel_rfl) a0 K
theorem tu109 : tOk (R := R) 109 aa109 ab109 g109 := fun k x y K => e109 k x.1 K
noncomputable def s109 := onS (R := R) aa109 ab109 g109 (fun k => callC T F k 109)
theorem Q1dg : sOk (R := R) s109 109 := Q6 (fun _ _ _ _ => rfl) tu109
noncomputable abbrev kt128 : zK8 R := (fun z0 z1 z2 z3 z4 z5 z6 z7 => K [.agg [zi z0, zi z1, .val [] .str z2, zi z3, zi z4, zi z5, .rw 1, .nils, .val [] .bool z6]] [zr0 z7])
abbrev aa128 : List Sh := [.agg [zv, zv, .val [] .str, .val [(0, 0)] zT2, zv, .val [(0, 0)] zT1, zv, zv], zv, zv]
abbrev ab128 : List RSh := []
noncomputable def g128 (k : Nat) (v : Sh.D.DL aa128 × RSh.DL ab128) (K : KT R) : Option R := f128 k v.1.1.1 v.1.1.2.1 v.1.1.2.2.1 v.1.1.2.2.2.1 v.1.1.2.2.2.2.1 v.1.1.2.2.2.2.2.1 v.1.1.2.2.2.2.2.2.1 v.1.1.2.2.2.2.2.2.2.1 v.1.2.1 v.1.2.2.1 (kt128 K)
noncomputable abbrev E128 := ending T Try.f128 an128 0 K
noncomputable def S128 := pickS (R := R) [(77, s77)]
theorem Q1an : ∀ k, S128 (R := R) k = callC T F k := Q3 ⟨Q135, trivial⟩
theorem tu128 : tOk (R := R) 128 aa128 ab128 g128 := by
 intro k x y K
 unfold g128
 rw [Qr5]
 cases k with
 | zero => rfl
 | succ k => exact eS Try.f128 an128 0 19 L0 [] (by kernel_rfl) (Q1an k) (by kernel_rfl) trivial (by kernel_rfl)
noncomputable def s128 := onS (R := R) aa128 ab128 g128 (fun k => callC T F k 128)
theorem Q1dt : sOk (R := R) s128 128 := Q6 (fun _ _ _ _ => rfl) tu128
noncomputable abbrev kt108 : zK9 R := (fun z0 z1 z2 z3 z4 z5 z6 z7 z8 z9 z10 z11 z12 z13 z14 z15 => K [.agg [zi z0, zi z1, .val [] .str z2, .val [(0, 0)] zT2 z3, zi z4, .val [(0, 0)] zT1 z5, zi z6, zi z7], .agg [zi z8, zi z9, .val [] .str z10, zi z11, zi z12, zi z13, .rw 1, .nils, .val [] .bool z14]] [zr0 z15])
abbrev aa108 : List Sh := [.agg [zv, zv, zv, zv, zv], .agg [zv, zv, .val [] .str, .val [(0, 0)] zT2, zv, .val [(0, 0)] zT1, zv, zv]]
abbrev ab108 : List RSh := []
noncomputable def g108 (k : Nat) (v : Sh.D.DL aa108 × RSh.DL ab108) (K : KT R) : Option R := f108 k v.1.1.1 v.1.1.2.1 v.1.1.2.2.1 v.1.1.2.2.2.1 v.1.1.2.2.2.2.1 v.1.2.1.1 v.1.2.1.2.1 v.1.2.1.2.2.1 v.1.2.1.2.2.2.1 v.1.2.1.2.2.2.2.1 v.1.2.1.2.2.2.2.2.1 v.1.2.1.2.2.2.2.2.2.1 v.1.2.1.2.2.2.2.2.2.2.1 (kt108 K)
noncomputable abbrev E108 := ending T Try.f108 an108 0 K
noncomputable def S108 := pickS (R := R) [(64, s64), (104, s104), (107, s107), (109, s109), (128, s128)]
theorem Q1a6 : ∀ k, S108 (R := R) k = callC T F k := Q3 ⟨Qsm, Qnz, Q12v, Q1dg, Q1dt, trivial⟩
noncomputable abbrev Qoc : Option R := inner T an108 (Q0 F) 0 k 138 (S108 k) (E108 K) Qig (sh Qc0 ws rs) N X
abbrev Qvg : List Sh := [.ptr 1 0, .ptr 3 0, .ptr 4 0, .ptr 5 0, .val [] .bool]
abbrev Qwb : List RSh := [zs9, .arr [] zP1, zs8, zs10, .vars [zv, zv, .val [] .str, zv, zv, zv, .rw 6, .nils, .val [] .bool], .arr [] (.int .u8)]
noncomputable def Qe0 : Option R :=
 Q4 Qvg Qwb (fun v => let u0 := v.2.2.2.2.1.2.2.2.2.2.2.2; let u1 := v.2.2.2.2.2.1.2.2.2.2.2.2.2; Q91 k (fun p7 => N (sh Qrr [.ptr 1 0, .ptr 3 0, .ptr 4 0, .ptr 5 0] [⟨0, .vars [zi v.2.1.1, zi v.2.1.2.1, .val [] .str v.2.1.2.2.1, .val [(0, 0)] zT2 v.2.1.2.2.2.1, zi v.2.1.2.2.2.2.1, .rw 2, zi v.2.1.2.2.2.2.2.2.1, zi v.2.1.2.2.2.2.2.2.2.1]⟩, zr4 p7, zr10 v.2.2.2.1.1 v.2.2.2.1.2.1 v.2.2.2.1.2.2.1 v.2.2.2.1.2.2.2.2.1 v.2.2.2.1.2.2.2.2.2.2.1 v.2.2.2.1.2.2.2.2.2.2.2.1, ⟨0, .vars [zi v.2.2.2.2.1.1, zi v.2.2.2.2.1.2.1, .val [] .str v.2.2.2.2.1.2.2.1, zi v.2.2.2.2.1.2.2.2.1, zi v.2.2.2.2.1.2.2.2.2.1, zi v.2.2.2.2.1.2.2.2.2.2.1, .nils, .nils, .val [] .bool u0.2.1]⟩, ⟨0, .vars [zi v.2.2.2.2.2.1.1, zi v.2.2.2.2.2.1.2.1, .val [] .str v.2.2.2.2.2.1.2.2.1, zi v.2.2.2.2.2.1.2.2.2.1, zi v.2.2.2.2.2.1.2.2.2.2.1, zi v.2.2.2.2.2.1.2.2.2.2.2.1, .rw 6, .nils, .val [] .bool u1.2.1]⟩, zr0 v.2.2.2.2.2.2.1])) v.1.2.2.2.2.1 v.2.2.1) (Qoc k K ws rs N X) ws rs
noncomputable def L108 : Option R := bif id == 1000018 then Qe0 k K ws rs N X else none
theorem Q166 : L108 k K 1000018 ws rs N X = Qoc k K ws rs N X := by
 show Qe0 k K ws rs N X = _
 unfold Qe0
 rw [Q7q]
 exact lC (L108 k K) [] (by kernel_rfl) trivial fun x y => by kernel_rfl
theorem tu108 : tOk (R := R) 108 aa108 ab108 g108 := by
 intro k x y K
 unfold g108
 rw [Qqn]
 cases k with
 | zero => rfl
 | succ k => exact eS Try.f108 an108 0 138 (L108 k K) [(1000018, Qc0, Qig)] (by kernel_rfl) (Q1a6 k) (by kernel_rfl) ⟨Q166 k K, trivial⟩ (by kernel_rfl)
noncomputable def s108 := onS (R := R) aa108 ab108 g108 (fun k => callC T F k 108)
theorem Q1df : sOk (R := R) s108 108 := Q6 (fun _ _ _ _ => rfl) tu108
noncomputable abbrev kt79 : zK10 R := (fun z0 z1 z2 z3 z4 z5 z6 z7 z8 => K [.agg [zi z0, zi z1, .val [] .str z2, .val [(0, 0)] zT2 z3, zi z4, .val [(0, 0)] zT1 z5, zi z6, zi z7], .rw 1] [zr11 z8])
abbrev aa79 : List Sh := [.agg [zv, zv, zv, zv, zv], .agg [zv, zv, .val [] .str, .val [(0, 0)] zT2, zv, .val [(0, 0)] zT1, zv, zv]]
abbrev ab79 : List RSh := []
noncomputable def g79 (k : Nat) (v : Sh.D.DL aa79 × RSh.DL ab79) (K : KT R) : Option R := f79 k v.1.1.1 v.1.1.2.1 v.1.1.2.2.1 v.1.1.2.2.2.1 v.1.1.2.2.2.2.1 v.1.2.1.1 v.1.2.1.2.1 v.1.2.1.2.2.1 v.1.2.1.2.2.2.1 v.1.2.1.2.2.2.2.1 v.1.2.1.2.2.2.2.2.1 v.1.2.1.2.2.2.2.2.2.1 v.1.2.1.2.2.2.2.2.2.2.1 (kt79 K)
noncomputable abbrev E79 := ending T Try.f79 an79 0 K
noncomputable def S79 := pickS (R := R) [(107, s107), (108, s108)]
theorem Q1ez : ∀ k, S79 (R := R) k = callC T F k := Q3 ⟨Q12v, Q1df, trivial⟩
noncomputable abbrev I79_0 : Option R := inner T an79 (Q0 F) 0 k 63 (S79 k) (E79 K) Q18x (sh Qke ws rs) N X
abbrev Q17x : List Sh := [.ptr 1 0, .ptr 2 0, .ptr 3 0, .rw 4]
abbrev Q18e : List RSh := [zs3, zs7, zs8, .arr [] zP0]
noncomputable def L79_0 : Option R :=
 Q4 Q17x Q18e (fun v => f79_0 k (fun p0 p1 p2 p3 p4 p5 p6 p7 p14 => N (sh Q124 [.ptr 1 0, .ptr 2 0, .rw 3] [zr9 p0 p1 p2 p3 p4 p5 p6 p7, zr10 v.2.2.2.1.1 v.2.2.2.1.2.1 v.2.2.2.1.2.2.1 v.2.2.2.1.2.2.2.2.1 v.2.2.2.1.2.2.2.2.2.2.1 v.2.2.2.1.2.2.2.2.2.2.2.1, zr11 p14])) v.2.1.1 v.2.1.2.1 v.2.1.2.2.1 v.2.1.2.2.2.1 v.2.1.2.2.2.2.1 v.2.2.2.1.1 v.2.2.2.1.2.1 v.2.2.2.1.2.2.1 v.2.2.2.1.2.2.2.2.1 v.2.2.2.1.2.2.2.2.2.2.1 v.2.2.2.1.2.2.2.2.2.2.2.1 k v.2.2.1.1 v.2.2.1.2.1 v.2.2.1.2.2.1 v.2.2.1.2.2.2.1 v.2.2.1.2.2.2.2.1 v.2.2.1.2.2.2.2.2.1 v.2.2.1.2.2.2.2.2.2.1 v.2.2.1.2.2.2.2.2.2.2.1 v.2.2.2.2.1) (I79_0 k K ws rs N X) ws rs
noncomputable def L79 : Option R := bif id == 0 then L79_0 k K ws rs N X else none
theorem i79_0 (c0 c1 c2 c3 c4 c13 c14 : Int) (c15 : ByteArray) (c16 c17 c18 : Int) (m : Nat) : ∀ (c5 c6 : Int) (c7 : ByteArray) (c8 : List Int) (c9 : Int) (c10 : zL5) (c11 c12 : Int) (c19 : zL3),
  iter (atHead an79 0 Qp5) m (fun st N' => exec T an79 (Q0 F) 0 k 63 (S79 k) (E79 K) Qp5 st N' (outX an79 0 0 N X)) (sh Qke [.ptr 1 0, .ptr 2 0, .ptr 3 0, .rw 4] [zr5 c0 c1 c2 c3 c4, zr9 c5 c6 c7 c8 c9 c10 c11 c12, zr10 c13 c14 c15 c16 c17 c18, zr11 c19]) = Q8g k (fun p0 p1 p2 p3 p4 p5 p6 p7 p14 => N (sh Q124 [.ptr 1 0, .ptr 2 0, .rw 3] [zr9 p0 p1 p2 p3 p4 p5 p6 p7, zr10 c13 c14 c15 c16 c17 c18, zr11 p14])) c0 c1 c2 c3 c4 c13 c14 c15 c16 c17 c18 m c5 c6 c7 c8 c9 c10 c11 c12 c19 := by
 induction m with
 | zero => intros; rfl
 | succ m ih =>
   intro c5 c6 c7 c8 c9 c10 c11 c12 c19
   simp only [iter]
   rw [← Q9 T an79 (Q0 F) 0 k 63 (S79 k) (L79 k K) Qp5 (Qc _ _ _ _ _ _ _ _ Qp5 (l := []) (by kernel_rfl) trivial)]
   have h := fx9 ih
   simp only [Q8g]
   rw [← h]
   show _ = _
   kernel_rfl
theorem l79_0 : L79 k K 0 ws rs N X = I79_0 k K ws rs N X := by
 show L79_0 k K ws rs N X = _
 unfold L79_0
 rw [Qj9]
 exact Q5 (a := Q17x) (b := Q18e) (G := fun ws rs => I79_0 k K ws rs N X) (fun x y => Eq.trans (by kernel_rfl) (Eq.trans (i79_0 k K N X y.1.1 y.1.2.1 y.1.2.2.1 y.1.2.2.2.1 y.1.2.2.2.2.1 y.2.2.1.1 y.2.2.1.2.1 y.2.2.1.2.2.1 y.2.2.1.2.2.2.2.1 y.2.2.1.2.2.2.2.2.2.1 y.2.2.1.2.2.2.2.2.2.2.1 k y.2.1.1 y.2.1.2.1 y.2.1.2.2.1 y.2.1.2.2.2.1 y.2.1.2.2.2.2.1 y.2.1.2.2.2.2.2.1 y.2.1.2.2.2.2.2.2.1 y.2.1.2.2.2.2.2.2.2.1 y.2.2.2.1).symm (by kernel_rfl))) ws rs
theorem tu79 : tOk (R := R) 79 aa79 ab79 g79 := by
 intro k x y K
 unfold g79
 rw [Q103]
 cases k with
 | zero => rfl
 | succ k => exact eS Try.f79 an79 0 63 (L79 k K) [(0, Qke, Q18x)] (by kernel_rfl) (Q1ez k) (by kernel_rfl) ⟨l79_0 k K, trivial⟩ (by kernel_rfl)
noncomputable def s79 := onS (R := R) aa79 ab79 g79 (fun k => callC T F k 79)
theorem Q1ic : sOk (R := R) s79 79 := Q6 (fun _ _ _ _ => rfl) tu79
noncomputable abbrev Q1c2 : zK4 R := (fun z0 z1 z2 z3 z4 z5 z6 z7 z8 z9 z10 z11 z12 z13 z14 z15 z16 z17 z18 z19 z20 z21 z22 z23 z24 z25 z26 z27 z28 => K [] [zr1 z0 z1 z2 z3 z4 z5 z6 z7 z8 z9 z10 z11 z12 z13 z14 z15 z16 z17 z18 z19 z20 z21 z22 z23 z24 z25 z26, ⟨0, .gone⟩, ⟨0, .gone⟩, zr2 z27, zr2 z28])
abbrev Qln : List Sh := [.ptr 1 22, zv, .val [(0, 0)] (.slice zP0)]
abbrev Qlt : List RSh := [zs0, .arr [(0, 0)] zP2, .arr [(0, 0)] zP2]
noncomputable def g124v1 (k : Nat) (v : Sh.D.DL Qln × RSh.DL Qlt) (K : KT R) : Option R := let u0 := v.2.1.2.2.2.2.2.2.2; let u1 := u0.2.2.2.2.2.2.2; let u2 := u1.2.2.2.2.2.2.2; f124v1 k v.1.2.1 v.1.2.2.1 v.2.1.1 v.2.1.2.1 v.2.1.2.2.1 v.2.1.2.2.2.1 v.2.1.2.2.2.2.1 v.2.1.2.2.2.2.2.1 v.2.1.2.2.2.2.2.2.1 v.2.1.2.2.2.2.2.2.2.1 u0.2.1 u0.2.2.1 u0.2.2.2.1 u0.2.2.2.2.1 u0.2.2.2.2.2.1 u0.2.2.2.2.2.2.1 u0.2.2.2.2.2.2.2.1 u1.2.1 u1.2.2.1 u1.2.2.2.1 u1.2.2.2.2.1 u1.2.2.2.2.2.1 u1.2.2.2.2.2.2.1 u1.2.2.2.2.2.2.2.1 u2.2.1 u2.2.2.1 u2.2.2.2.2.1 u2.2.2.2.2.2.1 u2.2.2.2.2.2.2.2.1 v.2.2.1 v.2.2.2.1 (Q1c2 K)
noncomputable abbrev E124v1 := ending T Try.f124 an124 3 K
noncomputable def S124v1 := pickS (R := R) []
theorem Qv8 : ∀ k, S124v1 (R := R) k = callC T F k := Q3 trivial
noncomputable abbrev Qco : Option R := inner T an124 (Q0 F) 3 k 57 (S124v1 k) (E124v1 K) Q67 (sh Q4r ws rs) N X
abbrev Qlo : List Sh := [.ptr 1 22, zv, .ptr 6 0, .val [(0, 0)] (.slice zP0), zv, zv, .val [] .bool]
abbrev Qlu : List RSh := [zs1, .gone, .gone, .arr [(0, 0)] zP2, .arr [(0, 0)] zP2, zs4]
noncomputable def Q71 : Option R :=
 Q4 Qlo Qlu (fun v => let u0 := v.2.1.2.2.2.2.2.2.2; let u1 := u0.2.2.2.2.2.2.2; let u2 := u1.2.2.2.2.2.2.2; let u3 := v.2.2.2.2.2.2.1.2.2.2.2.2.2.2; Q52 k (fun p31 => N (sh Qn9 [.ptr 1 22, zi v.1.2.1, .val [(0, 0)] (.slice zP0) v.1.2.2.2.1, zi v.1.2.2.2.2.1, zi v.1.2.2.2.2.2.1] [zr1 v.2.1.1 v.2.1.2.1 v.2.1.2.2.1 v.2.1.2.2.2.1 v.2.1.2.2.2.2.1 v.2.1.2.2.2.2.2.1 v.2.1.2.2.2.2.2.2.1 v.2.1.2.2.2.2.2.2.2.1 u0.2.1 u0.2.2.1 u0.2.2.2.1 u0.2.2.2.2.1 u0.2.2.2.2.2.1 u0.2.2.2.2.2.2.1 u0.2.2.2.2.2.2.2.1 u1.2.1 u1.2.2.1 u1.2.2.2.1 u1.2.2.2.2.1 u1.2.2.2.2.2.1 u1.2.2.2.2.2.2.1 u1.2.2.2.2.2.2.2.1 u2.2.1 u2.2.2.1 u2.2.2.2.2.1 u2.2.2.2.2.2.1 u2.2.2.2.2.2.2.2.1, ⟨0, .gone⟩, ⟨0, .gone⟩, zr2 p31, zr2 v.2.2.2.2.2.1])) v.1.2.1 v.1.2.2.2.2.2.2.1 v.2.2.2.2.1 v.2.2.2.2.2.2.1.1 v.2.2.2.2.2.2.1.2.1 v.2.2.2.2.2.2.1.2.2.1 v.2.2.2.2.2.2.1.2.2.2.1 v.2.2.2.2.2.2.1.2.2.2.2.1 v.2.2.2.2.2.2.1.2.2.2.2.2.1 v.2.2.2.2.2.2.1.2.2.2.2.2.2.1 v.2.2.2.2.2.2.1.2.2.2.2.2.2.2.1 u3.2.1) (Qco k K ws rs N X) ws rs
noncomputable abbrev Qdw : Option R := inner T an124 (Q0 F) 3 k 57 (S124v1 k) (E124v1 K) Qf0 (sh Q4q ws rs) N X
abbrev Qi0 : List Sh := [.ptr 1 22, zv, .val [(0, 0)] (.slice zP0), zv, zv]
abbrev Qi4 : List RSh := [zs1, .gone, .gone, .arr [(0, 0)] zP2, .arr [(0, 0)] zP2]
noncomputable def Qed : Option R :=
 Q4 Qi0 Qi4 (fun v => let u0 := v.2.1.2.2.2.2.2.2.2; let u1 := u0.2.2.2.2.2.2.2; let u2 := u1.2.2.2.2.2.2.2; Qfi k (fun p23 p27 => N (sh Qb1 [] [zr1 v.2.1.1 v.2.1.2.1 v.2.1.2.2.1 v.2.1.2.2.2.1 v.2.1.2.2.2.2.1 v.2.1.2.2.2.2.2.1 v.2.1.2.2.2.2.2.2.1 v.2.1.2.2.2.2.2.2.2.1 u0.2.1 u0.2.2.1 u0.2.2.2.1 u0.2.2.2.2.1 u0.2.2.2.2.2.1 u0.2.2.2.2.2.2.1 u0.2.2.2.2.2.2.2.1 u1.2.1 u1.2.2.1 u1.2.2.2.1 u1.2.2.2.2.1 u1.2.2.2.2.2.1 u1.2.2.2.2.2.2.1 u1.2.2.2.2.2.2.2.1 u2.2.1 p23 u2.2.2.2.2.1 u2.2.2.2.2.2.1 u2.2.2.2.2.2.2.2.1, ⟨0, .gone⟩, ⟨0, .gone⟩, zr2 p27, zr2 v.2.2.2.2.2.1])) v.1.2.1 v.1.2.2.1 v.1.2.2.2.1 v.2.1.1 v.2.1.2.1 v.2.1.2.2.1 v.2.1.2.2.2.1 v.2.1.2.2.2.2.1 v.2.1.2.2.2.2.2.1 v.2.1.2.2.2.2.2.2.1 v.2.1.2.2.2.2.2.2.2.1 u0.2.1 u0.2.2.1 u0.2.2.2.1 u0.2.2.2.2.1 u0.2.2.2.2.2.1 u0.2.2.2.2.2.2.1 u0.2.2.2.2.2.2.2.1 u1.2.1 u1.2.2.1 u1.2.2.2.1 u1.2.2.2.2.1 u1.2.2.2.2.2.1 u1.2.2.2.2.2.2.1 u1.2.2.2.2.2.2.2.1 u2.2.1 u2.2.2.2.2.1 u2.2.2.2.2.2.1 u2.2.2.2.2.2.2.2.1 v.2.2.2.2.2.1 k v.1.2.2.2.2.1 u2.2.2.1 v.2.2.2.2.1) (Qdw k K ws rs N X) ws rs
noncomputable def L124v1 : Option R := bif id == 1000004 then Q71 k K ws rs N X else bif id == 0 then Qed k K ws rs N X else none
theorem Qta : L124v1 k K 1000004 ws rs N X = Qco k K ws rs N X := by
 show Q71 k K ws rs N X = _
 unfold Q71
 rw [Q22]
 exact lC (L124v1 k K) [] (by kernel_rfl) trivial fun x y => by kernel_rfl
theorem Q15z (c0 : Int) (c1 : zL2) (c2 c4 c5 c6 c7 c8 c9 c10 : Int) (c11 : ByteArray) (c12 : List Int) (c13 : Int) (c14 : zL5) (c15 c16 c17 c18 : Int) (c19 : ByteArray) (c20 : List Int) (c21 : zL5) (c22 c23 c24 c25 : Int) (c26 c28 : List Bool) (c29 c30 : Int) (c32 : zL1) (m : Nat) : ∀ (c3 c27 : Int) (c31 : zL1),
  iter (atHead an124 3 Q3t) m (fun st N' => exec T an124 (Q0 F) 3 k 57 (S124v1 k) (E124v1 K) Q3t st N' (outX an124 3 0 N X)) (sh Q4q [.ptr 1 22, zi c0, .val [(0, 0)] (.slice zP0) c1, zi c2, zi c3] [zr1 c4 c5 c6 c7 c8 c9 c10 c11 c12 c13 c14 c15 c16 c17 c18 c19 c20 c21 c22 c23 c24 c25 c26 c27 c28 c29 c30, ⟨0, .gone⟩, ⟨0, .gone⟩, zr2 c31, zr2 c32]) = Q1c k (fun p23 p27 => N (sh Qb1 [] [zr1 c4 c5 c6 c7 c8 c9 c10 c11 c12 c13 c14 c15 c16 c17 c18 c19 c20 c21 c22 c23 c24 c25 c26 p23 c28 c29 c30, ⟨0, .gone⟩, ⟨0, .gone⟩, zr2 p27, zr2 c32])) c0 c1 c2 c4 c5 c6 c7 c8 c9 c10 c11 c12 c13 c14 c15 c16 c17 c18 c19 c20 c21 c22 c23 c24 c25 c26 c28 c29 c30 c32 m c3 c27 c31 := by
 induction m with
 | zero => intros; rfl
 | succ m ih =>
   intro c3 c27 c31
   simp only [iter]
   rw [← Q9 T an124 (Q0 F) 3 k 57 (S124v1 k) (L124v1 k K) Q3t (Qc _ _ _ _ _ _ _ _ Q3t (l := [(1000004, Q4r, Q67)]) (by kernel_rfl) ⟨Qta k K, trivial⟩)]
   have h := fx3 ih
   simp only [Q1c]
   rw [← h]
   show _ = _
   kernel_rfl
theorem Q16j : L124v1 k K 0 ws rs N X = Qdw k K ws rs N X := by
 show Qed k K ws rs N X = _
 unfold Qed
 rw [Q81]
 exact Q5 (a := Qi0) (b := Qi4) (G := fun ws rs => Qdw k K ws rs N X) (fun x y => Eq.trans (by kernel_rfl) (Eq.trans (Q15z k K N X x.2.1 x.2.2.1 x.2.2.2.1 y.1.1 y.1.2.1 y.1.2.2.1 y.1.2.2.2.1 y.1.2.2.2.2.1 y.1.2.2.2.2.2.1 y.1.2.2.2.2.2.2.1 y.1.2.2.2.2.2.2.2.1 y.1.2.2.2.2.2.2.2.2.1 y.1.2.2.2.2.2.2.2.2.2.1 y.1.2.2.2.2.2.2.2.2.2.2.1 y.1.2.2.2.2.2.2.2.2.2.2.2.1 y.1.2.2.2.2.2.2.2.2.2.2.2.2.1 y.1.2.2.2.2.2.2.2.2.2.2.2.2.2.1 y.1.2.2.2.2.2.2.2.2.2.2.2.2.2.2.1 y.1.2.2.2.2.2.2.2.2.2.2.2.2.2.2.2.1 y.1.2.2.2.2.2.2.2.2.2.2.2.2.2.2.2.2.1 y.1.2.2.2.2.2.2.2.2.2.2.2.2.2.2.2.2.2.1 y.1.2.2.2.2.2.2.2.2.2.2.2.2.2.2.2.2.2.2.1 y.1.2.2.2.2.2.2.2.2.2.2.2.2.2.2.2.2.2.2.2.1 y.1.2.2.2.2.2.2.2.2.2.2.2.2.2.2.2.2.2.2.2.2.1 y.1.2.2.2.2.2.2.2.2.2.2.2.2.2.2.2.2.2.2.2.2.2.1 y.1.2.2.2.2.2.2.2.2.2.2.2.2.2.2.2.2.2.2.2.2.2.2.1 y.1.2.2.2.2.2.2.2.2.2.2.2.2.2.2.2.2.2.2.2.2.2.2.2.2.2.1 y.1.2.2.2.2.2.2.2.2.2.2.2.2.2.2.2.2.2.2.2.2.2.2.2.2.2.2.1 y.1.2.2.2.2.2.2.2.2.2.2.2.2.2.2.2.2.2.2.2.2.2.2.2.2.2.2.2.2.1 y.2.2.2.2.1 k x.2.2.2.2.1 y.1.2.2.2.2.2.2.2.2.2.2.2.2.2.2.2.2.2.2.2.2.2.2.2.1 y.2.2.2.1).symm (by kernel_rfl))) ws rs
theorem Q1e0 : tOk (R := R) 124 Qln Qlt g124v1 := by
 intro k x y K
 unfold g124v1
 rw [Qde]
 cases k with
 | zero => rfl
 | succ k => exact eS Try.f124 an124 3 57 (L124v1 k K) [(0, Q4q, Qf0)] (by kernel_rfl) (Qv8 k) (by kernel_rfl) ⟨Q16j k K, trivial⟩ (by kernel_rfl)
noncomputable def s124v1 := onS (R := R) Qln Qlt g124v1 s124
theorem Q130 : sOk (R := R) s124v1 124 := Q6 Q1dp Q1e0
noncomputable abbrev kt82 : zK2 R := (fun z0 z1 z2 z3 z4 z5 z6 z7 z8 z9 z10 => K [.agg [zi z0, zi z1, .val [] .str z2, .val [(0, 0)] zT2 z3, .val [(0, 0)] zT1 z4, zi z5, zi z6, zi z7, zi z8], .rw 1, zi z9] [zr3 z10])
abbrev aa82 : List Sh := [.agg [zv, zv, zv, zv, zv], .agg [zv, zv, .val [] .str, .val [(0, 0)] zT2, .val [(0, 0)] zT1, zv, zv, zv, zv]]
abbrev ab82 : List RSh := []
noncomputable def g82 (k : Nat) (v : Sh.D.DL aa82 × RSh.DL ab82) (K : KT R) : Option R := let u0 := v.1.2.1.2.2.2.2.2.2.2; f82 k v.1.1.1 v.1.1.2.1 v.1.1.2.2.1 v.1.1.2.2.2.1 v.1.1.2.2.2.2.1 v.1.2.1.1 v.1.2.1.2.1 v.1.2.1.2.2.1 v.1.2.1.2.2.2.1 v.1.2.1.2.2.2.2.1 v.1.2.1.2.2.2.2.2.1 v.1.2.1.2.2.2.2.2.2.1 v.1.2.1.2.2.2.2.2.2.2.1 u0.2.1 (kt82 K)
noncomputable abbrev E82 := ending T Try.f82 an82 0 K
noncomputable def S82 := pickS (R := R) [(112, s112)]
theorem Q1f1 : ∀ k, S82 (R := R) k = callC T F k := Q3 ⟨Q12x, trivial⟩
theorem tu82 : tOk (R := R) 82 aa82 ab82 g82 := by
 intro k x y K
 unfold g82
 rw [Q106]
 cases k with
 | zero => rfl
 | succ k => exact eS Try.f82 an82 0 54 L0 [] (by kernel_rfl) (Q1f1 k) (by kernel_rfl) trivial (by kernel_rfl)
noncomputable def s82 := onS (R := R) aa82 ab82 g82 (fun k => callC T F k 82)
theorem Q1ie : sOk (R := R) s82 82 := Q6 (fun _ _ _ _ => rfl) tu82
noncomputable abbrev kt100 : zK11 R := (fun z0 z1 z2 z3 z4 z5 z6 z7 z8 z9 z10 z11 z12 z13 z14 z15 z16 z17 z18 z19 z20 z21 z22 z23 z24 z25 z26 z27 z28 z29 => K [zi z0] [zr1 z1 z2 z3 z4 z5 z6 z7 z8 z9 z10 z11 z12 z13 z14 z15 z16 z17 z18 z19 z20 z21 z22 z23 z24 z25 z26 z27, ⟨0, .gone⟩, ⟨0, .gone⟩, zr2 z28, zr2 z29])
abbrev aa100 : List Sh := [.ptr 1 0, zv]
abbrev ab100 : List RSh := [zs0, .arr [(0, 0)] zP2, .arr [(0, 0)] zP2]
noncomputable def g100 (k : Nat) (v : Sh.D.DL aa100 × RSh.DL ab100) (K : KT R) : Option R := let u0 := v.2.1.2.2.2.2.2.2.2; let u1 := u0.2.2.2.2.2.2.2; let u2 := u1.2.2.2.2.2.2.2; f100 k v.1.2.1 v.2.1.1 v.2.1.2.1 v.2.1.2.2.1 v.2.1.2.2.2.1 v.2.1.2.2.2.2.1 v.2.1.2.2.2.2.2.1 v.2.1.2.2.2.2.2.2.1 v.2.1.2.2.2.2.2.2.2.1 u0.2.1 u0.2.2.1 u0.2.2.2.1 u0.2.2.2.2.1 u0.2.2.2.2.2.1 u0.2.2.2.2.2.2.1 u0.2.2.2.2.2.2.2.1 u1.2.1 u1.2.2.1 u1.2.2.2.1 u1.2.2.2.2.1 u1.2.2.2.2.2.1 u1.2.2.2.2.2.2.1 u1.2.2.2.2.2.2.2.1 u2.2.1 u2.2.2.1 u2.2.2.2.2.1 u2.2.2.2.2.2.1 u2.2.2.2.2.2.2.2.1 v.2.2.1 v.2.2.2.1 (kt100 K)
noncomputable abbrev E100 := ending T Try.f100 an100 3 K
noncomputable def S100 := pickS (R := R) [(79, s79), (82, s82), (90, s90), (92, s92), (123, s123v1), (124, s124v1)]
theorem Q19y : ∀ k, S100 (R := R) k = callC T F k := Q3 ⟨Q1ic, Q1ie, Q1ih, Q1ij, Q12z, Q130, trivial⟩
noncomputable abbrev Qtm : Option R := inner T an100 (Q0 F) 3 k 167 (S100 k) (E100 K) Qxb (sh Qbv ws rs) N X
abbrev Qvb : List Sh := [.ptr 1 0, zv, .rw 6, zv, zv]
abbrev Qw6 : List RSh := [zs1, .gone, .gone, .arr [(0, 0)] zP2, .arr [(0, 0)] zP2, .arr [(0, 0)] zP0]
noncomputable def Qut : Option R :=
 Q4 Qvb Qw6 (fun v => let u0 := v.2.1.2.2.2.2.2.2.2; let u1 := u0.2.2.2.2.2.2.2; let u2 := u1.2.2.2.2.2.2.2; Qxz k (kt100 K) (fun p1 p2 p3 p4 p5 p6 p7 p8 p9 p10 p11 p12 p13 p14 p15 p16 p17 p18 p19 p20 p21 p22 p23 p24 p25 p26 p27 p28 p29 => N (sh Qne [.ptr 1 0, zi v.1.2.1] [zr1 p1 p2 p3 p4 p5 p6 p7 p8 p9 p10 p11 p12 p13 p14 p15 p16 p17 p18 p19 p20 p21 p22 p23 p24 p25 p26 p27, ⟨0, .gone⟩, ⟨0, .gone⟩, zr2 p28, zr2 p29])) v.1.2.1 v.1.2.2.2.1 v.2.2.2.2.2.2.1 k v.1.2.2.2.2.1 v.2.1.1 v.2.1.2.1 v.2.1.2.2.1 v.2.1.2.2.2.1 v.2.1.2.2.2.2.1 v.2.1.2.2.2.2.2.1 v.2.1.2.2.2.2.2.2.1 v.2.1.2.2.2.2.2.2.2.1 u0.2.1 u0.2.2.1 u0.2.2.2.1 u0.2.2.2.2.1 u0.2.2.2.2.2.1 u0.2.2.2.2.2.2.1 u0.2.2.2.2.2.2.2.1 u1.2.1 u1.2.2.1 u1.2.2.2.1 u1.2.2.2.2.1 u1.2.2.2.2.2.1 u1.2.2.2.2.2.2.1 u1.2.2.2.2.2.2.2.1 u2.2.1 u2.2.2.1 u2.2.2.2.2.1 u2.2.2.2.2.2.1 u2.2.2.2.2.2.2.2.1 v.2.2.2.2.1 v.2.2.2.2.2.1) (Qtm k K ws rs N X) ws rs
noncomputable abbrev Qtn : Option R := inner T an100 (Q0 F) 3 k 167 (S100 k) (E100 K) Qxc (sh Qbw ws rs) N X
abbrev Qvc : List Sh := [.ptr 1 0, zv, .rw 6, zv, zv]
abbrev Qw7 : List RSh := [zs1, .gone, .gone, .arr [(0, 0)] zP2, .arr [(0, 0)] zP2, .arr [(0, 0)] zP0]
noncomputable def Quu : Option R :=
 Q4 Qvc Qw7 (fun v => let u0 := v.2.1.2.2.2.2.2.2.2; let u1 := u0.2.2.2.2.2.2.2; let u2 := u1.2.2.2.2.2.2.2; Qy0 k (kt100 K) (fun p6 p7 p8 p9 p10 p11 p12 p13 => N (sh Qnf [.ptr 1 0, zi v.1.2.1] [zr1 v.2.1.1 v.2.1.2.1 v.2.1.2.2.1 v.2.1.2.2.2.1 v.2.1.2.2.2.2.1 p6 p7 p8 p9 p10 p11 p12 p13 u0.2.2.2.2.2.2.1 u0.2.2.2.2.2.2.2.1 u1.2.1 u1.2.2.1 u1.2.2.2.1 u1.2.2.2.2.1 u1.2.2.2.2.2.1 u1.2.2.2.2.2.2.1 u1.2.2.2.2.2.2.2.1 u2.2.1 u2.2.2.1 u2.2.2.2.2.1 u2.2.2.2.2.2.1 u2.2.2.2.2.2.2.2.1, ⟨0, .gone⟩, ⟨0, .gone⟩, zr2 v.2.2.2.2.1, zr2 v.2.2.2.2.2.1])) v.1.2.1 v.1.2.2.2.1 v.2.1.1 v.2.1.2.1 v.2.1.2.2.1 v.2.1.2.2.2.1 v.2.1.2.2.2.2.1 u0.2.2.2.2.2.2.1 u0.2.2.2.2.2.2.2.1 u1.2.1 u1.2.2.1 u1.2.2.2.1 u1.2.2.2.2.1 u1.2.2.2.2.2.1 u1.2.2.2.2.2.2.1 u1.2.2.2.2.2.2.2.1 u2.2.1 u2.2.2.1 u2.2.2.2.2.1 u2.2.2.2.2.2.1 u2.2.2.2.2.2.2.2.1 v.2.2.2.2.1 v.2.2.2.2.2.1 v.2.2.2.2.2.2.1 k v.1.2.2.2.2.1 v.2.1.2.2.2.2.2.1 v.2.1.2.2.2.2.2.2.1 v.2.1.2.2.2.2.2.2.2.1 u0.2.1 u0.2.2.1 u0.2.2.2.1 u0.2.2.2.2.1 u0.2.2.2.2.2.1) (Qtn k K ws rs N X) ws rs
noncomputable abbrev Qob : Option R := inner T an100 (Q0 F) 3 k 167 (S100 k) (E100 K) Qif (sh Qbx ws rs) N X
abbrev Qvd : List Sh := [.ptr 1 0, zv, .val [] .bool]
abbrev Qw8 : List RSh := [zs1, .gone, .gone, .arr [(0, 0)] zP2, .arr [(0, 0)] zP2]
noncomputable def Qdz : Option R :=
 Q4 Qvd Qw8 (fun v => let u0 := v.2.1.2.2.2.2.2.2.2; let u1 := u0.2.2.2.2.2.2.2; let u2 := u1.2.2.2.2.2.2.2; Q51 k (fun p27 => N (sh Qrq [.ptr 1 0, zi v.1.2.1] [zr1 v.2.1.1 v.2.1.2.1 v.2.1.2.2.1 v.2.1.2.2.2.1 v.2.1.2.2.2.2.1 v.2.1.2.2.2.2.2.1 v.2.1.2.2.2.2.2.2.1 v.2.1.2.2.2.2.2.2.2.1 u0.2.1 u0.2.2.1 u0.2.2.2.1 u0.2.2.2.2.1 u0.2.2.2.2.2.1 u0.2.2.2.2.2.2.1 u0.2.2.2.2.2.2.2.1 u1.2.1 u1.2.2.1 u1.2.2.2.1 u1.2.2.2.2.1 u1.2.2.2.2.2.1 u1.2.2.2.2.2.2.1 u1.2.2.2.2.2.2.2.1 u2.2.1 u2.2.2.1 u2.2.2.2.2.1 u2.2.2.2.2.2.1 p27, ⟨0, .gone⟩, ⟨0, .gone⟩, zr2 v.2.2.2.2.1, zr2 v.2.2.2.2.2.1])) v.1.2.1 v.1.2.2.1 u2.2.2.2.2.2.2.2.1) (Qob k K ws rs N X) ws rs
noncomputable def L100 : Option R := bif id == 0 then Qut k K ws rs N X else bif id == 2 then Quu k K ws rs N X else bif id == 1000019 then Qdz k K ws rs N X else none
theorem Q1g7 (c0 c1 : Int) (c32 : zL3) (m : Nat) : ∀ (c2 c3 c4 c5 c6 c7 c8 c9 : Int) (c10 : ByteArray) (c11 : List Int) (c12 : Int) (c13 : zL5) (c14 c15 c16 c17 : Int) (c18 : ByteArray) (c19 : List Int) (c20 : zL5) (c21 c22 c23 c24 : Int) (c25 : List Bool) (c26 : Int) (c27 : List Bool) (c28 c29 : Int) (c30 c31 : zL1),
  iter (atHead an100 3 Qeo) m (fun st N' => exec T an100 (Q0 F) 3 k 167 (S100 k) (E100 K) Qeo st N' (outX an100 3 0 N X)) (sh Qbv [.ptr 1 0, zi c0, .rw 6, zi c1, zi c2] [zr1 c3 c4 c5 c6 c7 c8 c9 c10 c11 c12 c13 c14 c15 c16 c17 c18 c19 c20 c21 c22 c23 c24 c25 c26 c27 c28 c29, ⟨0, .gone⟩, ⟨0, .gone⟩, zr2 c30, zr2 c31, zr3 c32]) = Q44 k (kt100 K) (fun p1 p2 p3 p4 p5 p6 p7 p8 p9 p10 p11 p12 p13 p14 p15 p16 p17 p18 p19 p20 p21 p22 p23 p24 p25 p26 p27 p28 p29 => N (sh Qne [.ptr 1 0, zi c0] [zr1 p1 p2 p3 p4 p5 p6 p7 p8 p9 p10 p11 p12 p13 p14 p15 p16 p17 p18 p19 p20 p21 p22 p23 p24 p25 p26 p27, ⟨0, .gone⟩, ⟨0, .gone⟩, zr2 p28, zr2 p29])) c0 c1 c32 m c2 c3 c4 c5 c6 c7 c8 c9 c10 c11 c12 c13 c14 c15 c16 c17 c18 c19 c20 c21 c22 c23 c24 c25 c26 c27 c28 c29 c30 c31 := by
 induction m with
 | zero => intros; rfl
 | succ m ih =>
   intro c2 c3 c4 c5 c6 c7 c8 c9 c10 c11 c12 c13 c14 c15 c16 c17 c18 c19 c20 c21 c22 c23 c24 c25 c26 c27 c28 c29 c30 c31
   simp only [iter]
   rw [← Q9 T an100 (Q0 F) 3 k 167 (S100 k) (L100 k K) Qeo (Qc _ _ _ _ _ _ _ _ Qeo (l := []) (by kernel_rfl) trivial)]
   have h := fx30 ih
   simp only [Q44]
   rw [← h]
   show _ = _
   kernel_rfl
theorem Q1h6 : L100 k K 0 ws rs N X = Qtm k K ws rs N X := by
 show Qut k K ws rs N X = _
 unfold Qut
 rw [Qd1]
 exact Q5 (a := Qvb) (b := Qw6) (G := fun ws rs => Qtm k K ws rs N X) (fun x y => Eq.trans (by kernel_rfl) (Eq.trans (Q1g7 k K N X x.2.1 x.2.2.2.1 y.2.2.2.2.2.1 k x.2.2.2.2.1 y.1.1 y.1.2.1 y.1.2.2.1 y.1.2.2.2.1 y.1.2.2.2.2.1 y.1.2.2.2.2.2.1 y.1.2.2.2.2.2.2.1 y.1.2.2.2.2.2.2.2.1 y.1.2.2.2.2.2.2.2.2.1 y.1.2.2.2.2.2.2.2.2.2.1 y.1.2.2.2.2.2.2.2.2.2.2.1 y.1.2.2.2.2.2.2.2.2.2.2.2.1 y.1.2.2.2.2.2.2.2.2.2.2.2.2.1 y.1.2.2.2.2.2.2.2.2.2.2.2.2.2.1 y.1.2.2.2.2.2.2.2.2.2.2.2.2.2.2.1 y.1.2.2.2.2.2.2.2.2.2.2.2.2.2.2.2.1 y.1.2.2.2.2.2.2.2.2.2.2.2.2.2.2.2.2.1 y.1.2.2.2.2.2.2.2.2.2.2.2.2.2.2.2.2.2.1 y.1.2.2.2.2.2.2.2.2.2.2.2.2.2.2.2.2.2.2.1 y.1.2.2.2.2.2.2.2.2.2.2.2.2.2.2.2.2.2.2.2.1 y.1.2.2.2.2.2.2.2.2.2.2.2.2.2.2.2.2.2.2.2.2.1 y.1.2.2.2.2.2.2.2.2.2.2.2.2.2.2.2.2.2.2.2.2.2.1 y.1.2.2.2.2.2.2.2.2.2.2.2.2.2.2.2.2.2.2.2.2.2.2.1 y.1.2.2.2.2.2.2.2.2.2.2.2.2.2.2.2.2.2.2.2.2.2.2.2.1 y.1.2.2.2.2.2.2.2.2.2.2.2.2.2.2.2.2.2.2.2.2.2.2.2.2.2.1 y.1.2.2.2.2.2.2.2.2.2.2.2.2.2.2.2.2.2.2.2.2.2.2.2.2.2.2.1 y.1.2.2.2.2.2.2.2.2.2.2.2.2.2.2.2.2.2.2.2.2.2.2.2.2.2.2.2.2.1 y.2.2.2.1 y.2.2.2.2.1).symm (by kernel_rfl))) ws rs
theorem Q1g8 (c0 c1 c3 c4 c5 c6 c7 c16 c17 : Int) (c18 : ByteArray) (c19 : List Int) (c20 : zL5) (c21 c22 c23 c24 : Int) (c25 : List Bool) (c26 : Int) (c27 : List Bool) (c28 c29 : Int) (c30 c31 : zL1) (c32 : zL3) (m : Nat) : ∀ (c2 c8 c9 : Int) (c10 : ByteArray) (c11 : List Int) (c12 : Int) (c13 : zL5) (c14 c15 : Int),
  iter (atHead an100 3 Qep) m (fun st N' => exec T an100 (Q0 F) 3 k 167 (S100 k) (E100 K) Qep st N' (outX an100 3 2 N X)) (sh Qbw [.ptr 1 0, zi c0, .rw 6, zi c1, zi c2] [zr1 c3 c4 c5 c6 c7 c8 c9 c10 c11 c12 c13 c14 c15 c16 c17 c18 c19 c20 c21 c22 c23 c24 c25 c26 c27 c28 c29, ⟨0, .gone⟩, ⟨0, .gone⟩, zr2 c30, zr2 c31, zr3 c32]) = Q45 k (kt100 K) (fun p6 p7 p8 p9 p10 p11 p12 p13 => N (sh Qnf [.ptr 1 0, zi c0] [zr1 c3 c4 c5 c6 c7 p6 p7 p8 p9 p10 p11 p12 p13 c16 c17 c18 c19 c20 c21 c22 c23 c24 c25 c26 c27 c28 c29, ⟨0, .gone⟩, ⟨0, .gone⟩, zr2 c30, zr2 c31])) c0 c1 c3 c4 c5 c6 c7 c16 c17 c18 c19 c20 c21 c22 c23 c24 c25 c26 c27 c28 c29 c30 c31 c32 m c2 c8 c9 c10 c11 c12 c13 c14 c15 := by
 induction m with
 | zero => intros; rfl
 | succ m ih =>
   intro c2 c8 c9 c10 c11 c12 c13 c14 c15
   simp only [iter]
   rw [← Q9 T an100 (Q0 F) 3 k 167 (S100 k) (L100 k K) Qep (Qc _ _ _ _ _ _ _ _ Qep (l := []) (by kernel_rfl) trivial)]
   have h := fx9 ih
   simp only [Q45]
   rw [← h]
   show _ = _
   kernel_rfl
theorem Q1h7 : L100 k K 2 ws rs N X = Qtn k K ws rs N X := by
 show Quu k K ws rs N X = _
 unfold Quu
 rw [Qd2]
 exact Q5 (a := Qvc) (b := Qw7) (G := fun ws rs => Qtn k K ws rs N X) (fun x y => Eq.trans (by kernel_rfl) (Eq.trans (Q1g8 k K N X x.2.1 x.2.2.2.1 y.1.1 y.1.2.1 y.1.2.2.1 y.1.2.2.2.1 y.1.2.2.2.2.1 y.1.2.2.2.2.2.2.2.2.2.2.2.2.2.1 y.1.2.2.2.2.2.2.2.2.2.2.2.2.2.2.1 y.1.2.2.2.2.2.2.2.2.2.2.2.2.2.2.2.1 y.1.2.2.2.2.2.2.2.2.2.2.2.2.2.2.2.2.1 y.1.2.2.2.2.2.2.2.2.2.2.2.2.2.2.2.2.2.1 y.1.2.2.2.2.2.2.2.2.2.2.2.2.2.2.2.2.2.2.1 y.1.2.2.2.2.2.2.2.2.2.2.2.2.2.2.2.2.2.2.2.1 y.1.2.2.2.2.2.2.2.2.2.2.2.2.2.2.2.2.2.2.2.2.1 y.1.2.2.2.2.2.2.2.2.2.2.2.2.2.2.2.2.2.2.2.2.2.1 y.1.2.2.2.2.2.2.2.2.2.2.2.2.2.2.2.2.2.2.2.2.2.2.1 y.1.2.2.2.2.2.2.2.2.2.2.2.2.2.2.2.2.2.2.2.2.2.2.2.1 y.1.2.2.2.2.2.2.2.2.2.2.2.2.2.2.2.2.2.2.2.2.2.2.2.2.2.1 y.1.2.2.2.2.2.2.2.2.2.2.2.2.2.2.2.2.2.2.2.2.2.2.2.2.2.2.1 y.1.2.2.2.2.2.2.2.2.2.2.2.2.2.2.2.2.2.2.2.2.2.2.2.2.2.2.2.2.1 y.2.2.2.1 y.2.2.2.2.1 y.2.2.2.2.2.1 k x.2.2.2.2.1 y.1.2.2.2.2.2.1 y.1.2.2.2.2.2.2.1 y.1.2.2.2.2.2.2.2.1 y.1.2.2.2.2.2.2.2.2.1 y.1.2.2.2.2.2.2.2.2.2.1 y.1.2.2.2.2.2.2.2.2.2.2.1 y.1.2.2.2.2.2.2.2.2.2.2.2.1 y.1.2.2.2.2.2.2.2.2.2.2.2.2.1).symm (by kernel_rfl))) ws rs
theorem Q165 : L100 k K 1000019 ws rs N X = Qob k K ws rs N X := by
 show Qdz k K ws rs N X = _
 unfold Qdz
 rw [Q7p]
 exact lC (L100 k K) [] (by kernel_rfl) trivial fun x y => by kernel_rfl
theorem tu100 : tOk (R := R) 100 aa100 ab100 g100 := by
 intro k x y K
 unfold g100
 rw [Qqh]
 cases k with
 | zero => rfl
 | succ k => exact eS Try.f100 an100 3 167 (L100 k K) [(0, Qbv, Qxb), (2, Qbw, Qxc), (1000019, Qbx, Qif)] (by kernel_rfl) (Q19y k) (by kernel_rfl) ⟨Q1h6 k K, Q1h7 k K, Q165 k K, trivial⟩ (by kernel_rfl)
noncomputable def s100 := onS (R := R) aa100 ab100 g100 (fun k => callC T F k 100)
theorem Q1da : sOk (R := R) s100 100 := Q6 (fun _ _ _ _ => rfl) tu100
noncomputable abbrev kt59 : zK14 R := (fun z0 z1 z2 z3 z4 z5 z6 z7 z8 z9 z10 z11 z12 z13 z14 z15 z16 z17 z18 => K [.agg [zi z0, zi z1, .val [] .str z2, .val [(0, 0)] zT2 z3, zi z4, .val [(0, 0)] zT1 z5, zi z6, zi z7], .agg [zi z8, zi z9, .val [] .str z10, .val [(0, 0)] zT2 z11, .val [(0, 0)] zT1 z12, zi z13, zi z14, zi z15, zi z16], .rw 1, zi z17] [⟨0, .arr [] (.int .i64) z18⟩])
abbrev aa59 : List Sh := [.agg [zv, zv, zv, zv, zv], zv, .val [] .str, .val [(0, 0)] zT2, .val [(0, 0)] zT3, .val [(0, 0)] zT3, zv]
abbrev ab59 : List RSh := []
noncomputable def g59 (k : Nat) (v : Sh.D.DL aa59 × RSh.DL ab59) (K : KT R) : Option R := f59 k v.1.1.1 v.1.1.2.1 v.1.1.2.2.1 v.1.1.2.2.2.1 v.1.1.2.2.2.2.1 v.1.2.1 v.1.2.2.1 v.1.2.2.2.1 v.1.2.2.2.2.1 v.1.2.2.2.2.2.1 v.1.2.2.2.2.2.2.1 (kt59 K)
noncomputable abbrev E59 := ending T Try.f59 an59 0 K
noncomputable def S59 := pickS (R := R) [(22, s22), (25, s25), (53, s53), (66, s66), (100, s100)]
theorem Q1ei : ∀ k, S59 (R := R) k = callC T F k := Q3 ⟨Q19p, Q1hv, Q1hz, Qk2, Q1da, trivial⟩
noncomputable abbrev I59_0 : Option R := inner T an59 (Q0 F) 0 k 110 (S59 k) (E59 K) Q18p (sh Qk6 ws rs) N X
abbrev Q17p : List Sh := [.ptr 1 0, .ptr 2 0, .ptr 3 0, zv, zv]
abbrev Q186 : List RSh := [zs8, zs5, zs1, .arr [(0, 0)] zP2, .arr [(0, 0)] zP2]
noncomputable def L59_0 : Option R :=
 Q4 Q17p Q186 (fun v => let u0 := v.2.2.1.2.2.2.2.2.2.2; let u1 := v.2.2.2.1.2.2.2.2.2.2.2; let u2 := u1.2.2.2.2.2.2.2; let u3 := u2.2.2.2.2.2.2.2; f59_0 k (kt59 K) (fun p13 p14 p15 p16 p17 p18 p19 p20 p21 p22 p23 p24 p25 p26 p27 p28 p29 p30 p31 p32 p33 p34 p35 p36 p37 p38 p39 p40 p41 => N (sh Q11w [.ptr 1 0, .ptr 2 0, .ptr 3 0] [zr10 v.2.1.1 v.2.1.2.1 v.2.1.2.2.1 v.2.1.2.2.2.2.1 v.2.1.2.2.2.2.2.2.1 v.2.1.2.2.2.2.2.2.2.1, zr7 v.2.2.1.1 v.2.2.1.2.1 v.2.2.1.2.2.1 v.2.2.1.2.2.2.2.2.1 v.2.2.1.2.2.2.2.2.2.1 v.2.2.1.2.2.2.2.2.2.2.1 u0.2.1, zr1 p13 p14 p15 p16 p17 p18 p19 p20 p21 p22 p23 p24 p25 p26 p27 p28 p29 p30 p31 p32 p33 p34 p35 p36 p37 p38 p39, zr2 p40, zr2 p41])) v.1.2.2.2.1 v.2.1.1 v.2.1.2.1 v.2.1.2.2.1 v.2.1.2.2.2.2.1 v.2.1.2.2.2.2.2.2.1 v.2.1.2.2.2.2.2.2.2.1 v.2.2.1.1 v.2.2.1.2.1 v.2.2.1.2.2.1 v.2.2.1.2.2.2.2.2.1 v.2.2.1.2.2.2.2.2.2.1 v.2.2.1.2.2.2.2.2.2.2.1 u0.2.1 k v.1.2.2.2.2.1 v.2.2.2.1.1 v.2.2.2.1.2.1 v.2.2.2.1.2.2.1 v.2.2.2.1.2.2.2.1 v.2.2.2.1.2.2.2.2.1 v.2.2.2.1.2.2.2.2.2.1 v.2.2.2.1.2.2.2.2.2.2.1 v.2.2.2.1.2.2.2.2.2.2.2.1 u1.2.1 u1.2.2.1 u1.2.2.2.1 u1.2.2.2.2.1 u1.2.2.2.2.2.1 u1.2.2.2.2.2.2.1 u1.2.2.2.2.2.2.2.1 u2.2.1 u2.2.2.1 u2.2.2.2.1 u2.2.2.2.2.1 u2.2.2.2.2.2.1 u2.2.2.2.2.2.2.1 u2.2.2.2.2.2.2.2.1 u3.2.1 u3.2.2.1 u3.2.2.2.2.1 u3.2.2.2.2.2.1 u3.2.2.2.2.2.2.2.1 v.2.2.2.2.1 v.2.2.2.2.2.1) (I59_0 k K ws rs N X) ws rs
noncomputable def L59 : Option R := bif id == 0 then L59_0 k K ws rs N X else none
theorem i59_0 (c0 c2 c3 : Int) (c4 : ByteArray) (c5 c6 c7 c8 c9 : Int) (c10 : ByteArray) (c11 c12 c13 c14 : Int) (m : Nat) : ∀ (c1 c15 c16 c17 c18 c19 c20 c21 : Int) (c22 : ByteArray) (c23 : List Int) (c24 : Int) (c25 : zL5) (c26 c27 c28 c29 : Int) (c30 : ByteArray) (c31 : List Int) (c32 : zL5) (c33 c34 c35 c36 : Int) (c37 : List Bool) (c38 : Int) (c39 : List Bool) (c40 c41 : Int) (c42 c43 : zL1),
  iter (atHead an59 0 Qox) m (fun st N' => exec T an59 (Q0 F) 0 k 110 (S59 k) (E59 K) Qox st N' (outX an59 0 0 N X)) (sh Qk6 [.ptr 1 0, .ptr 2 0, .ptr 3 0, zi c0, zi c1] [zr10 c2 c3 c4 c5 c6 c7, zr7 c8 c9 c10 c11 c12 c13 c14, zr1 c15 c16 c17 c18 c19 c20 c21 c22 c23 c24 c25 c26 c27 c28 c29 c30 c31 c32 c33 c34 c35 c36 c37 c38 c39 c40 c41, zr2 c42, zr2 c43]) = Q88 k (kt59 K) (fun p13 p14 p15 p16 p17 p18 p19 p20 p21 p22 p23 p24 p25 p26 p27 p28 p29 p30 p31 p32 p33 p34 p35 p36 p37 p38 p39 p40 p41 => N (sh Q11w [.ptr 1 0, .ptr 2 0, .ptr 3 0] [zr10 c2 c3 c4 c5 c6 c7, zr7 c8 c9 c10 c11 c12 c13 c14, zr1 p13 p14 p15 p16 p17 p18 p19 p20 p21 p22 p23 p24 p25 p26 p27 p28 p29 p30 p31 p32 p33 p34 p35 p36 p37 p38 p39, zr2 p40, zr2 p41])) c0 c2 c3 c4 c5 c6 c7 c8 c9 c10 c11 c12 c13 c14 m c1 c15 c16 c17 c18 c19 c20 c21 c22 c23 c24 c25 c26 c27 c28 c29 c30 c31 c32 c33 c34 c35 c36 c37 c38 c39 c40 c41 c42 c43 := by
 induction m with
 | zero => intros; rfl
 | succ m ih =>
   intro c1 c15 c16 c17 c18 c19 c20 c21 c22 c23 c24 c25 c26 c27 c28 c29 c30 c31 c32 c33 c34 c35 c36 c37 c38 c39 c40 c41 c42 c43
   simp only [iter]
   rw [← Q9 T an59 (Q0 F) 0 k 110 (S59 k) (L59 k K) Qox (Qc _ _ _ _ _ _ _ _ Qox (l := []) (by kernel_rfl) trivial)]
   have h := fx30 ih
   simp only [Q88]
   rw [← h]
   show _ = _
   kernel_rfl
theorem l59_0 : L59 k K 0 ws rs N X = I59_0 k K ws rs N X := by
 show L59_0 k K ws rs N X = _
 unfold L59_0
 rw [Qj1]
 exact Q5 (a := Q17p) (b := Q186) (G := fun ws rs => I59_0 k K ws rs N X) (fun x y => Eq.trans (by kernel_rfl) (Eq.trans (i59_0 k K N X x.2.2.2.1 y.1.1 y.1.2.1 y.1.2.2.1 y.1.2.2.2.2.1 y.1.2.2.2.2.2.2.1 y.1.2.2.2.2.2.2.2.1 y.2.1.1 y.2.1.2.1 y.2.1.2.2.1 y.2.1.2.2.2.2.2.1 y.2.1.2.2.2.2.2.2.1 y.2.1.2.2.2.2.2.2.2.1 y.2.1.2.2.2.2.2.2.2.2.1 k x.2.2.2.2.1 y.2.2.1.1 y.2.2.1.2.1 y.2.2.1.2.2.1 y.2.2.1.2.2.2.1 y.2.2.1.2.2.2.2.1 y.2.2.1.2.2.2.2.2.1 y.2.2.1.2.2.2.2.2.2.1 y.2.2.1.2.2.2.2.2.2.2.1 y.2.2.1.2.2.2.2.2.2.2.2.1 y.2.2.1.2.2.2.2.2.2.2.2.2.1 y.2.2.1.2.2.2.2.2.2.2.2.2.2.1 y.2.2.1.2.2.2.2.2.2.2.2.2.2.2.1 y.2.2.1.2.2.2.2.2.2.2.2.2.2.2.2.1 y.2.2.1.2.2.2.2.2.2.2.2.2.2.2.2.2.1 y.2.2.1.2.2.2.2.2.2.2.2.2.2.2.2.2.2.1 y.2.2.1.2.2.2.2.2.2.2.2.2.2.2.2.2.2.2.1 y.2.2.1.2.2.2.2.2.2.2.2.2.2.2.2.2.2.2.2.1 y.2.2.1.2.2.2.2.2.2.2.2.2.2.2.2.2.2.2.2.2.1 y.2.2.1.2.2.2.2.2.2.2.2.2.2.2.2.2.2.2.2.2.2.1 y.2.2.1.2.2.2.2.2.2.2.2.2.2.2.2.2.2.2.2.2.2.2.1 y.2.2.1.2.2.2.2.2.2.2.2.2.2.2.2.2.2.2.2.2.2.2.2.1 y.2.2.1.2.2.2.2.2.2.2.2.2.2.2.2.2.2.2.2.2.2.2.2.2.1 y.2.2.1.2.2.2.2.2.2.2.2.2.2.2.2.2.2.2.2.2.2.2.2.2.2.1 y.2.2.1.2.2.2.2.2.2.2.2.2.2.2.2.2.2.2.2.2.2.2.2.2.2.2.1 y.2.2.1.2.2.2.2.2.2.2.2.2.2.2.2.2.2.2.2.2.2.2.2.2.2.2.2.2.1 y.2.2.1.2.2.2.2.2.2.2.2.2.2.2.2.2.2.2.2.2.2.2.2.2.2.2.2.2.2.1 y.2.2.1.2.2.2.2.2.2.2.2.2.2.2.2.2.2.2.2.2.2.2.2.2.2.2.2.2.2.2.2.1 y.2.2.2.1 y.2.2.2.2.1).symm (by kernel_rfl))) ws rs
theorem tu59 : tOk (R := R) 59 aa59 ab59 g59 := by
 intro k x y K
 unfold g59
 rw [Qzc]
 cases k with
 | zero => rfl
 | succ k => exact eS Try.f59 an59 0 110 (L59 k K) [(0, Qk6, Q18p)] (by kernel_rfl) (Q1ei k) (by kernel_rfl) ⟨l59_0 k K, trivial⟩ (by kernel_rfl)
noncomputable def s59 := onS (R := R) aa59 ab59 g59 (fun k => callC T F k 59)
theorem Q1i0 : sOk (R := R) s59 59 := Q6 (fun _ _ _ _ => rfl) tu59
noncomputable abbrev kt72 : Bool → Option R := (fun z0 => K [.val [] .bool z0] [])
abbrev aa72 : List Sh := [zv, zv, zv]
abbrev ab72 : List RSh := []
noncomputable def g72 (k : Nat) (v : Sh.D.DL aa72 × RSh.DL ab72) (K : KT R) : Option R := f72 k v.1.1 v.1.2.1 v.1.2.2.1 (kt72 K)
noncomputable abbrev E72 := ending T Try.f72 an72 0 K
noncomputable def S72 := pickS (R := R) []
theorem Q1eu : ∀ k, S72 (R := R) k = callC T F k := Q3 trivial
theorem tu72 : tOk (R := R) 72 aa72 ab72 g72 := by
 intro k x y K
 unfold g72
 rw [Qzu]
 cases k with
 | zero => rfl
 | succ k => exact eS Try.f72 an72 0 15 L0 [] (by kernel_rfl) (Q1eu k) (by kernel_rfl) trivial (by kernel_rfl)
noncomputable def s72 := onS (R := R) aa72 ab72 g72 (fun k => callC T F k 72)
theorem Qsn : sOk (R := R) s72 72 := Q6 (fun _ _ _ _ => rfl) tu72
noncomputable abbrev kt23 : Int → Option R := (fun z0 => K [zi z0] [])
abbrev aa23 : List Sh := [.agg [zv, zv, zv, zv, zv]]
abbrev ab23 : List RSh := []
noncomputable def g23 (k : Nat) (v : Sh.D.DL aa23 × RSh.DL ab23) (K : KT R) : Option R := f23 k v.1.1.1 v.1.1.2.1 v.1.1.2.2.1 v.1.1.2.2.2.1 v.1.1.2.2.2.2.1 (kt23 K)
noncomputable abbrev E23 := ending T Try.f23 an23 0 K
noncomputable def S23 := pickS (R := R) [(72, s72)]
theorem Q1e9 : ∀ k, S23 (R := R) k = callC T F k := Q3 ⟨Qsn, trivial⟩
theorem tu23 : tOk (R := R) 23 aa23 ab23 g23 := by
 intro k x y K
 unfold g23
 rw [Qz1]
 cases k with
 | zero => rfl
 | succ k => exact eS Try.f23 an23 0 31 L0 [] (by kernel_rfl) (Q1e9 k) (by kernel_rfl) trivial (by kernel_rfl)
noncomputable def s23 := onS (R := R) aa23 ab23 g23 (fun k => callC T F k 23)
theorem Q19q : sOk (R := R) s23 23 := Q6 (fun _ _ _ _ => rfl) tu23
noncomputable abbrev kt105 : Bool → Option R := (fun z0 => K [.val [] .bool z0] [])
abbrev aa105 : List Sh := [zv, zv, zv]
abbrev ab105 : List RSh := []
noncomputable def g105 (k : Nat) (v : Sh.D.DL aa105 × RSh.DL ab105) (K : KT R) : Option R := f105 k v.1.1 v.1.2.1 v.1.2.2.1 (kt105 K)
noncomputable abbrev E105 := ending T Try.f105 an105 0 K
noncomputable def S105 := pickS (R := R) []
theorem Q1a3 : ∀ k, S105 (R := R) k = callC T F k := Q3 trivial
theorem tu105 : tOk (R := R) 105 aa105 ab105 g105 := by
 intro k x y K
 unfold g105
 rw [Qql]
 cases k with
 | zero => rfl
 | succ k => exact eS Try.f105 an105 0 15 L0 [] (by kernel_rfl) (Q1a3 k) (by kernel_rfl) trivial (by kernel_rfl)
noncomputable def s105 := onS (R := R) aa105 ab105 g105 (fun k => callC T F k 105)
theorem Q1de : sOk (R := R) s105 105 := Q6 (fun _ _ _ _ => rfl) tu105
noncomputable abbrev kt74 : Bool → Option R := (fun z0 => K [.val [] .bool z0] [])
abbrev aa74 : List Sh := [.val [] .str]
abbrev ab74 : List RSh := []
noncomputable def g74 (k : Nat) (v : Sh.D.DL aa74 × RSh.DL ab74) (K : KT R) : Option R := f74 k v.1.1 (kt74 K)
noncomputable abbrev E74 := ending T Try.f74 an74 0 K
noncomputable def S74 := pickS (R := R) [(105, s105)]
theorem Q1ev : ∀ k, S74 (R := R) k = callC T F k := Q3 ⟨Q1de, trivial⟩
noncomputable abbrev I74_0 : Option R := inner T an74 (Q0 F) 0 k 47 (S74 k) (E74 K) Q18w (sh Qkd ws rs) N X
abbrev Q17w : List Sh := [.val [] .str, zv]
abbrev Q18d : List RSh := []
noncomputable def L74_0 : Option R :=
 Q4 Q17w Q18d (fun v => f74_0 k (kt74 K) (N (sh Q123 [.val [] .str v.1.1] [])) v.1.1 k v.1.2.1) (I74_0 k K ws rs N X) ws rs
noncomputable def L74 : Option R := bif id == 0 then L74_0 k K ws rs N X else none
theorem i74_0 (c0 : ByteArray) (m : Nat) : ∀ (c1 : Int),
  iter (atHead an74 0 Qp4) m (fun st N' => exec T an74 (Q0 F) 0 k 47 (S74 k) (E74 K) Qp4 st N' (outX an74 0 0 N X)) (sh Qkd [.val [] .str c0, zi c1] []) = Q8f k (kt74 K) (N (sh Q123 [.val [] .str c0] [])) c0 m c1 := by
 induction m with
 | zero => intros; rfl
 | succ m ih =>
   intro c1
   simp only [iter]
   rw [← Q9 T an74 (Q0 F) 0 k 47 (S74 k) (L74 k K) Qp4 (Qc _ _ _ _ _ _ _ _ Qp4 (l := []) (by kernel_rfl) trivial)]
   have h := fx1 ih
   simp only [Q8f]
   rw [← h]
   show _ = _
   kernel_rfl
theorem l74_0 : L74 k K 0 ws rs N X = I74_0 k K ws rs N X := by
 show L74_0 k K ws rs N X = _
 unfold L74_0
 rw [Qj8]
 exact Q5 (a := Q17w) (b := Q18d) (G := fun ws rs => I74_0 k K ws rs N X) (fun x y => Eq.trans (by kernel_rfl) (Eq.trans (i74_0 k K N X x.1 k x.2.1).symm (by kernel_rfl))) ws rs
theorem tu74 : tOk (R := R) 74 aa74 ab74 g74 := by
 intro k x y K
 unfold g74
 rw [Qzw]
 cases k with
 | zero => rfl
 | succ k => exact eS Try.f74 an74 0 47 (L74 k K) [(0, Qkd, Q18w)] (by kernel_rfl) (Q1ev k) (by kernel_rfl) ⟨l74_0 k K, trivial⟩ (by kernel_rfl)
noncomputable def s74 := onS (R := R) aa74 ab74 g74 (fun k => callC T F k 74)
theorem Q1i9 : sOk (R := R) s74 74 := Q6 (fun _ _ _ _ => rfl) tu74
noncomputable abbrev kt78 : Int → Option R := (fun z0 => K [zi z0] [])
abbrev aa78 : List Sh := [zv, .val [] .str, .val [(0, 0)] zT2]
abbrev ab78 : List RSh := []
noncomputable def g78 (k : Nat) (v : Sh.D.DL aa78 × RSh.DL ab78) (K : KT R) : Option R := f78 k v.1.1 v.1.2.1 v.1.2.2.1 (kt78 K)
noncomputable abbrev E78 := ending T Try.f78 an78 0 K
noncomputable def S78 := pickS (R := R) [(72, s72), (74, s74)]
theorem Q1ey : ∀ k, S78 (R := R) k = callC T F k := Q3 ⟨Qsn, Q1i9, trivial⟩
theorem tu78 : tOk (R := R) 78 aa78 ab78 g78 := by
 intro k x y K
 unfold g78
 rw [Q101]
 cases k with
 | zero => rfl
 | succ k => exact eS Try.f78 an78 0 16 L0 [] (by kernel_rfl) (Q1ey k) (by kernel_rfl) trivial (by kernel_rfl)
noncomputable def s78 := onS (R := R) aa78 ab78 g78 (fun k => callC T F k 78)
theorem Q1ib : sOk (R := R) s78 78 := Q6 (fun _ _ _ _ => rfl) tu78
noncomputable abbrev kt26 : zK0 R := (fun z0 z1 z2 z3 z4 z5 z6 z7 => K [.agg [zi z0, zi z1, .val [] .str z2, .rw 1, zi z3, .nils, zi z4, zi z5], zi z6] [zr0 z7])
abbrev aa26 : List Sh := [zv, .val [] .str, .val [(0, 0)] zT2]
abbrev ab26 : List RSh := []
noncomputable def g26 (k : Nat) (v : Sh.D.DL aa26 × RSh.DL ab26) (K : KT R) : Option R := f26 k v.1.1 v.1.2.1 v.1.2.2.1 (kt26 K)
noncomputable abbrev E26 := ending T Try.f26 an26 0 K
noncomputable def S26 := pickS (R := R) [(78, s78)]
theorem Q1ec : ∀ k, S26 (R := R) k = callC T F k := Q3 ⟨Q1ib, trivial⟩
theorem tu26 : tOk (R := R) 26 aa26 ab26 g26 := by
 intro k x y K
 unfold g26
 rw [Qz4]
 cases k with
 | zero => rfl
 | succ k => exact eS Try.f26 an26 0 27 L0 [] (by kernel_rfl) (Q1ec k) (by kernel_rfl) trivial (by kernel_rfl)
noncomputable def s26 := onS (R := R) aa26 ab26 g26 (fun k => callC T F k 26)
theorem Q1hw : sOk (R := R) s26 26 := Q6 (fun _ _ _ _ => rfl) tu26
noncomputable abbrev kt102 : zK15 R := (fun z0 z1 z2 z3 z4 z5 z6 z7 z8 z9 z10 z11 z12 z13 z14 z15 z16 z17 z18 z19 z20 z21 z22 z23 z24 z25 z26 z27 z28 => K [.val [] .bool z0] [zr12 z1 z2 z3 z4 z5 z6 z7 z8 z9 z10 z11 z12 z13 z14 z15 z16 z17 z18 z19 z20 z21 z22 z23 z24 z25 z26, zr2 z27, zr2 z28])
abbrev aa102 : List Sh := [.ptr 1 0]
abbrev ab102 : List RSh := [zs11, .arr [(0, 0)] zP2, .arr [(0, 0)] zP2]
noncomputable def g102 (k : Nat) (v : Sh.D.DL aa102 × RSh.DL ab102) (K : KT R) : Option R := let u0 := v.2.1.2.2.2.2.2.2.2; let u1 := u0.2.2.2.2.2.2.2; let u2 := u1.2.2.2.2.2.2.2; f102 k v.2.1.1 v.2.1.2.1 v.2.1.2.2.1 v.2.1.2.2.2.1 v.2.1.2.2.2.2.1 v.2.1.2.2.2.2.2.1 v.2.1.2.2.2.2.2.2.1 v.2.1.2.2.2.2.2.2.2.1 u0.2.1 u0.2.2.1 u0.2.2.2.1 u0.2.2.2.2.1 u0.2.2.2.2.2.1 u0.2.2.2.2.2.2.1 u0.2.2.2.2.2.2.2.1 u1.2.1 u1.2.2.1 u1.2.2.2.1 u1.2.2.2.2.1 u1.2.2.2.2.2.1 u1.2.2.2.2.2.2.1 u1.2.2.2.2.2.2.2.1 u2.2.1 u2.2.2.1 u2.2.2.2.2.1 u2.2.2.2.2.2.1 v.2.2.1 v.2.2.2.1 (kt102 K)
noncomputable abbrev E102 := ending T Try.f102 an102 3 K
noncomputable def S102 := pickS (R := R) []
theorem Q1a0 : ∀ k, S102 (R := R) k = callC T F k := Q3 trivial
theorem tu102 : tOk (R := R) 102 aa102 ab102 g102 := by
 intro k x y K
 unfold g102
 rw [Qqj]
 cases k with
 | zero => rfl
 | succ k => exact eS Try.f102 an102 3 45 L0 [] (by kernel_rfl) (Q1a0 k) (by kernel_rfl) trivial (by kernel_rfl)
noncomputable def s102 := onS (R := R) aa102 ab102 g102 (fun k => callC T F k 102)
theorem Q1dc : sOk (R := R) s102 102 := Q6 (fun _ _ _ _ => rfl) tu102
noncomputable abbrev kt126 : zK16 R := (fun z0 z1 z2 z3 z4 z5 z6 z7 z8 z9 z10 z11 z12 z13 z14 z15 z16 z17 z18 z19 z20 z21 z22 z23 z24 z25 z26 z27 z28 z29 z30 => K [.rw 4] [⟨0, .vars [zi z0, zi z1, zi z2, zi z3, zi z4, zi z5, zi z6, .val [] .str z7, .val [(0, 0)] zT2 z8, zi z9, .val [(0, 0)] zT1 z10, zi z11, zi z12, zi z13, zi z14, .val [] .str z15, .val [(0, 0)] zT2 z16, .val [(0, 0)] zT1 z17, zi z18, zi z19, zi z20, zi z21, .val [(0, 0)] zT3 z22, zi z23, .rs 2 z24 z25, .val [(0, 0)] zT3 z26, zi z27, .rw 3]⟩, zr2 z28, zr2 z29, zr3 z30])
abbrev aa126 : List Sh := [.ptr 1 22, zv]
abbrev ab126 : List RSh := [zs11, .arr [(0, 0)] zP2, .arr [(0, 0)] zP2]
noncomputable def g126 (k : Nat) (v : Sh.D.DL aa126 × RSh.DL ab126) (K : KT R) : Option R := let u0 := v.2.1.2.2.2.2.2.2.2; let u1 := u0.2.2.2.2.2.2.2; let u2 := u1.2.2.2.2.2.2.2; f126 k v.1.2.1 v.2.1.1 v.2.1.2.1 v.2.1.2.2.1 v.2.1.2.2.2.1 v.2.1.2.2.2.2.1 v.2.1.2.2.2.2.2.1 v.2.1.2.2.2.2.2.2.1 v.2.1.2.2.2.2.2.2.2.1 u0.2.1 u0.2.2.1 u0.2.2.2.1 u0.2.2.2.2.1 u0.2.2.2.2.2.1 u0.2.2.2.2.2.2.1 u0.2.2.2.2.2.2.2.1 u1.2.1 u1.2.2.1 u1.2.2.2.1 u1.2.2.2.2.1 u1.2.2.2.2.2.1 u1.2.2.2.2.2.2.1 u1.2.2.2.2.2.2.2.1 u2.2.1 u2.2.2.1 u2.2.2.2.2.1 u2.2.2.2.2.2.1 v.2.2.1 v.2.2.2.1 (kt126 K)
noncomputable abbrev E126 := ending T Try.f126 an126 3 K
noncomputable def S126 := pickS (R := R) []
theorem Q1al : ∀ k, S126 (R := R) k = callC T F k := Q3 trivial
noncomputable abbrev Qty : Option R := inner T an126 (Q0 F) 3 k 49 (S126 k) (E126 K) Qf1 (sh Q4s ws rs) N X
abbrev Qw1 : List Sh := [.ptr 1 22, zv, .rw 4, zv]
abbrev Qww : List RSh := [zs11, .arr [(0, 0)] zP2, .arr [(0, 0)] zP2, .arr [(0, 0)] zP0]
noncomputable def Qv5 : Option R :=
 Q4 Qw1 Qww (fun v => let u0 := v.2.1.2.2.2.2.2.2.2; let u1 := u0.2.2.2.2.2.2.2; let u2 := u1.2.2.2.2.2.2.2; Qyp k (fun p0 p29 => N (sh Qb2 [.ptr 1 22, .rw 4, zi p0] [zr12 v.2.1.1 v.2.1.2.1 v.2.1.2.2.1 v.2.1.2.2.2.1 v.2.1.2.2.2.2.1 v.2.1.2.2.2.2.2.1 v.2.1.2.2.2.2.2.2.1 v.2.1.2.2.2.2.2.2.2.1 u0.2.1 u0.2.2.1 u0.2.2.2.1 u0.2.2.2.2.1 u0.2.2.2.2.2.1 u0.2.2.2.2.2.2.1 u0.2.2.2.2.2.2.2.1 u1.2.1 u1.2.2.1 u1.2.2.2.1 u1.2.2.2.2.1 u1.2.2.2.2.2.1 u1.2.2.2.2.2.2.1 u1.2.2.2.2.2.2.2.1 u2.2.1 u2.2.2.1 u2.2.2.2.2.1 u2.2.2.2.2.2.1, zr2 v.2.2.1, zr2 v.2.2.2.1, zr3 p29])) v.1.2.1 v.2.1.1 v.2.1.2.1 v.2.1.2.2.1 v.2.1.2.2.2.1 v.2.1.2.2.2.2.1 v.2.1.2.2.2.2.2.1 v.2.1.2.2.2.2.2.2.1 v.2.1.2.2.2.2.2.2.2.1 u0.2.1 u0.2.2.1 u0.2.2.2.1 u0.2.2.2.2.1 u0.2.2.2.2.2.1 u0.2.2.2.2.2.2.1 u0.2.2.2.2.2.2.2.1 u1.2.1 u1.2.2.1 u1.2.2.2.1 u1.2.2.2.2.1 u1.2.2.2.2.2.1 u1.2.2.2.2.2.2.1 u1.2.2.2.2.2.2.2.1 u2.2.1 u2.2.2.1 u2.2.2.2.2.1 u2.2.2.2.2.2.1 v.2.2.1 v.2.2.2.1 k v.1.2.2.2.1 v.2.2.2.2.1) (Qty k K ws rs N X) ws rs
noncomputable def L126 : Option R := bif id == 0 then Qv5 k K ws rs N X else none
theorem Q1gj (c0 c2 c3 c4 c5 c6 c7 c8 : Int) (c9 : ByteArray) (c10 : List Int) (c11 : Int) (c12 : zL5) (c13 c14 c15 c16 : Int) (c17 : ByteArray) (c18 : List Int) (c19 : zL5) (c20 c21 c22 c23 : Int) (c24 : List Bool) (c25 : Int) (c26 : List Bool) (c27 : Int) (c28 c29 : zL1) (m : Nat) : ∀ (c1 : Int) (c30 : zL3),
  iter (atHead an126 3 Q3u) m (fun st N' => exec T an126 (Q0 F) 3 k 49 (S126 k) (E126 K) Q3u st N' (outX an126 3 0 N X)) (sh Q4s [.ptr 1 22, zi c0, .rw 4, zi c1] [zr12 c2 c3 c4 c5 c6 c7 c8 c9 c10 c11 c12 c13 c14 c15 c16 c17 c18 c19 c20 c21 c22 c23 c24 c25 c26 c27, zr2 c28, zr2 c29, zr3 c30]) = Q4f k (fun p0 p29 => N (sh Qb2 [.ptr 1 22, .rw 4, zi p0] [zr12 c2 c3 c4 c5 c6 c7 c8 c9 c10 c11 c12 c13 c14 c15 c16 c17 c18 c19 c20 c21 c22 c23 c24 c25 c26 c27, zr2 c28, zr2 c29, zr3 p29])) c0 c2 c3 c4 c5 c6 c7 c8 c9 c10 c11 c12 c13 c14 c15 c16 c17 c18 c19 c20 c21 c22 c23 c24 c25 c26 c27 c28 c29 m c1 c30 := by
 induction m with
 | zero => intros; rfl
 | succ m ih =>
   intro c1 c30
   simp only [iter]
   rw [← Q9 T an126 (Q0 F) 3 k 49 (S126 k) (L126 k K) Q3u (Qc _ _ _ _ _ _ _ _ Q3u (l := []) (by kernel_rfl) trivial)]
   have h := fx2 ih
   simp only [Q4f]
   rw [← h]
   show _ = _
   kernel_rfl
theorem Q1hi : L126 k K 0 ws rs N X = Qty k K ws rs N X := by
 show Qv5 k K ws rs N X = _
 unfold Qv5
 rw [Qdf]
 exact Q5 (a := Qw1) (b := Qww) (G := fun ws rs => Qty k K ws rs N X) (fun x y => Eq.trans (by kernel_rfl) (Eq.trans (Q1gj k K N X x.2.1 y.1.1 y.1.2.1 y.1.2.2.1 y.1.2.2.2.1 y.1.2.2.2.2.1 y.1.2.2.2.2.2.1 y.1.2.2.2.2.2.2.1 y.1.2.2.2.2.2.2.2.1 y.1.2.2.2.2.2.2.2.2.1 y.1.2.2.2.2.2.2.2.2.2.1 y.1.2.2.2.2.2.2.2.2.2.2.1 y.1.2.2.2.2.2.2.2.2.2.2.2.1 y.1.2.2.2.2.2.2.2.2.2.2.2.2.1 y.1.2.2.2.2.2.2.2.2.2.2.2.2.2.1 y.1.2.2.2.2.2.2.2.2.2.2.2.2.2.2.1 y.1.2.2.2.2.2.2.2.2.2.2.2.2.2.2.2.1 y.1.2.2.2.2.2.2.2.2.2.2.2.2.2.2.2.2.1 y.1.2.2.2.2.2.2.2.2.2.2.2.2.2.2.2.2.2.1 y.1.2.2.2.2.2.2.2.2.2.2.2.2.2.2.2.2.2.2.1 y.1.2.2.2.2.2.2.2.2.2.2.2.2.2.2.2.2.2.2.2.1 y.1.2.2.2.2.2.2.2.2.2.2.2.2.2.2.2.2.2.2.2.2.1 y.1.2.2.2.2.2.2.2.2.2.2.2.2.2.2.2.2.2.2.2.2.2.1 y.1.2.2.2.2.2.2.2.2.2.2.2.2.2.2.2.2.2.2.2.2.2.2.1 y.1.2.2.2.2.2.2.2.2.2.2.2.2.2.2.2.2.2.2.2.2.2.2.2.1 y.1.2.2.2.2.2.2.2.2.2.2.2.2.2.2.2.2.2.2.2.2.2.2.2.2.2.1 y.1.2.2.2.2.2.2.2.2.2.2.2.2.2.2.2.2.2.2.2.2.2.2.2.2.2.2.1 y.2.1 y.2.2.1 k x.2.2.2.1 y.2.2.2.1).symm (by kernel_rfl))) ws rs
theorem tu126 : tOk (R := R) 126 aa126 ab126 g126 := by
 intro k x y K
 unfold g126
 rw [Qr3]
 cases k with
 | zero => rfl
 | succ k => exact eS Try.f126 an126 3 49 (L126 k K) [(0, Q4s, Qf1)] (by kernel_rfl) (Q1al k) (by kernel_rfl) ⟨Q1hi k K, trivial⟩ (by kernel_rfl)
noncomputable def s126 := onS (R := R) aa126 ab126 g126 (fun k => callC T F k 126)
theorem Q1dr : sOk (R := R) s126 126 := Q6 (fun _ _ _ _ => rfl) tu126
noncomputable abbrev Q1c3 : zK17 R := (fun z0 z1 z2 z3 z4 z5 z6 z7 z8 z9 z10 z11 z12 z13 z14 z15 z16 z17 z18 z19 z20 z21 z22 z23 z24 z25 z26 z27 z28 z29 z30 z31 z32 => K [.rw 4] [⟨0, .vars [zi z0, zi z1, zi z2, zi z3, zi z4, zi z5, zi z6, .val [] .str z7, .val [(0, 0)] zT2 z8, zi z9, .val [(0, 0)] zT1 z10, zi z11, zi z12, zi z13, zi z14, .val [] .str z15, .val [(0, 0)] zT2 z16, .val [(0, 0)] zT1 z17, zi z18, zi z19, zi z20, zi z21, .val [(0, 0)] zT3 z22, zi z23, .rs 2 z24 z25, .val [(0, 0)] zT3 z26, zi z27, .rs 3 z28 z29]⟩, zr2 z30, zr2 z31, zr3 z32])
abbrev Qlp : List Sh := [.ptr 1 25, zv]
abbrev Qlv : List RSh := [.vars [zv, zv, zv, zv, zv, zv, zv, .val [] .str, .val [(0, 0)] zT2, zv, .val [(0, 0)] zT1, zv, zv, zv, zv, .val [] .str, .val [(0, 0)] zT2, .val [(0, 0)] zT1, zv, zv, zv, zv, .val [(0, 0)] zT3, zv, .rs 2, .val [(0, 0)] zT3, zv, .rw 3], .arr [(0, 0)] zP2, .arr [(0, 0)] zP2]
noncomputable def g126v1 (k : Nat) (v : Sh.D.DL Qlp × RSh.DL Qlv) (K : KT R) : Option R := let u0 := v.2.1.2.2.2.2.2.2.2; let u1 := u0.2.2.2.2.2.2.2; let u2 := u1.2.2.2.2.2.2.2; f126v1 k v.1.2.1 v.2.1.1 v.2.1.2.1 v.2.1.2.2.1 v.2.1.2.2.2.1 v.2.1.2.2.2.2.1 v.2.1.2.2.2.2.2.1 v.2.1.2.2.2.2.2.2.1 v.2.1.2.2.2.2.2.2.2.1 u0.2.1 u0.2.2.1 u0.2.2.2.1 u0.2.2.2.2.1 u0.2.2.2.2.2.1 u0.2.2.2.2.2.2.1 u0.2.2.2.2.2.2.2.1 u1.2.1 u1.2.2.1 u1.2.2.2.1 u1.2.2.2.2.1 u1.2.2.2.2.2.1 u1.2.2.2.2.2.2.1 u1.2.2.2.2.2.2.2.1 u2.2.1 u2.2.2.1 u2.2.2.2.1.1 u2.2.2.2.1.2 u2.2.2.2.2.1 u2.2.2.2.2.2.1 v.2.2.1 v.2.2.2.1 (Q1c3 K)
noncomputable abbrev E126v1 := ending T Try.f126 an126 3 K
noncomputable def S126v1 := pickS (R := R) []
theorem Qv9 : ∀ k, S126v1 (R := R) k = callC T F k := Q3 trivial
noncomputable abbrev Qdx : Option R := inner T an126 (Q0 F) 3 k 49 (S126v1 k) (E126v1 K) Qf1 (sh Q4s ws rs) N X
abbrev Qi1 : List Sh := [.ptr 1 25, zv, .rw 4, zv]
abbrev Qi5 : List RSh := [.vars [zv, zv, zv, zv, zv, zv, zv, .val [] .str, .val [(0, 0)] zT2, zv, .val [(0, 0)] zT1, zv, zv, zv, zv, .val [] .str, .val [(0, 0)] zT2, .val [(0, 0)] zT1, zv, zv, zv, zv, .val [(0, 0)] zT3, zv, .rs 2, .val [(0, 0)] zT3, zv, .rw 3], .arr [(0, 0)] zP2, .arr [(0, 0)] zP2, .arr [(0, 0)] zP0]
noncomputable def Qef : Option R :=
 Q4 Qi1 Qi5 (fun v => let u0 := v.2.1.2.2.2.2.2.2.2; let u1 := u0.2.2.2.2.2.2.2; let u2 := u1.2.2.2.2.2.2.2; Qfk k (fun p0 p31 => N (sh Qb2 [.ptr 1 25, .rw 4, zi p0] [⟨0, .vars [zi v.2.1.1, zi v.2.1.2.1, zi v.2.1.2.2.1, zi v.2.1.2.2.2.1, zi v.2.1.2.2.2.2.1, zi v.2.1.2.2.2.2.2.1, zi v.2.1.2.2.2.2.2.2.1, .val [] .str v.2.1.2.2.2.2.2.2.2.1, .val [(0, 0)] zT2 u0.2.1, zi u0.2.2.1, .val [(0, 0)] zT1 u0.2.2.2.1, zi u0.2.2.2.2.1, zi u0.2.2.2.2.2.1, zi u0.2.2.2.2.2.2.1, zi u0.2.2.2.2.2.2.2.1, .val [] .str u1.2.1, .val [(0, 0)] zT2 u1.2.2.1, .val [(0, 0)] zT1 u1.2.2.2.1, zi u1.2.2.2.2.1, zi u1.2.2.2.2.2.1, zi u1.2.2.2.2.2.2.1, zi u1.2.2.2.2.2.2.2.1, .val [(0, 0)] zT3 u2.2.1, zi u2.2.2.1, .rs 2 u2.2.2.2.1.1 u2.2.2.2.1.2, .val [(0, 0)] zT3 u2.2.2.2.2.1, zi u2.2.2.2.2.2.1, .rw 3]⟩, zr2 v.2.2.1, zr2 v.2.2.2.1, zr3 p31])) v.1.2.1 v.2.1.1 v.2.1.2.1 v.2.1.2.2.1 v.2.1.2.2.2.1 v.2.1.2.2.2.2.1 v.2.1.2.2.2.2.2.1 v.2.1.2.2.2.2.2.2.1 v.2.1.2.2.2.2.2.2.2.1 u0.2.1 u0.2.2.1 u0.2.2.2.1 u0.2.2.2.2.1 u0.2.2.2.2.2.1 u0.2.2.2.2.2.2.1 u0.2.2.2.2.2.2.2.1 u1.2.1 u1.2.2.1 u1.2.2.2.1 u1.2.2.2.2.1 u1.2.2.2.2.2.1 u1.2.2.2.2.2.2.1 u1.2.2.2.2.2.2.2.1 u2.2.1 u2.2.2.1 u2.2.2.2.1.1 u2.2.2.2.1.2 u2.2.2.2.2.1 u2.2.2.2.2.2.1 v.2.2.1 v.2.2.2.1 k v.1.2.2.2.1 v.2.2.2.2.1) (Qdx k K ws rs N X) ws rs
noncomputable def L126v1 : Option R := bif id == 0 then Qef k K ws rs N X else none
theorem Q160 (c0 c2 c3 c4 c5 c6 c7 c8 : Int) (c9 : ByteArray) (c10 : List Int) (c11 : Int) (c12 : zL5) (c13 c14 c15 c16 : Int) (c17 : ByteArray) (c18 : List Int) (c19 : zL5) (c20 c21 c22 c23 : Int) (c24 : List Bool) (c25 : Int) (c26 c27 : Nat) (c28 : List Bool) (c29 : Int) (c30 c31 : zL1) (m : Nat) : ∀ (c1 : Int) (c32 : zL3),
  iter (atHead an126 3 Q3u) m (fun st N' => exec T an126 (Q0 F) 3 k 49 (S126v1 k) (E126v1 K) Q3u st N' (outX an126 3 0 N X)) (sh Q4s [.ptr 1 25, zi c0, .rw 4, zi c1] [⟨0, .vars [zi c2, zi c3, zi c4, zi c5, zi c6, zi c7, zi c8, .val [] .str c9, .val [(0, 0)] zT2 c10, zi c11, .val [(0, 0)] zT1 c12, zi c13, zi c14, zi c15, zi c16, .val [] .str c17, .val [(0, 0)] zT2 c18, .val [(0, 0)] zT1 c19, zi c20, zi c21, zi c22, zi c23, .val [(0, 0)] zT3 c24, zi c25, .rs 2 c26 c27, .val [(0, 0)] zT3 c28, zi c29, .rw 3]⟩, zr2 c30, zr2 c31, zr3 c32]) = Q27 k (fun p0 p31 => N (sh Qb2 [.ptr 1 25, .rw 4, zi p0] [⟨0, .vars [zi c2, zi c3, zi c4, zi c5, zi c6, zi c7, zi c8, .val [] .str c9, .val [(0, 0)] zT2 c10, zi c11, .val [(0, 0)] zT1 c12, zi c13, zi c14, zi c15, zi c16, .val [] .str c17, .val [(0, 0)] zT2 c18, .val [(0, 0)] zT1 c19, zi c20, zi c21, zi c22, zi c23, .val [(0, 0)] zT3 c24, zi c25, .rs 2 c26 c27, .val [(0, 0)] zT3 c28, zi c29, .rw 3]⟩, zr2 c30, zr2 c31, zr3 p31])) c0 c2 c3 c4 c5 c6 c7 c8 c9 c10 c11 c12 c13 c14 c15 c16 c17 c18 c19 c20 c21 c22 c23 c24 c25 c26 c27 c28 c29 c30 c31 m c1 c32 := by
 induction m with
 | zero => intros; rfl
 | succ m ih =>
   intro c1 c32
   simp only [iter]
   rw [← Q9 T an126 (Q0 F) 3 k 49 (S126v1 k) (L126v1 k K) Q3u (Qc _ _ _ _ _ _ _ _ Q3u (l := []) (by kernel_rfl) trivial)]
   have h := fx2 ih
   simp only [Q27]
   rw [← h]
   show _ = _
   kernel_rfl
theorem Q16l : L126v1 k K 0 ws rs N X = Qdx k K ws rs N X := by
 show Qef k K ws rs N X = _
 unfold Qef
 rw [Q83]
 exact Q5 (a := Qi1) (b := Qi5) (G := fun ws rs => Qdx k K ws rs N X) (fun x y => Eq.trans (by kernel_rfl) (Eq.trans (Q160 k K N X x.2.1 y.1.1 y.1.2.1 y.1.2.2.1 y.1.2.2.2.1 y.1.2.2.2.2.1 y.1.2.2.2.2.2.1 y.1.2.2.2.2.2.2.1 y.1.2.2.2.2.2.2.2.1 y.1.2.2.2.2.2.2.2.2.1 y.1.2.2.2.2.2.2.2.2.2.1 y.1.2.2.2.2.2.2.2.2.2.2.1 y.1.2.2.2.2.2.2.2.2.2.2.2.1 y.1.2.2.2.2.2.2.2.2.2.2.2.2.1 y.1.2.2.2.2.2.2.2.2.2.2.2.2.2.1 y.1.2.2.2.2.2.2.2.2.2.2.2.2.2.2.1 y.1.2.2.2.2.2.2.2.2.2.2.2.2.2.2.2.1 y.1.2.2.2.2.2.2.2.2.2.2.2.2.2.2.2.2.1 y.1.2.2.2.2.2.2.2.2.2.2.2.2.2.2.2.2.2.1 y.1.2.2.2.2.2.2.2.2.2.2.2.2.2.2.2.2.2.2.1 y.1.2.2.2.2.2.2.2.2.2.2.2.2.2.2.2.2.2.2.2.1 y.1.2.2.2.2.2.2.2.2.2.2.2.2.2.2.2.2.2.2.2.2.1 y.1.2.2.2.2.2.2.2.2.2.2.2.2.2.2.2.2.2.2.2.2.2.1 y.1.2.2.2.2.2.2.2.2.2.2.2.2.2.2.2.2.2.2.2.2.2.2.1 y.1.2.2.2.2.2.2.2.2.2.2.2.2.2.2.2.2.2.2.2.2.2.2.2.1 y.1.2.2.2.2.2.2.2.2.2.2.2.2.2.2.2.2.2.2.2.2.2.2.2.2.1.1 y.1.2.2.2.2.2.2.2.2.2.2.2.2.2.2.2.2.2.2.2.2.2.2.2.2.1.2 y.1.2.2.2.2.2.2.2.2.2.2.2.2.2.2.2.2.2.2.2.2.2.2.2.2.2.1 y.1.2.2.2.2.2.2.2.2.2.2.2.2.2.2.2.2.2.2.2.2.2.2.2.2.2.2.1 y.2.1 y.2.2.1 k x.2.2.2.1 y.2.2.2.1).symm (by kernel_rfl))) ws rs
theorem Q1e1 : tOk (R := R) 126 Qlp Qlv g126v1 := by
 intro k x y K
 unfold g126v1
 rw [Qdg]
 cases k with
 | zero => rfl
 | succ k => exact eS Try.f126 an126 3 49 (L126v1 k K) [(0, Q4s, Qf1)] (by kernel_rfl) (Qv9 k) (by kernel_rfl) ⟨Q16l k K, trivial⟩ (by kernel_rfl)
noncomputable def s126v1 := onS (R := R) Qlp Qlv g126v1 s126
theorem Q131 : sOk (R := R) s126v1 126 := Q6 Q1dr Q1e1
end Go.Proofs.Ytlcklflbhhnnhaa.PM
