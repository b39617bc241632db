/- The small machine's run is the typed form (printed by a program of this work). -/
import Derived.Test.YtlcklflbhhnnhaaPW1
set_option linter.unusedVariables false
set_option linter.unusedSimpArgs false
set_option maxRecDepth 100000
namespace Go.Proofs.Ytlcklflbhhnnhaa.PM
open Go
variable {R : Type} (k : Nat) (K : KT R) (id : Nat) (ws : List PV) (rs : List RowS) (N : St → Option R) (X : Nat → St → Option R)
noncomputable abbrev kt121 : Bool → Option R := (fun z0 => K [.val [] .bool z0] [])
abbrev aa121 : List Sh := [.agg [zv, zv, .val [] .str, .val [(0, 0)] zT2, .val [(0, 0)] zT1, zv, zv, zv, zv], .agg [zv, zv, .val [] .str, zv, zv, zv, .val [(0, 0)] zT2, .val [(0, 0)] zT1, .val [] .bool]]
abbrev ab121 : List RSh := []
noncomputable def g121 (k : Nat) (v : Sh.D.DL aa121 × RSh.DL ab121) (K : KT R) : Option R := let u0 := v.1.1.2.2.2.2.2.2.2; let u1 := v.1.2.1.2.2.2.2.2.2.2; f121 k v.1.1.1 v.1.1.2.1 v.1.1.2.2.1 v.1.1.2.2.2.1 v.1.1.2.2.2.2.1 v.1.1.2.2.2.2.2.1 v.1.1.2.2.2.2.2.2.1 v.1.1.2.2.2.2.2.2.2.1 u0.2.1 v.1.2.1.1 v.1.2.1.2.1 v.1.2.1.2.2.1 v.1.2.1.2.2.2.1 v.1.2.1.2.2.2.2.1 v.1.2.1.2.2.2.2.2.1 v.1.2.1.2.2.2.2.2.2.1 v.1.2.1.2.2.2.2.2.2.2.1 u1.2.1 (kt121 K)
noncomputable abbrev E121 := ending T Try.f121 an121 0 K
noncomputable def S121 := pickS (R := R) []
theorem Q1ag : ∀ k, S121 (R := R) k = callC T F k := Q3 trivial
noncomputable abbrev Qok : Option R := inner T an121 (Q0 F) 0 k 66 (S121 k) (E121 K) Qio (sh Qcc ws rs) N X
abbrev Qvs : List Sh := [.ptr 1 0, .ptr 2 0, zv, .val [] .bool]
abbrev Qwn : List RSh := [zs6, zs4]
noncomputable def Qe8 : Option R :=
 Q4 Qvs Qwn (fun v => let u0 := v.2.1.2.2.2.2.2.2.2; let u1 := v.2.2.1.2.2.2.2.2.2.2; Qfe k (fun p1 => N (sh Q10s [.ptr 1 0, .ptr 2 0, zi v.1.2.2.1, .val [] .bool p1] [zr8 v.2.1.1 v.2.1.2.1 v.2.1.2.2.1 v.2.1.2.2.2.1 v.2.1.2.2.2.2.1 v.2.1.2.2.2.2.2.1 v.2.1.2.2.2.2.2.2.1 v.2.1.2.2.2.2.2.2.2.1 u0.2.1, zr6 v.2.2.1.1 v.2.2.1.2.1 v.2.2.1.2.2.1 v.2.2.1.2.2.2.1 v.2.2.1.2.2.2.2.1 v.2.2.1.2.2.2.2.2.1 v.2.2.1.2.2.2.2.2.2.1 v.2.2.1.2.2.2.2.2.2.2.1 u1.2.1])) v.1.2.2.1 v.1.2.2.2.1) (Qok k K ws rs N X) ws rs
noncomputable def L121 : Option R := bif id == 1000003 then Qe8 k K ws rs N X else none
theorem Q16e : L121 k K 1000003 ws rs N X = Qok k K ws rs N X := by
 show Qe8 k K ws rs N X = _
 unfold Qe8
 rw [Q7x]
 exact lC (L121 k K) [] (by kernel_rfl) trivial fun x y => by kernel_rfl
theorem tu121 : tOk (R := R) 121 aa121 ab121 g121 := by
 intro k x y K
 unfold g121
 rw [Qqy]
 cases k with
 | zero => rfl
 | succ k => exact eS Try.f121 an121 0 66 (L121 k K) [(1000003, Qcc, Qio)] (by kernel_rfl) (Q1ag k) (by kernel_rfl) ⟨Q16e k K, trivial⟩ (by kernel_rfl)
noncomputable def s121 := onS (R := R) aa121 ab121 g121 (fun k => callC T F k 121)
theorem Q1dm : sOk (R := R) s121 121 := Q6 (fun _ _ _ _ => rfl) tu121
noncomputable abbrev kt97 : Bool → Option R := (fun z0 => K [.val [] .bool z0] [])
abbrev aa97 : List Sh := [.val [(0, 0)] zT1, zv]
abbrev ab97 : List RSh := []
noncomputable def g97 (k : Nat) (v : Sh.D.DL aa97 × RSh.DL ab97) (K : KT R) : Option R := f97 k v.1.1 v.1.2.1 (kt97 K)
noncomputable abbrev E97 := ending T Try.f97 an97 0 K
noncomputable def S97 := pickS (R := R) []
theorem Q1fc : ∀ k, S97 (R := R) k = callC T F k := Q3 trivial
noncomputable abbrev I97_0 : Option R := inner T an97 (Q0 F) 0 k 28 (S97 k) (E97 K) Q194 (sh Qkl ws rs) N X
abbrev Q184 : List Sh := [.val [(0, 0)] zT1, zv, zv]
abbrev Q18l : List RSh := []
noncomputable def L97_0 : Option R :=
 Q4 Q184 Q18l (fun v => f97_0 k (kt97 K) (N (sh Q12b [] [])) v.1.1 v.1.2.1 k v.1.2.2.1) (I97_0 k K ws rs N X) ws rs
noncomputable def L97 : Option R := bif id == 0 then L97_0 k K ws rs N X else none
theorem i97_0 (c0 : zL5) (c1 : Int) (m : Nat) : ∀ (c2 : Int),
  iter (atHead an97 0 Qpc) m (fun st N' => exec T an97 (Q0 F) 0 k 28 (S97 k) (E97 K) Qpc st N' (outX an97 0 0 N X)) (sh Qkl [.val [(0, 0)] zT1 c0, zi c1, zi c2] []) = Q8l k (kt97 K) (N (sh Q12b [] [])) c0 c1 m c2 := by
 induction m with
 | zero => intros; rfl
 | succ m ih =>
   intro c2
   simp only [iter]
   rw [← Q9 T an97 (Q0 F) 0 k 28 (S97 k) (L97 k K) Qpc (Qc _ _ _ _ _ _ _ _ Qpc (l := []) (by kernel_rfl) trivial)]
   have h := fx1 ih
   simp only [Q8l]
   rw [← h]
   show _ = _
   kernel_rfl
theorem l97_0 : L97 k K 0 ws rs N X = I97_0 k K ws rs N X := by
 show L97_0 k K ws rs N X = _
 unfold L97_0
 rw [Qjh]
 exact Q5 (a := Q184) (b := Q18l) (G := fun ws rs => I97_0 k K ws rs N X) (fun x y => Eq.trans (by kernel_rfl) (Eq.trans (i97_0 k K N X x.1 x.2.1 k x.2.2.1).symm (by kernel_rfl))) ws rs
theorem tu97 : tOk (R := R) 97 aa97 ab97 g97 := by
 intro k x y K
 unfold g97
 rw [Q10m]
 cases k with
 | zero => rfl
 | succ k => exact eS Try.f97 an97 0 28 (L97 k K) [(0, Qkl, Q194)] (by kernel_rfl) (Q1fc k) (by kernel_rfl) ⟨l97_0 k K, trivial⟩ (by kernel_rfl)
noncomputable def s97 := onS (R := R) aa97 ab97 g97 (fun k => callC T F k 97)
theorem Q1il : sOk (R := R) s97 97 := Q6 (fun _ _ _ _ => rfl) tu97
noncomputable abbrev kt89 : zL6 → Option R := (fun z0 => K [.rw 1] [zr4 z0])
abbrev aa89 : List Sh := [.val [(0, 0)] zT1, .val [(0, 0)] zT1]
abbrev ab89 : List RSh := []
noncomputable def g89 (k : Nat) (v : Sh.D.DL aa89 × RSh.DL ab89) (K : KT R) : Option R := f89 k v.1.1 v.1.2.1 (kt89 K)
noncomputable abbrev E89 := ending T Try.f89 an89 0 K
noncomputable def S89 := pickS (R := R) []
theorem Q1f6 : ∀ k, S89 (R := R) k = callC T F k := Q3 trivial
noncomputable abbrev Qu7 : Option R := inner T an89 (Q0 F) 0 k 89 (S89 k) (E89 K) Qpm (sh Qh8 ws rs) N X
abbrev Q13y : List Sh := [.val [(0, 0)] zT1, .val [(0, 0)] zT1, .rw 1, zv, zv, .ptr 2 0, .val [] .bool]
abbrev Q14r : List RSh := [.arr [] zP1, zs2]
noncomputable def Ql0 : Option R :=
 Q4 Q13y Q14r (fun v => Q4i k (fun p2 p3 p5 p6 => N (sh Q19f [.val [(0, 0)] zT1 v.1.1, .val [(0, 0)] zT1 v.1.2.1, .rw 1, zi p2, zi p3, .ptr 2 0] [zr4 v.2.1, ⟨0, .vars [zi p5, zi p6]⟩])) v.1.1 v.1.2.1 v.1.2.2.2.1 v.1.2.2.2.2.1 v.1.2.2.2.2.2.2.1) (Qu7 k K ws rs N X) ws rs
noncomputable abbrev Qu8 : Option R := inner T an89 (Q0 F) 0 k 89 (S89 k) (E89 K) Qpn (sh Qh9 ws rs) N X
abbrev Q13z : List Sh := [.val [(0, 0)] zT1, .val [(0, 0)] zT1, .rw 1, zv, zv, .ptr 2 0, zv, .val [] .bool]
abbrev Q14s : List RSh := [.arr [] zP1, zs2]
noncomputable def Ql1 : Option R :=
 Q4 Q13z Q14s (fun v => Q1n k (fun p4 => N (sh Q110 [.val [(0, 0)] zT1 v.1.1, .val [(0, 0)] zT1 v.1.2.1, .rw 1, zi v.1.2.2.2.1, zi v.1.2.2.2.2.1] [zr4 p4])) v.1.2.2.2.2.2.2.1 v.1.2.2.2.2.2.2.2.1 v.2.1 v.2.2.1.1 v.2.2.1.2.1) (Qu8 k K ws rs N X) ws rs
noncomputable abbrev I89_0 : Option R := inner T an89 (Q0 F) 0 k 89 (S89 k) (E89 K) Q192 (sh Qkj ws rs) N X
abbrev Q182 : List Sh := [.val [(0, 0)] zT1, .val [(0, 0)] zT1, .rw 1, zv, zv]
abbrev Q18j : List RSh := [.arr [] zP1]
noncomputable def L89_0 : Option R :=
 Q4 Q182 Q18j (fun v => f89_0 k (fun p0 => N (sh Q129 [.rw 1] [zr4 p0])) v.1.1 v.1.2.1 k v.1.2.2.2.1 v.1.2.2.2.2.1 v.2.1) (I89_0 k K ws rs N X) ws rs
noncomputable def L89 : Option R := bif id == 1000006 then Ql0 k K ws rs N X else bif id == 1000012 then Ql1 k K ws rs N X else bif id == 0 then L89_0 k K ws rs N X else none
theorem Q1cc : L89 k K 1000006 ws rs N X = Qu7 k K ws rs N X := by
 show Ql0 k K ws rs N X = _
 unfold Ql0
 rw [Q3g]
 exact lC (L89 k K) [] (by kernel_rfl) trivial fun x y => by kernel_rfl
theorem Q1cd : L89 k K 1000012 ws rs N X = Qu8 k K ws rs N X := by
 show Ql1 k K ws rs N X = _
 unfold Ql1
 rw [Q3h]
 exact lC (L89 k K) [] (by kernel_rfl) trivial fun x y => by kernel_rfl
theorem i89_0 (c0 c1 : zL5) (m : Nat) : ∀ (c2 c3 : Int) (c4 : zL6),
  iter (atHead an89 0 Qpa) m (fun st N' => exec T an89 (Q0 F) 0 k 89 (S89 k) (E89 K) Qpa st N' (outX an89 0 0 N X)) (sh Qkj [.val [(0, 0)] zT1 c0, .val [(0, 0)] zT1 c1, .rw 1, zi c2, zi c3] [zr4 c4]) = Q2c k (fun p0 => N (sh Q129 [.rw 1] [zr4 p0])) c0 c1 m c2 c3 c4 := by
 induction m with
 | zero => intros; rfl
 | succ m ih =>
   intro c2 c3 c4
   simp only [iter]
   rw [← Q9 T an89 (Q0 F) 0 k 89 (S89 k) (L89 k K) Qpa (Qc _ _ _ _ _ _ _ _ Qpa (l := [(1000006, Qh8, Qpm), (1000012, Qh9, Qpn)]) (by kernel_rfl) ⟨Q1cc k K, Q1cd k K, trivial⟩)]
   have h := fx3 ih
   simp only [Q2c]
   rw [← h]
   show _ = _
   kernel_rfl
theorem l89_0 : L89 k K 0 ws rs N X = I89_0 k K ws rs N X := by
 show L89_0 k K ws rs N X = _
 unfold L89_0
 rw [Qje]
 exact Q5 (a := Q182) (b := Q18j) (G := fun ws rs => I89_0 k K ws rs N X) (fun x y => Eq.trans (by kernel_rfl) (Eq.trans (i89_0 k K N X x.1 x.2.1 k x.2.2.2.1 x.2.2.2.2.1 y.1).symm (by kernel_rfl))) ws rs
theorem tu89 : tOk (R := R) 89 aa89 ab89 g89 := by
 intro k x y K
 unfold g89
 rw [Q10e]
 cases k with
 | zero => rfl
 | succ k => exact eS Try.f89 an89 0 89 (L89 k K) [(0, Qkj, Q192)] (by kernel_rfl) (Q1f6 k) (by kernel_rfl) ⟨l89_0 k K, trivial⟩ (by kernel_rfl)
noncomputable def s89 := onS (R := R) aa89 ab89 g89 (fun k => callC T F k 89)
theorem Q19v : sOk (R := R) s89 89 := Q6 (fun _ _ _ _ => rfl) tu89
noncomputable abbrev kt122 : zK18 R := (fun z0 z1 z2 z3 z4 z5 z6 z7 z8 => K [] [⟨0, .vars [zi z0, zi z1, .val [] .str z2, .rw 2, .rw 3, zi z3, zi z4, zi z5, zi z6]⟩, zr0 z7, zr4 z8])
abbrev aa122 : List Sh := [.ptr 1 0, .agg [zv, zv, .val [] .str, zv, zv, zv, .val [(0, 0)] zT2, .val [(0, 0)] zT1, .val [] .bool]]
abbrev ab122 : List RSh := [zs6]
noncomputable def g122 (k : Nat) (v : Sh.D.DL aa122 × RSh.DL ab122) (K : KT R) : Option R := let u0 := v.1.2.1.2.2.2.2.2.2.2; let u1 := v.2.1.2.2.2.2.2.2.2; f122 k v.1.2.1.1 v.1.2.1.2.1 v.1.2.1.2.2.1 v.1.2.1.2.2.2.1 v.1.2.1.2.2.2.2.1 v.1.2.1.2.2.2.2.2.1 v.1.2.1.2.2.2.2.2.2.1 v.1.2.1.2.2.2.2.2.2.2.1 u0.2.1 v.2.1.1 v.2.1.2.1 v.2.1.2.2.1 v.2.1.2.2.2.1 v.2.1.2.2.2.2.1 v.2.1.2.2.2.2.2.1 v.2.1.2.2.2.2.2.2.1 v.2.1.2.2.2.2.2.2.2.1 u1.2.1 (kt122 K)
noncomputable abbrev E122 := ending T Try.f122 an122 1 K
noncomputable def S122 := pickS (R := R) [(89, s89), (97, s97)]
theorem Q1ah : ∀ k, S122 (R := R) k = callC T F k := Q3 ⟨Q19v, Q1il, trivial⟩
noncomputable abbrev Qtu : Option R := inner T an122 (Q0 F) 1 k 73 (S122 k) (E122 K) Qxj (sh Qcd ws rs) N X
abbrev Qvt : List Sh := [.ptr 1 0, .ptr 2 0, zv, .rw 3]
abbrev Qwo : List RSh := [zs6, zs4, .arr [] (.int .u8)]
noncomputable def Qv1 : Option R :=
 Q4 Qvt Qwo (fun v => let u0 := v.2.1.2.2.2.2.2.2.2; let u1 := v.2.2.1.2.2.2.2.2.2.2; Qyg k (fun p19 => N (sh Qnm [.ptr 1 0, .ptr 2 0, zi v.1.2.2.1, .rw 3] [zr8 v.2.1.1 v.2.1.2.1 v.2.1.2.2.1 v.2.1.2.2.2.1 v.2.1.2.2.2.2.1 v.2.1.2.2.2.2.2.1 v.2.1.2.2.2.2.2.2.1 v.2.1.2.2.2.2.2.2.2.1 u0.2.1, zr6 v.2.2.1.1 v.2.2.1.2.1 v.2.2.1.2.2.1 v.2.2.1.2.2.2.1 v.2.2.1.2.2.2.2.1 v.2.2.1.2.2.2.2.2.1 v.2.2.1.2.2.2.2.2.2.1 v.2.2.1.2.2.2.2.2.2.2.1 u1.2.1, zr0 p19])) v.1.2.2.1 v.2.1.1 v.2.1.2.1 v.2.1.2.2.1 v.2.1.2.2.2.1 v.2.1.2.2.2.2.1 v.2.1.2.2.2.2.2.1 v.2.1.2.2.2.2.2.2.1 v.2.1.2.2.2.2.2.2.2.1 u0.2.1 v.2.2.1.1 v.2.2.1.2.1 v.2.2.1.2.2.1 v.2.2.1.2.2.2.1 v.2.2.1.2.2.2.2.1 v.2.2.1.2.2.2.2.2.1 v.2.2.1.2.2.2.2.2.2.1 v.2.2.1.2.2.2.2.2.2.2.1 u1.2.1 k v.2.2.2.1) (Qtu k K ws rs N X) ws rs
noncomputable abbrev Qol : Option R := inner T an122 (Q0 F) 1 k 73 (S122 k) (E122 K) Qip (sh Qcf ws rs) N X
abbrev Qvv : List Sh := [.ptr 1 0, .ptr 2 0, zv, .rw 3, .val [] .bool, zv, .val [] .bool]
abbrev Qwq : List RSh := [zs6, zs4, .arr [] (.int .u8)]
noncomputable def Qe9 : Option R :=
 Q4 Qvv Qwq (fun v => let u0 := v.2.1.2.2.2.2.2.2.2; let u1 := v.2.2.1.2.2.2.2.2.2.2; Qff k (fun p1 p21 => N (sh Qrv [.ptr 1 0, .ptr 2 0, zi v.1.2.2.1, .rw 3, .val [] .bool p1, zi v.1.2.2.2.2.2.1] [zr8 v.2.1.1 v.2.1.2.1 v.2.1.2.2.1 v.2.1.2.2.2.1 v.2.1.2.2.2.2.1 v.2.1.2.2.2.2.2.1 v.2.1.2.2.2.2.2.2.1 v.2.1.2.2.2.2.2.2.2.1 u0.2.1, zr6 v.2.2.1.1 v.2.2.1.2.1 v.2.2.1.2.2.1 v.2.2.1.2.2.2.1 v.2.2.1.2.2.2.2.1 v.2.2.1.2.2.2.2.2.1 v.2.2.1.2.2.2.2.2.2.1 v.2.2.1.2.2.2.2.2.2.2.1 u1.2.1, zr0 p21])) v.1.2.2.2.2.1 v.1.2.2.2.2.2.1 v.1.2.2.2.2.2.2.1 v.2.2.1.2.2.2.2.2.1 v.2.2.1.2.2.2.2.2.2.1 v.2.2.2.1) (Qol k K ws rs N X) ws rs
noncomputable abbrev Qtv : Option R := inner T an122 (Q0 F) 1 k 73 (S122 k) (E122 K) Qxk (sh Qce ws rs) N X
abbrev Qvu : List Sh := [.ptr 1 0, .ptr 2 0, zv, .rw 3, .val [] .bool, zv]
abbrev Qwp : List RSh := [zs6, zs4, .arr [] (.int .u8)]
noncomputable def Qv2 : Option R :=
 Q4 Qvu Qwp (fun v => let u0 := v.2.1.2.2.2.2.2.2.2; let u1 := v.2.2.1.2.2.2.2.2.2.2; Qyh k (fun p1 p20 => N (sh Qnn [.ptr 1 0, .ptr 2 0, zi v.1.2.2.1, .rw 3, .val [] .bool p1] [zr8 v.2.1.1 v.2.1.2.1 v.2.1.2.2.1 v.2.1.2.2.2.1 v.2.1.2.2.2.2.1 v.2.1.2.2.2.2.2.1 v.2.1.2.2.2.2.2.2.1 v.2.1.2.2.2.2.2.2.2.1 u0.2.1, zr6 v.2.2.1.1 v.2.2.1.2.1 v.2.2.1.2.2.1 v.2.2.1.2.2.2.1 v.2.2.1.2.2.2.2.1 v.2.2.1.2.2.2.2.2.1 v.2.2.1.2.2.2.2.2.2.1 v.2.2.1.2.2.2.2.2.2.2.1 u1.2.1, zr0 p20])) v.1.2.2.1 v.2.1.1 v.2.1.2.1 v.2.1.2.2.1 v.2.1.2.2.2.1 v.2.1.2.2.2.2.1 v.2.1.2.2.2.2.2.1 v.2.1.2.2.2.2.2.2.1 v.2.1.2.2.2.2.2.2.2.1 u0.2.1 v.2.2.1.1 v.2.2.1.2.1 v.2.2.1.2.2.1 v.2.2.1.2.2.2.1 v.2.2.1.2.2.2.2.1 v.2.2.1.2.2.2.2.2.1 v.2.2.1.2.2.2.2.2.2.1 v.2.2.1.2.2.2.2.2.2.2.1 u1.2.1 k v.1.2.2.2.2.1 v.1.2.2.2.2.2.1 v.2.2.2.1) (Qtv k K ws rs N X) ws rs
noncomputable abbrev Qom : Option R := inner T an122 (Q0 F) 1 k 73 (S122 k) (E122 K) Qiq (sh Qcg ws rs) N X
abbrev Qvw : List Sh := [.ptr 1 0, .val [] .bool]
abbrev Qwr : List RSh := [.vars [zv, zv, .val [] .str, .rw 2, .rw 3, zv, zv, zv, zv], .arr [] (.int .u8), .arr [] zP1]
noncomputable def Qea : Option R :=
 Q4 Qvw Qwr (fun v => let u0 := v.2.1.2.2.2.2.2.2.2; Q92 k (fun p6 => N (sh Qrw [] [⟨0, .vars [zi v.2.1.1, zi v.2.1.2.1, .val [] .str v.2.1.2.2.1, .rw 2, .rw 3, zi v.2.1.2.2.2.2.2.1, zi v.2.1.2.2.2.2.2.2.1, zi v.2.1.2.2.2.2.2.2.2.1, zi p6]⟩, zr0 v.2.2.1, zr4 v.2.2.2.1])) v.1.2.1 u0.2.1) (Qom k K ws rs N X) ws rs
noncomputable def L122 : Option R := bif id == 0 then Qv1 k K ws rs N X else bif id == 1000011 then Qe9 k K ws rs N X else bif id == 2 then Qv2 k K ws rs N X else bif id == 1000016 then Qea k K ws rs N X else none
theorem Q1gf (c0 c1 c2 : Int) (c3 : ByteArray) (c4 : List Int) (c5 : zL5) (c6 c7 c8 c9 c10 c11 : Int) (c12 : ByteArray) (c13 c14 c15 : Int) (c16 : List Int) (c17 : zL5) (c18 : Bool) (m : Nat) : ∀ (c19 : List Int),
  iter (atHead an122 1 Qew) m (fun st N' => exec T an122 (Q0 F) 1 k 73 (S122 k) (E122 K) Qew st N' (outX an122 1 0 N X)) (sh Qcd [.ptr 1 0, .ptr 2 0, zi c0, .rw 3] [zr8 c1 c2 c3 c4 c5 c6 c7 c8 c9, zr6 c10 c11 c12 c13 c14 c15 c16 c17 c18, zr0 c19]) = Q4b k (fun p19 => N (sh Qnm [.ptr 1 0, .ptr 2 0, zi c0, .rw 3] [zr8 c1 c2 c3 c4 c5 c6 c7 c8 c9, zr6 c10 c11 c12 c13 c14 c15 c16 c17 c18, zr0 p19])) c0 c1 c2 c3 c4 c5 c6 c7 c8 c9 c10 c11 c12 c13 c14 c15 c16 c17 c18 m c19 := by
 induction m with
 | zero => intros; rfl
 | succ m ih =>
   intro c19
   simp only [iter]
   rw [← Q9 T an122 (Q0 F) 1 k 73 (S122 k) (L122 k K) Qew (Qc _ _ _ _ _ _ _ _ Qew (l := []) (by kernel_rfl) trivial)]
   have h := fx1 ih
   simp only [Q4b]
   rw [← h]
   show _ = _
   kernel_rfl
theorem Q1he : L122 k K 0 ws rs N X = Qtu k K ws rs N X := by
 show Qv1 k K ws rs N X = _
 unfold Qv1
 rw [Qd9]
 exact Q5 (a := Qvt) (b := Qwo) (G := fun ws rs => Qtu k K ws rs N X) (fun x y => Eq.trans (by kernel_rfl) (Eq.trans (Q1gf k K N X x.2.2.1 y.1.1 y.1.2.1 y.1.2.2.1 y.1.2.2.2.1 y.1.2.2.2.2.1 y.1.2.2.2.2.2.1 y.1.2.2.2.2.2.2.1 y.1.2.2.2.2.2.2.2.1 y.1.2.2.2.2.2.2.2.2.1 y.2.1.1 y.2.1.2.1 y.2.1.2.2.1 y.2.1.2.2.2.1 y.2.1.2.2.2.2.1 y.2.1.2.2.2.2.2.1 y.2.1.2.2.2.2.2.2.1 y.2.1.2.2.2.2.2.2.2.1 y.2.1.2.2.2.2.2.2.2.2.1 k y.2.2.1).symm (by kernel_rfl))) ws rs
theorem Q16f : L122 k K 1000011 ws rs N X = Qol k K ws rs N X := by
 show Qe9 k K ws rs N X = _
 unfold Qe9
 rw [Q7y]
 exact lC (L122 k K) [] (by kernel_rfl) trivial fun x y => by kernel_rfl
theorem Q1gg (c0 c3 c4 : Int) (c5 : ByteArray) (c6 : List Int) (c7 : zL5) (c8 c9 c10 c11 c12 c13 : Int) (c14 : ByteArray) (c15 c16 c17 : Int) (c18 : List Int) (c19 : zL5) (c20 : Bool) (m : Nat) : ∀ (c1 : Bool) (c2 : Int) (c21 : List Int),
  iter (atHead an122 1 Qex) m (fun st N' => exec T an122 (Q0 F) 1 k 73 (S122 k) (E122 K) Qex st N' (outX an122 1 2 N X)) (sh Qce [.ptr 1 0, .ptr 2 0, zi c0, .rw 3, .val [] .bool c1, zi c2] [zr8 c3 c4 c5 c6 c7 c8 c9 c10 c11, zr6 c12 c13 c14 c15 c16 c17 c18 c19 c20, zr0 c21]) = Q4c k (fun p1 p20 => N (sh Qnn [.ptr 1 0, .ptr 2 0, zi c0, .rw 3, .val [] .bool p1] [zr8 c3 c4 c5 c6 c7 c8 c9 c10 c11, zr6 c12 c13 c14 c15 c16 c17 c18 c19 c20, zr0 p20])) c0 c3 c4 c5 c6 c7 c8 c9 c10 c11 c12 c13 c14 c15 c16 c17 c18 c19 c20 m c1 c2 c21 := by
 induction m with
 | zero => intros; rfl
 | succ m ih =>
   intro c1 c2 c21
   simp only [iter]
   rw [← Q9 T an122 (Q0 F) 1 k 73 (S122 k) (L122 k K) Qex (Qc _ _ _ _ _ _ _ _ Qex (l := [(1000011, Qcf, Qip)]) (by kernel_rfl) ⟨Q16f k K, trivial⟩)]
   have h := fx3 ih
   simp only [Q4c]
   rw [← h]
   show _ = _
   kernel_rfl
theorem Q1hf : L122 k K 2 ws rs N X = Qtv k K ws rs N X := by
 show Qv2 k K ws rs N X = _
 unfold Qv2
 rw [Qda]
 exact Q5 (a := Qvu) (b := Qwp) (G := fun ws rs => Qtv k K ws rs N X) (fun x y => Eq.trans (by kernel_rfl) (Eq.trans (Q1gg k K N X x.2.2.1 y.1.1 y.1.2.1 y.1.2.2.1 y.1.2.2.2.1 y.1.2.2.2.2.1 y.1.2.2.2.2.2.1 y.1.2.2.2.2.2.2.1 y.1.2.2.2.2.2.2.2.1 y.1.2.2.2.2.2.2.2.2.1 y.2.1.1 y.2.1.2.1 y.2.1.2.2.1 y.2.1.2.2.2.1 y.2.1.2.2.2.2.1 y.2.1.2.2.2.2.2.1 y.2.1.2.2.2.2.2.2.1 y.2.1.2.2.2.2.2.2.2.1 y.2.1.2.2.2.2.2.2.2.2.1 k x.2.2.2.2.1 x.2.2.2.2.2.1 y.2.2.1).symm (by kernel_rfl))) ws rs
theorem Q16g : L122 k K 1000016 ws rs N X = Qom k K ws rs N X := by
 show Qea k K ws rs N X = _
 unfold Qea
 rw [Q7z]
 exact lC (L122 k K) [] (by kernel_rfl) trivial fun x y => by kernel_rfl
theorem tu122 : tOk (R := R) 122 aa122 ab122 g122 := by
 intro k x y K
 unfold g122
 rw [Qqz]
 cases k with
 | zero => rfl
 | succ k => exact eS Try.f122 an122 1 73 (L122 k K) [(0, Qcd, Qxj), (2, Qce, Qxk), (1000016, Qcg, Qiq)] (by kernel_rfl) (Q1ah k) (by kernel_rfl) ⟨Q1he k K, Q1hf k K, Q16g k K, trivial⟩ (by kernel_rfl)
noncomputable def s122 := onS (R := R) aa122 ab122 g122 (fun k => callC T F k 122)
theorem Q1dn : sOk (R := R) s122 122 := Q6 (fun _ _ _ _ => rfl) tu122
noncomputable abbrev kt88 : zL6 → Option R := (fun z0 => K [.rw 1] [zr4 z0])
abbrev aa88 : List Sh := [.val [(0, 0)] zT1, zv]
abbrev ab88 : List RSh := []
noncomputable def g88 (k : Nat) (v : Sh.D.DL aa88 × RSh.DL ab88) (K : KT R) : Option R := f88 k v.1.1 v.1.2.1 (kt88 K)
noncomputable abbrev E88 := ending T Try.f88 an88 0 K
noncomputable def S88 := pickS (R := R) []
theorem Q1f5 : ∀ k, S88 (R := R) k = callC T F k := Q3 trivial
noncomputable abbrev Qu5 : Option R := inner T an88 (Q0 F) 0 k 46 (S88 k) (E88 K) Qpk (sh Qh6 ws rs) N X
abbrev Q13w : List Sh := [.val [(0, 0)] zT1, zv, .rw 1, zv, zv, .val [] .bool]
abbrev Q14p : List RSh := [.arr [] zP1]
noncomputable def Qky : Option R :=
 Q4 Q13w Q14p (fun v => Qmz k (fun p3 => N (sh Q19e [.val [(0, 0)] zT1 v.1.1, zi v.1.2.1, .rw 1, zi v.1.2.2.2.2.1] [zr4 p3])) v.1.1 v.1.2.2.2.1 v.1.2.2.2.2.1 v.1.2.2.2.2.2.1 v.2.1) (Qu5 k K ws rs N X) ws rs
noncomputable abbrev I88_0 : Option R := inner T an88 (Q0 F) 0 k 46 (S88 k) (E88 K) Q191 (sh Qki ws rs) N X
abbrev Q181 : List Sh := [.val [(0, 0)] zT1, zv, .rw 1, zv, zv]
abbrev Q18i : List RSh := [.arr [] zP1]
noncomputable def L88_0 : Option R :=
 Q4 Q181 Q18i (fun v => f88_0 k (fun p1 p2 => N (sh Q128 [zi v.1.2.1, .rw 1, zi p1] [zr4 p2])) v.1.1 v.1.2.1 k v.1.2.2.2.1 v.1.2.2.2.2.1 v.2.1) (I88_0 k K ws rs N X) ws rs
noncomputable abbrev Qu6 : Option R := inner T an88 (Q0 F) 0 k 46 (S88 k) (E88 K) Qpl (sh Qh7 ws rs) N X
abbrev Q13x : List Sh := [zv, .rw 1, zv, .val [] .bool]
abbrev Q14q : List RSh := [.arr [] zP1]
noncomputable def Qkz : Option R :=
 Q4 Q13x Q14q (fun v => Qn0 k (fun p0 => N (sh Q10z [.rw 1] [zr4 p0])) v.1.1 v.1.2.2.1 v.1.2.2.2.1 v.2.1) (Qu6 k K ws rs N X) ws rs
noncomputable def L88 : Option R := bif id == 1000007 then Qky k K ws rs N X else bif id == 0 then L88_0 k K ws rs N X else bif id == 1000010 then Qkz k K ws rs N X else none
theorem Q1ca : L88 k K 1000007 ws rs N X = Qu5 k K ws rs N X := by
 show Qky k K ws rs N X = _
 unfold Qky
 rw [Qab]
 exact lC (L88 k K) [] (by kernel_rfl) trivial fun x y => by kernel_rfl
theorem i88_0 (c0 : zL5) (c1 : Int) (m : Nat) : ∀ (c2 c3 : Int) (c4 : zL6),
  iter (atHead an88 0 Qp9) m (fun st N' => exec T an88 (Q0 F) 0 k 46 (S88 k) (E88 K) Qp9 st N' (outX an88 0 0 N X)) (sh Qki [.val [(0, 0)] zT1 c0, zi c1, .rw 1, zi c2, zi c3] [zr4 c4]) = Q8j k (fun p1 p2 => N (sh Q128 [zi c1, .rw 1, zi p1] [zr4 p2])) c0 c1 m c2 c3 c4 := by
 induction m with
 | zero => intros; rfl
 | succ m ih =>
   intro c2 c3 c4
   simp only [iter]
   rw [← Q9 T an88 (Q0 F) 0 k 46 (S88 k) (L88 k K) Qp9 (Qc _ _ _ _ _ _ _ _ Qp9 (l := [(1000007, Qh6, Qpk)]) (by kernel_rfl) ⟨Q1ca k K, trivial⟩)]
   have h := fx3 ih
   simp only [Q8j]
   rw [← h]
   show _ = _
   kernel_rfl
theorem l88_0 : L88 k K 0 ws rs N X = I88_0 k K ws rs N X := by
 show L88_0 k K ws rs N X = _
 unfold L88_0
 rw [Qjd]
 exact Q5 (a := Q181) (b := Q18i) (G := fun ws rs => I88_0 k K ws rs N X) (fun x y => Eq.trans (by kernel_rfl) (Eq.trans (i88_0 k K N X x.1 x.2.1 k x.2.2.2.1 x.2.2.2.2.1 y.1).symm (by kernel_rfl))) ws rs
theorem Q1cb : L88 k K 1000010 ws rs N X = Qu6 k K ws rs N X := by
 show Qkz k K ws rs N X = _
 unfold Qkz
 rw [Qac]
 exact lC (L88 k K) [] (by kernel_rfl) trivial fun x y => by kernel_rfl
theorem tu88 : tOk (R := R) 88 aa88 ab88 g88 := by
 intro k x y K
 unfold g88
 rw [Q10d]
 cases k with
 | zero => rfl
 | succ k => exact eS Try.f88 an88 0 46 (L88 k K) [(0, Qki, Q191), (1000010, Qh7, Qpl)] (by kernel_rfl) (Q1f5 k) (by kernel_rfl) ⟨l88_0 k K, Q1cb k K, trivial⟩ (by kernel_rfl)
noncomputable def s88 := onS (R := R) aa88 ab88 g88 (fun k => callC T F k 88)
theorem Q1ig : sOk (R := R) s88 88 := Q6 (fun _ _ _ _ => rfl) tu88
noncomputable abbrev kt106 : Int → Int → Option R := (fun z0 z1 => K [.agg [zi z0, zi z1]] [])
abbrev aa106 : List Sh := []
abbrev ab106 : List RSh := []
noncomputable def g106 (k : Nat) (v : Sh.D.DL aa106 × RSh.DL ab106) (K : KT R) : Option R := f106 k (kt106 K)
noncomputable abbrev E106 := ending T Try.f106 an106 0 K
noncomputable def S106 := pickS (R := R) []
theorem Q1a4 : ∀ k, S106 (R := R) k = callC T F k := Q3 trivial
theorem tu106 : tOk (R := R) 106 aa106 ab106 g106 := by
 intro k x y K
 unfold g106
 rw [Qf6]
 cases k with
 | zero => rfl
 | succ k => exact eS Try.f106 an106 0 2 L0 [] (by kernel_rfl) (Q1a4 k) (by kernel_rfl) trivial (by kernel_rfl)
noncomputable def s106 := onS (R := R) aa106 ab106 g106 (fun k => callC T F k 106)
theorem Q12u : sOk (R := R) s106 106 := Q6 (fun _ _ _ _ => rfl) tu106
noncomputable abbrev kt118 : zL6 → Option R := (fun z0 => K [.rw 1] [zr4 z0])
abbrev aa118 : List Sh := [.val [] .bool, .val [(0, 0)] zT1]
abbrev ab118 : List RSh := []
noncomputable def g118 (k : Nat) (v : Sh.D.DL aa118 × RSh.DL ab118) (K : KT R) : Option R := f118 k v.1.1 v.1.2.1 (kt118 K)
noncomputable abbrev E118 := ending T Try.f118 an118 0 K
noncomputable def S118 := pickS (R := R) [(106, s106)]
theorem Q1ad : ∀ k, S118 (R := R) k = callC T F k := Q3 ⟨Q12u, trivial⟩
noncomputable abbrev Qoh : Option R := inner T an118 (Q0 F) 0 k 14 (S118 k) (E118 K) Qil (sh Qc8 ws rs) N X
abbrev Qvo : List Sh := [.val [(0, 0)] zT1, .nils, .val [] .bool]
abbrev Qwj : List RSh := []
noncomputable def Qe5 : Option R :=
 Q4 Qvo Qwj (fun v => Qfa k (fun p1 => N (sh Q10q [.val [(0, 0)] zT1 v.1.1, .rw 1] [zr4 p1])) v.1.2.2.1) (Qoh k K ws rs N X) ws rs
noncomputable def L118 : Option R := bif id == 1000003 then Qe5 k K ws rs N X else none
theorem Q16b : L118 k K 1000003 ws rs N X = Qoh k K ws rs N X := by
 show Qe5 k K ws rs N X = _
 unfold Qe5
 rw [Q49]
 exact lC (L118 k K) [] (by kernel_rfl) trivial fun x y => by kernel_rfl
theorem tu118 : tOk (R := R) 118 aa118 ab118 g118 := by
 intro k x y K
 unfold g118
 rw [Qfb]
 cases k with
 | zero => rfl
 | succ k => exact eS Try.f118 an118 0 14 (L118 k K) [(1000003, Qc8, Qil)] (by kernel_rfl) (Q1ad k) (by kernel_rfl) ⟨Q16b k K, trivial⟩ (by kernel_rfl)
noncomputable def s118 := onS (R := R) aa118 ab118 g118 (fun k => callC T F k 118)
theorem Qo1 : sOk (R := R) s118 118 := Q6 (fun _ _ _ _ => rfl) tu118
noncomputable abbrev kt113 : Bool → zL6 → Option R := (fun z0 z1 => K [.rw 1, .val [] .bool z0] [zr4 z1])
abbrev aa113 : List Sh := [.agg [zv, zv, .val [] .str, .val [(0, 0)] zT2, .val [(0, 0)] zT1, zv, zv, zv, zv]]
abbrev ab113 : List RSh := []
noncomputable def g113 (k : Nat) (v : Sh.D.DL aa113 × RSh.DL ab113) (K : KT R) : Option R := let u0 := v.1.1.2.2.2.2.2.2.2; f113 k v.1.1.1 v.1.1.2.1 v.1.1.2.2.1 v.1.1.2.2.2.1 v.1.1.2.2.2.2.1 v.1.1.2.2.2.2.2.1 v.1.1.2.2.2.2.2.2.1 v.1.1.2.2.2.2.2.2.2.1 u0.2.1 (kt113 K)
noncomputable abbrev E113 := ending T Try.f113 an113 0 K
noncomputable def S113 := pickS (R := R) [(88, s88), (118, s118)]
theorem Q1aa : ∀ k, S113 (R := R) k = callC T F k := Q3 ⟨Q1ig, Qo1, trivial⟩
theorem tu113 : tOk (R := R) 113 aa113 ab113 g113 := by
 intro k x y K
 unfold g113
 rw [Qqs]
 cases k with
 | zero => rfl
 | succ k => exact eS Try.f113 an113 0 16 L0 [] (by kernel_rfl) (Q1aa k) (by kernel_rfl) trivial (by kernel_rfl)
noncomputable def s113 := onS (R := R) aa113 ab113 g113 (fun k => callC T F k 113)
theorem Qo0 : sOk (R := R) s113 113 := Q6 (fun _ _ _ _ => rfl) tu113
noncomputable abbrev kt98 : Bool → Option R := (fun z0 => K [.val [] .bool z0] [])
abbrev aa98 : List Sh := [.agg [zv, zv, .val [] .str, .val [(0, 0)] zT2, .val [(0, 0)] zT1, zv, zv, zv, zv]]
abbrev ab98 : List RSh := []
noncomputable def g98 (k : Nat) (v : Sh.D.DL aa98 × RSh.DL ab98) (K : KT R) : Option R := let u0 := v.1.1.2.2.2.2.2.2.2; f98 k v.1.1.1 v.1.1.2.1 v.1.1.2.2.1 v.1.1.2.2.2.1 v.1.1.2.2.2.2.1 v.1.1.2.2.2.2.2.1 v.1.1.2.2.2.2.2.2.1 v.1.1.2.2.2.2.2.2.2.1 u0.2.1 (kt98 K)
noncomputable abbrev E98 := ending T Try.f98 an98 0 K
noncomputable def S98 := pickS (R := R) [(113, s113)]
theorem Q1fd : ∀ k, S98 (R := R) k = callC T F k := Q3 ⟨Qo0, trivial⟩
theorem tu98 : tOk (R := R) 98 aa98 ab98 g98 := by
 intro k x y K
 unfold g98
 rw [Q10n]
 cases k with
 | zero => rfl
 | succ k => exact eS Try.f98 an98 0 16 L0 [] (by kernel_rfl) (Q1fd k) (by kernel_rfl) trivial (by kernel_rfl)
noncomputable def s98 := onS (R := R) aa98 ab98 g98 (fun k => callC T F k 98)
theorem Q1im : sOk (R := R) s98 98 := Q6 (fun _ _ _ _ => rfl) tu98
noncomputable abbrev kt65 : Int → Option R := (fun z0 => K [zi z0] [])
abbrev aa65 : List Sh := [.val [(0, 0)] zT2]
abbrev ab65 : List RSh := []
noncomputable def g65 (k : Nat) (v : Sh.D.DL aa65 × RSh.DL ab65) (K : KT R) : Option R := f65 k v.1.1 (kt65 K)
noncomputable abbrev E65 := ending T Try.f65 an65 0 K
noncomputable def S65 := pickS (R := R) []
theorem Q1eo : ∀ k, S65 (R := R) k = callC T F k := Q3 trivial
noncomputable abbrev I65_0 : Option R := inner T an65 (Q0 F) 0 k 26 (S65 k) (E65 K) Q18t (sh Qka ws rs) N X
abbrev Q17t : List Sh := [.val [(0, 0)] zT2, zv, zv]
abbrev Q18a : List RSh := []
noncomputable def L65_0 : Option R :=
 Q4 Q17t Q18a (fun v => f65_0 k (fun p0 => N (sh Q120 [zi p0] [])) v.1.1 k v.1.2.1 v.1.2.2.1) (I65_0 k K ws rs N X) ws rs
noncomputable def L65 : Option R := bif id == 0 then L65_0 k K ws rs N X else none
theorem i65_0 (c0 : List Int) (m : Nat) : ∀ (c1 c2 : Int),
  iter (atHead an65 0 Qp1) m (fun st N' => exec T an65 (Q0 F) 0 k 26 (S65 k) (E65 K) Qp1 st N' (outX an65 0 0 N X)) (sh Qka [.val [(0, 0)] zT2 c0, zi c1, zi c2] []) = Q8c k (fun p0 => N (sh Q120 [zi p0] [])) c0 m c1 c2 := by
 induction m with
 | zero => intros; rfl
 | succ m ih =>
   intro c1 c2
   simp only [iter]
   rw [← Q9 T an65 (Q0 F) 0 k 26 (S65 k) (L65 k K) Qp1 (Qc _ _ _ _ _ _ _ _ Qp1 (l := []) (by kernel_rfl) trivial)]
   have h := fx2 ih
   simp only [Q8c]
   rw [← h]
   show _ = _
   kernel_rfl
theorem l65_0 : L65 k K 0 ws rs N X = I65_0 k K ws rs N X := by
 show L65_0 k K ws rs N X = _
 unfold L65_0
 rw [Qj4]
 exact Q5 (a := Q17t) (b := Q18a) (G := fun ws rs => I65_0 k K ws rs N X) (fun x y => Eq.trans (by kernel_rfl) (Eq.trans (i65_0 k K N X x.1 k x.2.1 x.2.2.1).symm (by kernel_rfl))) ws rs
theorem tu65 : tOk (R := R) 65 aa65 ab65 g65 := by
 intro k x y K
 unfold g65
 rw [Qzl]
 cases k with
 | zero => rfl
 | succ k => exact eS Try.f65 an65 0 26 (L65 k K) [(0, Qka, Q18t)] (by kernel_rfl) (Q1eo k) (by kernel_rfl) ⟨l65_0 k K, trivial⟩ (by kernel_rfl)
noncomputable def s65 := onS (R := R) aa65 ab65 g65 (fun k => callC T F k 65)
theorem Q134 : sOk (R := R) s65 65 := Q6 (fun _ _ _ _ => rfl) tu65
noncomputable abbrev kt75 : Bool → zL5 → Option R := (fun z0 z1 => K [.val [] .bool z0, .val [(0, 0)] zT1 z1] [])
abbrev aa75 : List Sh := [.val [(0, 0)] zT1]
abbrev ab75 : List RSh := []
noncomputable def g75 (k : Nat) (v : Sh.D.DL aa75 × RSh.DL ab75) (K : KT R) : Option R := f75 k v.1.1 (kt75 K)
noncomputable abbrev E75 := ending T Try.f75 an75 0 K
noncomputable def S75 := pickS (R := R) [(106, s106)]
theorem Q1ew : ∀ k, S75 (R := R) k = callC T F k := Q3 ⟨Q12u, trivial⟩
theorem tu75 : tOk (R := R) 75 aa75 ab75 g75 := by
 intro k x y K
 unfold g75
 rw [Qzx]
 cases k with
 | zero => rfl
 | succ k => exact eS Try.f75 an75 0 17 L0 [] (by kernel_rfl) (Q1ew k) (by kernel_rfl) trivial (by kernel_rfl)
noncomputable def s75 := onS (R := R) aa75 ab75 g75 (fun k => callC T F k 75)
theorem Qso : sOk (R := R) s75 75 := Q6 (fun _ _ _ _ => rfl) tu75
noncomputable abbrev kt93 : zK2 R := (fun z0 z1 z2 z3 z4 z5 z6 z7 z8 z9 z10 => K [.agg [zi z0, zi z1, .val [] .str z2, .val [(0, 0)] zT2 z3, .val [(0, 0)] zT1 z4, zi z5, zi z6, zi z7, zi z8], .rw 1, zi z9] [zr11 z10])
abbrev aa93 : List Sh := [.agg [zv, zv, zv, zv, zv], .agg [zv, zv, .val [] .str, .val [(0, 0)] zT2, .val [(0, 0)] zT1, zv, zv, zv, zv], .agg [zv, zv, .val [] .str, zv, zv, zv, .val [(0, 0)] zT2, .val [(0, 0)] zT1, .val [] .bool]]
abbrev ab93 : List RSh := []
noncomputable def g93 (k : Nat) (v : Sh.D.DL aa93 × RSh.DL ab93) (K : KT R) : Option R := let u0 := v.1.2.1.2.2.2.2.2.2.2; let u1 := v.1.2.2.1.2.2.2.2.2.2.2; f93 k v.1.1.1 v.1.1.2.1 v.1.1.2.2.1 v.1.1.2.2.2.1 v.1.1.2.2.2.2.1 v.1.2.1.1 v.1.2.1.2.1 v.1.2.1.2.2.1 v.1.2.1.2.2.2.1 v.1.2.1.2.2.2.2.1 v.1.2.1.2.2.2.2.2.1 v.1.2.1.2.2.2.2.2.2.1 v.1.2.1.2.2.2.2.2.2.2.1 u0.2.1 v.1.2.2.1.1 v.1.2.2.1.2.1 v.1.2.2.1.2.2.1 v.1.2.2.1.2.2.2.1 v.1.2.2.1.2.2.2.2.1 v.1.2.2.1.2.2.2.2.2.1 v.1.2.2.1.2.2.2.2.2.2.1 v.1.2.2.1.2.2.2.2.2.2.2.1 u1.2.1 (kt93 K)
noncomputable abbrev E93 := ending T Try.f93 an93 0 K
noncomputable def S93 := pickS (R := R) [(65, s65), (75, s75), (98, s98), (113, s113), (121, s121), (122, s122)]
theorem Q1fa : ∀ k, S93 (R := R) k = callC T F k := Q3 ⟨Q134, Qso, Q1im, Qo0, Q1dm, Q1dn, trivial⟩
noncomputable abbrev Qum : Option R := inner T an93 (Q0 F) 0 k 160 (S93 k) (E93 K) Qq1 (sh Qhn ws rs) N X
abbrev Q14d : List Sh := [.ptr 1 0, .ptr 2 0, .nils, .val [] .bool]
abbrev Q156 : List RSh := [zs6, zs5]
noncomputable def Qlf : Option R :=
 Q4 Q14d Q156 (fun v => let u0 := v.2.1.2.2.2.2.2.2.2; let u1 := v.2.2.1.2.2.2.2.2.2.2; Q7c k (fun p16 => N (sh Q19j [.ptr 1 0, .ptr 2 0, .rw 3] [zr8 v.2.1.1 v.2.1.2.1 v.2.1.2.2.1 v.2.1.2.2.2.1 v.2.1.2.2.2.2.1 v.2.1.2.2.2.2.2.1 v.2.1.2.2.2.2.2.2.1 v.2.1.2.2.2.2.2.2.2.1 u0.2.1, zr7 v.2.2.1.1 v.2.2.1.2.1 v.2.2.1.2.2.1 v.2.2.1.2.2.2.2.2.1 v.2.2.1.2.2.2.2.2.2.1 v.2.2.1.2.2.2.2.2.2.2.1 u1.2.1, zr11 p16])) v.1.2.2.2.1 v.2.1.2.1) (Qum k K ws rs N X) ws rs
noncomputable abbrev Qun : Option R := inner T an93 (Q0 F) 0 k 160 (S93 k) (E93 K) Qq2 (sh Qho ws rs) N X
abbrev Q14e : List Sh := [.ptr 1 0, .ptr 2 0, .nils, .val [] .bool]
abbrev Q157 : List RSh := [zs6, zs5]
noncomputable def Qlg : Option R :=
 Q4 Q14e Q157 (fun v => let u0 := v.2.1.2.2.2.2.2.2.2; let u1 := v.2.2.1.2.2.2.2.2.2.2; Q2z k (fun p16 => N (sh Q11b [.ptr 1 0, .ptr 2 0, .rw 3] [zr8 v.2.1.1 v.2.1.2.1 v.2.1.2.2.1 v.2.1.2.2.2.1 v.2.1.2.2.2.2.1 v.2.1.2.2.2.2.2.1 v.2.1.2.2.2.2.2.2.1 v.2.1.2.2.2.2.2.2.2.1 u0.2.1, zr7 v.2.2.1.1 v.2.2.1.2.1 v.2.2.1.2.2.1 v.2.2.1.2.2.2.2.2.1 v.2.2.1.2.2.2.2.2.2.1 v.2.2.1.2.2.2.2.2.2.2.1 u1.2.1, zr11 p16])) v.1.2.2.2.1 v.2.1.2.1) (Qun k K ws rs N X) ws rs
noncomputable abbrev Qup : Option R := inner T an93 (Q0 F) 0 k 160 (S93 k) (E93 K) Qq4 (sh Qhq ws rs) N X
abbrev Q14g : List Sh := [.ptr 1 0, .ptr 2 0, .ptr 3 0, .ptr 4 0, .nils, .val [] .bool]
abbrev Q159 : List RSh := [zs3, zs6, zs4, zs5]
noncomputable def Qli : Option R :=
 Q4 Q14g Q159 (fun v => let u0 := v.2.2.1.2.2.2.2.2.2.2; let u1 := v.2.2.2.1.2.2.2.2.2.2.2; let u2 := v.2.2.2.2.1.2.2.2.2.2.2.2; Qn8 k (fun p7 => N (sh Q11d [.ptr 1 0, .ptr 2 0, .ptr 3 0, .ptr 4 0, .nils] [zr5 v.2.1.1 v.2.1.2.1 v.2.1.2.2.1 v.2.1.2.2.2.1 v.2.1.2.2.2.2.1, zr8 v.2.2.1.1 v.2.2.1.2.1 p7 v.2.2.1.2.2.2.1 v.2.2.1.2.2.2.2.1 v.2.2.1.2.2.2.2.2.1 v.2.2.1.2.2.2.2.2.2.1 v.2.2.1.2.2.2.2.2.2.2.1 u0.2.1, zr6 v.2.2.2.1.1 v.2.2.2.1.2.1 v.2.2.2.1.2.2.1 v.2.2.2.1.2.2.2.1 v.2.2.2.1.2.2.2.2.1 v.2.2.2.1.2.2.2.2.2.1 v.2.2.2.1.2.2.2.2.2.2.1 v.2.2.2.1.2.2.2.2.2.2.2.1 u1.2.1, zr7 v.2.2.2.2.1.1 v.2.2.2.2.1.2.1 v.2.2.2.2.1.2.2.1 v.2.2.2.2.1.2.2.2.2.2.1 v.2.2.2.2.1.2.2.2.2.2.2.1 v.2.2.2.2.1.2.2.2.2.2.2.2.1 u2.2.1])) v.1.2.2.2.2.2.1 v.2.2.1.2.2.1 v.2.2.2.1.2.2.1) (Qup k K ws rs N X) ws rs
noncomputable abbrev Quo : Option R := inner T an93 (Q0 F) 0 k 160 (S93 k) (E93 K) Qq3 (sh Qhp ws rs) N X
abbrev Q14f : List Sh := [.ptr 1 0, .ptr 2 0, .ptr 3 0, .ptr 4 0, .nils, .val [] .bool]
abbrev Q158 : List RSh := [zs3, zs6, zs4, zs5]
noncomputable def Qlh : Option R :=
 Q4 Q14f Q158 (fun v => let u0 := v.2.2.1.2.2.2.2.2.2.2; let u1 := v.2.2.2.1.2.2.2.2.2.2.2; let u2 := v.2.2.2.2.1.2.2.2.2.2.2.2; Q7d k (fun p5 p6 p7 p8 p9 p10 p11 p12 p13 => N (sh Q11c [.ptr 1 0, .ptr 2 0, .ptr 3 0, .ptr 4 0, .nils] [zr5 v.2.1.1 v.2.1.2.1 v.2.1.2.2.1 v.2.1.2.2.2.1 v.2.1.2.2.2.2.1, zr8 p5 p6 p7 p8 p9 p10 p11 p12 p13, zr6 v.2.2.2.1.1 v.2.2.2.1.2.1 v.2.2.2.1.2.2.1 v.2.2.2.1.2.2.2.1 v.2.2.2.1.2.2.2.2.1 v.2.2.2.1.2.2.2.2.2.1 v.2.2.2.1.2.2.2.2.2.2.1 v.2.2.2.1.2.2.2.2.2.2.2.1 u1.2.1, zr7 v.2.2.2.2.1.1 v.2.2.2.2.1.2.1 v.2.2.2.2.1.2.2.1 v.2.2.2.2.1.2.2.2.2.2.1 v.2.2.2.2.1.2.2.2.2.2.2.1 v.2.2.2.2.1.2.2.2.2.2.2.2.1 u2.2.1])) v.1.2.2.2.2.2.1 v.2.2.1.1 v.2.2.1.2.1 v.2.2.1.2.2.1 v.2.2.1.2.2.2.1 v.2.2.1.2.2.2.2.1 v.2.2.1.2.2.2.2.2.1 v.2.2.1.2.2.2.2.2.2.1 v.2.2.1.2.2.2.2.2.2.2.1 u0.2.1 v.2.2.2.1.1 v.2.2.2.1.2.1 v.2.2.2.1.2.2.1 v.2.2.2.1.2.2.2.1 v.2.2.2.1.2.2.2.2.1 v.2.2.2.1.2.2.2.2.2.1 v.2.2.2.1.2.2.2.2.2.2.1 v.2.2.2.1.2.2.2.2.2.2.2.1 u1.2.1) (Quo k K ws rs N X) ws rs
noncomputable abbrev Quq : Option R := inner T an93 (Q0 F) 0 k 160 (S93 k) (E93 K) Qq5 (sh Qhr ws rs) N X
abbrev Q14h : List Sh := [.ptr 1 0, .ptr 2 0, .ptr 3 0, .ptr 4 0, .nils, .val [] .bool]
abbrev Q15a : List RSh := [zs3, zs6, zs4, zs5]
noncomputable def Qlj : Option R :=
 Q4 Q14h Q15a (fun v => let u0 := v.2.2.1.2.2.2.2.2.2.2; let u1 := v.2.2.2.1.2.2.2.2.2.2.2; let u2 := v.2.2.2.2.1.2.2.2.2.2.2.2; Q5s k (fun p5 => N (sh Q11e [.ptr 1 0, .ptr 2 0, .ptr 3 0, .ptr 4 0, .nils] [zr5 v.2.1.1 v.2.1.2.1 v.2.1.2.2.1 v.2.1.2.2.2.1 v.2.1.2.2.2.2.1, zr8 p5 v.2.2.1.2.1 v.2.2.1.2.2.1 v.2.2.1.2.2.2.1 v.2.2.1.2.2.2.2.1 v.2.2.1.2.2.2.2.2.1 v.2.2.1.2.2.2.2.2.2.1 v.2.2.1.2.2.2.2.2.2.2.1 u0.2.1, zr6 v.2.2.2.1.1 v.2.2.2.1.2.1 v.2.2.2.1.2.2.1 v.2.2.2.1.2.2.2.1 v.2.2.2.1.2.2.2.2.1 v.2.2.2.1.2.2.2.2.2.1 v.2.2.2.1.2.2.2.2.2.2.1 v.2.2.2.1.2.2.2.2.2.2.2.1 u1.2.1, zr7 v.2.2.2.2.1.1 v.2.2.2.2.1.2.1 v.2.2.2.2.1.2.2.1 v.2.2.2.2.1.2.2.2.2.2.1 v.2.2.2.2.1.2.2.2.2.2.2.1 v.2.2.2.2.1.2.2.2.2.2.2.2.1 u2.2.1])) v.1.2.2.2.2.2.1 v.2.2.1.1) (Quq k K ws rs N X) ws rs
noncomputable abbrev Qur : Option R := inner T an93 (Q0 F) 0 k 160 (S93 k) (E93 K) Qq6 (sh Qhs ws rs) N X
abbrev Q14i : List Sh := [.ptr 1 0, .ptr 2 0, .nils, .val [] .bool, .val [] .bool]
abbrev Q15b : List RSh := [zs6, zs5]
noncomputable def Qlk : Option R :=
 Q4 Q14i Q15b (fun v => let u0 := v.2.1.2.2.2.2.2.2.2; let u1 := v.2.2.1.2.2.2.2.2.2.2; Q5t k (fun p1 => N (sh Q11f [.ptr 1 0, .ptr 2 0, .nils, .val [] .bool v.1.2.2.2.1] [zr8 p1 v.2.1.2.1 v.2.1.2.2.1 v.2.1.2.2.2.1 v.2.1.2.2.2.2.1 v.2.1.2.2.2.2.2.1 v.2.1.2.2.2.2.2.2.1 v.2.1.2.2.2.2.2.2.2.1 u0.2.1, zr7 v.2.2.1.1 v.2.2.1.2.1 v.2.2.1.2.2.1 v.2.2.1.2.2.2.2.2.1 v.2.2.1.2.2.2.2.2.2.1 v.2.2.1.2.2.2.2.2.2.2.1 u1.2.1])) v.1.2.2.2.2.1 v.2.1.1) (Qur k K ws rs N X) ws rs
noncomputable abbrev Qus : Option R := inner T an93 (Q0 F) 0 k 160 (S93 k) (E93 K) Qq7 (sh Qht ws rs) N X
abbrev Q14j : List Sh := [.ptr 1 0, .ptr 2 0, .ptr 3 0, .nils, .val [] .bool]
abbrev Q15c : List RSh := [zs3, zs6, zs5]
noncomputable def Qll : Option R :=
 Q4 Q14j Q15c (fun v => let u0 := v.2.2.1.2.2.2.2.2.2.2; let u1 := v.2.2.2.1.2.2.2.2.2.2.2; Q5u k (kt93 K) (fun p0 p7 p16 => N (sh Q11g [.ptr 1 0, .ptr 2 0, .rw 3] [zr8 p0 v.2.2.1.2.1 v.2.2.1.2.2.1 v.2.2.1.2.2.2.1 v.2.2.1.2.2.2.2.1 v.2.2.1.2.2.2.2.2.1 v.2.2.1.2.2.2.2.2.2.1 p7 u0.2.1, zr7 v.2.2.2.1.1 v.2.2.2.1.2.1 v.2.2.2.1.2.2.1 v.2.2.2.1.2.2.2.2.2.1 v.2.2.2.1.2.2.2.2.2.2.1 v.2.2.2.1.2.2.2.2.2.2.2.1 u1.2.1, zr11 p16])) v.1.2.2.2.2.1 v.2.1.2.2.2.1 v.2.2.1.1 v.2.2.1.2.1 v.2.2.1.2.2.1 v.2.2.1.2.2.2.1 v.2.2.1.2.2.2.2.1 v.2.2.1.2.2.2.2.2.1 v.2.2.1.2.2.2.2.2.2.1 v.2.2.1.2.2.2.2.2.2.2.1 u0.2.1) (Qus k K ws rs N X) ws rs
noncomputable def L93 : Option R := bif id == 1000007 then Qlf k K ws rs N X else bif id == 1000012 then Qlg k K ws rs N X else bif id == 1000018 then Qli k K ws rs N X else bif id == 1000015 then Qlh k K ws rs N X else bif id == 1000022 then Qlj k K ws rs N X else bif id == 1000027 then Qlk k K ws rs N X else bif id == 1000030 then Qll k K ws rs N X else none
theorem Q1cr : L93 k K 1000007 ws rs N X = Qum k K ws rs N X := by
 show Qlf k K ws rs N X = _
 unfold Qlf
 rw [Qap]
 exact lC (L93 k K) [] (by kernel_rfl) trivial fun x y => by kernel_rfl
theorem Q1cs : L93 k K 1000012 ws rs N X = Qun k K ws rs N X := by
 show Qlg k K ws rs N X = _
 unfold Qlg
 rw [Q5q]
 exact lC (L93 k K) [] (by kernel_rfl) trivial fun x y => by kernel_rfl
theorem Q1cu : L93 k K 1000018 ws rs N X = Qup k K ws rs N X := by
 show Qli k K ws rs N X = _
 unfold Qli
 rw [Q5r]
 exact lC (L93 k K) [] (by kernel_rfl) trivial fun x y => by kernel_rfl
theorem Q1ct : L93 k K 1000015 ws rs N X = Quo k K ws rs N X := by
 show Qlh k K ws rs N X = _
 unfold Qlh
 rw [Q3j]
 exact lC (L93 k K) [(1000018, Qhq, Qq4)] (by kernel_rfl) ⟨Q1cu k K, trivial⟩ fun x y => by kernel_rfl
theorem Q1cv : L93 k K 1000022 ws rs N X = Quq k K ws rs N X := by
 show Qlj k K ws rs N X = _
 unfold Qlj
 rw [Qaq]
 exact lC (L93 k K) [] (by kernel_rfl) trivial fun x y => by kernel_rfl
theorem Q1cw : L93 k K 1000027 ws rs N X = Qur k K ws rs N X := by
 show Qlk k K ws rs N X = _
 unfold Qlk
 rw [Qar]
 exact lC (L93 k K) [] (by kernel_rfl) trivial fun x y => by kernel_rfl
theorem Q1cx : L93 k K 1000030 ws rs N X = Qus k K ws rs N X := by
 show Qll k K ws rs N X = _
 unfold Qll
 rw [Qas]
 exact lC (L93 k K) [] (by kernel_rfl) trivial fun x y => by kernel_rfl
theorem tu93 : tOk (R := R) 93 aa93 ab93 g93 := by
 intro k x y K
 unfold g93
 rw [Q10j]
 cases k with
 | zero => rfl
 | succ k => exact eS Try.f93 an93 0 160 (L93 k K) [(1000007, Qhn, Qq1), (1000012, Qho, Qq2), (1000015, Qhp, Qq3), (1000022, Qhr, Qq5), (1000027, Qhs, Qq6), (1000030, Qht, Qq7)] (by kernel_rfl) (Q1fa k) (by kernel_rfl) ⟨Q1cr k K, Q1cs k K, Q1ct k K, Q1cv k K, Q1cw k K, Q1cx k K, trivial⟩ (by kernel_rfl)
noncomputable def s93 := onS (R := R) aa93 ab93 g93 (fun k => callC T F k 93)
theorem Q1ik : sOk (R := R) s93 93 := Q6 (fun _ _ _ _ => rfl) tu93
noncomputable abbrev kt127 : zK19 R := (fun z0 z1 z2 z3 z4 z5 z6 z7 z8 z9 z10 z11 z12 z13 z14 z15 z16 z17 z18 z19 z20 z21 z22 z23 z24 z25 z26 z27 => K [] [zr13 z0 z1 z2 z3 z4 z5 z6 z7 z8 z9 z10 z11 z12 z13 z14 z15 z16 z17 z18 z19 z20 z21 z22 z23 z24 z25, ⟨0, .gone⟩, ⟨0, .gone⟩, zr2 z26, zr2 z27])
abbrev aa127 : List Sh := [.ptr 1 25, .val [(0, 0)] (.slice zP0), zv]
abbrev ab127 : List RSh := [zs11, .arr [(0, 0)] zP2, .arr [(0, 0)] zP2]
noncomputable def g127 (k : Nat) (v : Sh.D.DL aa127 × RSh.DL ab127) (K : KT R) : Option R := let u0 := v.2.1.2.2.2.2.2.2.2; let u1 := u0.2.2.2.2.2.2.2; let u2 := u1.2.2.2.2.2.2.2; f127 k v.1.2.1 v.1.2.2.1 v.2.1.1 v.2.1.2.1 v.2.1.2.2.1 v.2.1.2.2.2.1 v.2.1.2.2.2.2.1 v.2.1.2.2.2.2.2.1 v.2.1.2.2.2.2.2.2.1 v.2.1.2.2.2.2.2.2.2.1 u0.2.1 u0.2.2.1 u0.2.2.2.1 u0.2.2.2.2.1 u0.2.2.2.2.2.1 u0.2.2.2.2.2.2.1 u0.2.2.2.2.2.2.2.1 u1.2.1 u1.2.2.1 u1.2.2.2.1 u1.2.2.2.2.1 u1.2.2.2.2.2.1 u1.2.2.2.2.2.2.1 u1.2.2.2.2.2.2.2.1 u2.2.1 u2.2.2.1 u2.2.2.2.2.1 u2.2.2.2.2.2.1 v.2.2.1 v.2.2.2.1 (kt127 K)
noncomputable abbrev E127 := ending T Try.f127 an127 3 K
noncomputable def S127 := pickS (R := R) []
theorem Q1am : ∀ k, S127 (R := R) k = callC T F k := Q3 trivial
noncomputable abbrev Qop : Option R := inner T an127 (Q0 F) 3 k 58 (S127 k) (E127 K) Q68 (sh Q4u ws rs) N X
abbrev Qw3 : List Sh := [.ptr 1 25, .val [(0, 0)] (.slice zP0), zv, zv, .val [] .bool]
abbrev Qwy : List RSh := [zs12, .gone, .gone, .arr [(0, 0)] zP2, .arr [(0, 0)] zP2]
noncomputable def Qeg : Option R :=
 Q4 Qw3 Qwy (fun v => let u0 := v.2.1.2.2.2.2.2.2.2; let u1 := u0.2.2.2.2.2.2.2; let u2 := u1.2.2.2.2.2.2.2; Q94 k (fun p30 => N (sh Qna [.ptr 1 25, .val [(0, 0)] (.slice zP0) v.1.2.1, zi v.1.2.2.1, zi v.1.2.2.2.1] [zr13 v.2.1.1 v.2.1.2.1 v.2.1.2.2.1 v.2.1.2.2.2.1 v.2.1.2.2.2.2.1 v.2.1.2.2.2.2.2.1 v.2.1.2.2.2.2.2.2.1 v.2.1.2.2.2.2.2.2.2.1 u0.2.1 u0.2.2.1 u0.2.2.2.1 u0.2.2.2.2.1 u0.2.2.2.2.2.1 u0.2.2.2.2.2.2.1 u0.2.2.2.2.2.2.2.1 u1.2.1 u1.2.2.1 u1.2.2.2.1 u1.2.2.2.2.1 u1.2.2.2.2.2.1 u1.2.2.2.2.2.2.1 u1.2.2.2.2.2.2.2.1 u2.2.1 u2.2.2.1 u2.2.2.2.2.1 u2.2.2.2.2.2.1, ⟨0, .gone⟩, ⟨0, .gone⟩, zr2 v.2.2.2.2.1, zr2 p30])) v.1.2.1 v.1.2.2.1 v.1.2.2.2.1 v.1.2.2.2.2.1 v.2.2.2.2.2.1) (Qop k K ws rs N X) ws rs
noncomputable abbrev Qtz : Option R := inner T an127 (Q0 F) 3 k 58 (S127 k) (E127 K) Qf2 (sh Q4t ws rs) N X
abbrev Qw2 : List Sh := [.ptr 1 25, .val [(0, 0)] (.slice zP0), zv, zv]
abbrev Qwx : List RSh := [zs12, .gone, .gone, .arr [(0, 0)] zP2, .arr [(0, 0)] zP2]
noncomputable def Qv6 : Option R :=
 Q4 Qw2 Qwx (fun v => let u0 := v.2.1.2.2.2.2.2.2.2; let u1 := u0.2.2.2.2.2.2.2; let u2 := u1.2.2.2.2.2.2.2; Qys k (fun p25 p27 => N (sh Qb3 [] [zr13 v.2.1.1 v.2.1.2.1 v.2.1.2.2.1 v.2.1.2.2.2.1 v.2.1.2.2.2.2.1 v.2.1.2.2.2.2.2.1 v.2.1.2.2.2.2.2.2.1 v.2.1.2.2.2.2.2.2.2.1 u0.2.1 u0.2.2.1 u0.2.2.2.1 u0.2.2.2.2.1 u0.2.2.2.2.2.1 u0.2.2.2.2.2.2.1 u0.2.2.2.2.2.2.2.1 u1.2.1 u1.2.2.1 u1.2.2.2.1 u1.2.2.2.2.1 u1.2.2.2.2.2.1 u1.2.2.2.2.2.2.1 u1.2.2.2.2.2.2.2.1 u2.2.1 u2.2.2.1 u2.2.2.2.2.1 p25, ⟨0, .gone⟩, ⟨0, .gone⟩, zr2 v.2.2.2.2.1, zr2 p27])) v.1.2.1 v.1.2.2.1 v.2.1.1 v.2.1.2.1 v.2.1.2.2.1 v.2.1.2.2.2.1 v.2.1.2.2.2.2.1 v.2.1.2.2.2.2.2.1 v.2.1.2.2.2.2.2.2.1 v.2.1.2.2.2.2.2.2.2.1 u0.2.1 u0.2.2.1 u0.2.2.2.1 u0.2.2.2.2.1 u0.2.2.2.2.2.1 u0.2.2.2.2.2.2.1 u0.2.2.2.2.2.2.2.1 u1.2.1 u1.2.2.1 u1.2.2.2.1 u1.2.2.2.2.1 u1.2.2.2.2.2.1 u1.2.2.2.2.2.2.1 u1.2.2.2.2.2.2.2.1 u2.2.1 u2.2.2.1 u2.2.2.2.2.1 v.2.2.2.2.1 k v.1.2.2.2.1 u2.2.2.2.2.2.1 v.2.2.2.2.2.1) (Qtz k K ws rs N X) ws rs
noncomputable def L127 : Option R := bif id == 1000004 then Qeg k K ws rs N X else bif id == 0 then Qv6 k K ws rs N X else none
theorem Q16m : L127 k K 1000004 ws rs N X = Qop k K ws rs N X := by
 show Qeg k K ws rs N X = _
 unfold Qeg
 rw [Q2r]
 exact lC (L127 k K) [] (by kernel_rfl) trivial fun x y => by kernel_rfl
theorem Q1gk (c0 : zL2) (c1 c3 c4 c5 c6 c7 c8 c9 : Int) (c10 : ByteArray) (c11 : List Int) (c12 : Int) (c13 : zL5) (c14 c15 c16 c17 : Int) (c18 : ByteArray) (c19 : List Int) (c20 : zL5) (c21 c22 c23 c24 : Int) (c25 : List Bool) (c26 : Int) (c27 : List Bool) (c29 : zL1) (m : Nat) : ∀ (c2 c28 : Int) (c30 : zL1),
  iter (atHead an127 3 Q3v) m (fun st N' => exec T an127 (Q0 F) 3 k 58 (S127 k) (E127 K) Q3v st N' (outX an127 3 0 N X)) (sh Q4t [.ptr 1 25, .val [(0, 0)] (.slice zP0) c0, zi c1, zi c2] [zr13 c3 c4 c5 c6 c7 c8 c9 c10 c11 c12 c13 c14 c15 c16 c17 c18 c19 c20 c21 c22 c23 c24 c25 c26 c27 c28, ⟨0, .gone⟩, ⟨0, .gone⟩, zr2 c29, zr2 c30]) = Q2y k (fun p25 p27 => N (sh Qb3 [] [zr13 c3 c4 c5 c6 c7 c8 c9 c10 c11 c12 c13 c14 c15 c16 c17 c18 c19 c20 c21 c22 c23 c24 c25 c26 c27 p25, ⟨0, .gone⟩, ⟨0, .gone⟩, zr2 c29, zr2 p27])) c0 c1 c3 c4 c5 c6 c7 c8 c9 c10 c11 c12 c13 c14 c15 c16 c17 c18 c19 c20 c21 c22 c23 c24 c25 c26 c27 c29 m c2 c28 c30 := by
 induction m with
 | zero => intros; rfl
 | succ m ih =>
   intro c2 c28 c30
   simp only [iter]
   rw [← Q9 T an127 (Q0 F) 3 k 58 (S127 k) (L127 k K) Q3v (Qc _ _ _ _ _ _ _ _ Q3v (l := [(1000004, Q4u, Q68)]) (by kernel_rfl) ⟨Q16m k K, trivial⟩)]
   have h := fx3 ih
   simp only [Q2y]
   rw [← h]
   show _ = _
   kernel_rfl
theorem Q1hj : L127 k K 0 ws rs N X = Qtz k K ws rs N X := by
 show Qv6 k K ws rs N X = _
 unfold Qv6
 rw [Qdh]
 exact Q5 (a := Qw2) (b := Qwx) (G := fun ws rs => Qtz k K ws rs N X) (fun x y => Eq.trans (by kernel_rfl) (Eq.trans (Q1gk k K N X x.2.1 x.2.2.1 y.1.1 y.1.2.1 y.1.2.2.1 y.1.2.2.2.1 y.1.2.2.2.2.1 y.1.2.2.2.2.2.1 y.1.2.2.2.2.2.2.1 y.1.2.2.2.2.2.2.2.1 y.1.2.2.2.2.2.2.2.2.1 y.1.2.2.2.2.2.2.2.2.2.1 y.1.2.2.2.2.2.2.2.2.2.2.1 y.1.2.2.2.2.2.2.2.2.2.2.2.1 y.1.2.2.2.2.2.2.2.2.2.2.2.2.1 y.1.2.2.2.2.2.2.2.2.2.2.2.2.2.1 y.1.2.2.2.2.2.2.2.2.2.2.2.2.2.2.1 y.1.2.2.2.2.2.2.2.2.2.2.2.2.2.2.2.1 y.1.2.2.2.2.2.2.2.2.2.2.2.2.2.2.2.2.1 y.1.2.2.2.2.2.2.2.2.2.2.2.2.2.2.2.2.2.1 y.1.2.2.2.2.2.2.2.2.2.2.2.2.2.2.2.2.2.2.1 y.1.2.2.2.2.2.2.2.2.2.2.2.2.2.2.2.2.2.2.2.1 y.1.2.2.2.2.2.2.2.2.2.2.2.2.2.2.2.2.2.2.2.2.1 y.1.2.2.2.2.2.2.2.2.2.2.2.2.2.2.2.2.2.2.2.2.2.1 y.1.2.2.2.2.2.2.2.2.2.2.2.2.2.2.2.2.2.2.2.2.2.2.1 y.1.2.2.2.2.2.2.2.2.2.2.2.2.2.2.2.2.2.2.2.2.2.2.2.1 y.1.2.2.2.2.2.2.2.2.2.2.2.2.2.2.2.2.2.2.2.2.2.2.2.2.2.1 y.2.2.2.1 k x.2.2.2.1 y.1.2.2.2.2.2.2.2.2.2.2.2.2.2.2.2.2.2.2.2.2.2.2.2.2.2.2.1 y.2.2.2.2.1).symm (by kernel_rfl))) ws rs
theorem tu127 : tOk (R := R) 127 aa127 ab127 g127 := by
 intro k x y K
 unfold g127
 rw [Qr4]
 cases k with
 | zero => rfl
 | succ k => exact eS Try.f127 an127 3 58 (L127 k K) [(0, Q4t, Qf2)] (by kernel_rfl) (Q1am k) (by kernel_rfl) ⟨Q1hj k K, trivial⟩ (by kernel_rfl)
noncomputable def s127 := onS (R := R) aa127 ab127 g127 (fun k => callC T F k 127)
theorem Q1ds : sOk (R := R) s127 127 := Q6 (fun _ _ _ _ => rfl) tu127
noncomputable abbrev kt91 : zK5 R := (fun z0 z1 z2 z3 z4 z5 z6 z7 z8 => K [.agg [zi z0, zi z1, .val [] .str z2, .val [(0, 0)] zT2 z3, zi z4, .val [(0, 0)] zT1 z5, zi z6, zi z7], zi z8] [])
abbrev aa91 : List Sh := [.agg [zv, zv, .val [] .str, .val [(0, 0)] zT2, zv, .val [(0, 0)] zT1, zv, zv], .agg [zv, zv, .val [] .str, zv, zv, zv, .val [(0, 0)] zT2, .val [(0, 0)] zT1, .val [] .bool]]
abbrev ab91 : List RSh := []
noncomputable def g91 (k : Nat) (v : Sh.D.DL aa91 × RSh.DL ab91) (K : KT R) : Option R := let u0 := v.1.2.1.2.2.2.2.2.2.2; f91 k v.1.1.1 v.1.1.2.1 v.1.1.2.2.1 v.1.1.2.2.2.1 v.1.1.2.2.2.2.1 v.1.1.2.2.2.2.2.1 v.1.1.2.2.2.2.2.2.1 v.1.1.2.2.2.2.2.2.2.1 v.1.2.1.1 v.1.2.1.2.1 v.1.2.1.2.2.1 v.1.2.1.2.2.2.1 v.1.2.1.2.2.2.2.1 v.1.2.1.2.2.2.2.2.1 v.1.2.1.2.2.2.2.2.2.1 v.1.2.1.2.2.2.2.2.2.2.1 u0.2.1 (kt91 K)
noncomputable abbrev E91 := ending T Try.f91 an91 0 K
noncomputable def S91 := pickS (R := R) [(75, s75), (89, s89), (118, s118)]
theorem Q1f8 : ∀ k, S91 (R := R) k = callC T F k := Q3 ⟨Qso, Q19v, Qo1, trivial⟩
noncomputable abbrev Quc : Option R := inner T an91 (Q0 F) 0 k 106 (S91 k) (E91 K) Qpr (sh Qhd ws rs) N X
abbrev Q143 : List Sh := [.ptr 1 0, .ptr 2 0, .val [] .bool, .val [(0, 0)] zT1, .val [] .bool, .val [(0, 0)] zT1, .rw 3, zv, .val [] .bool]
abbrev Q14w : List RSh := [zs7, zs8, .arr [] zP1]
noncomputable def Ql5 : Option R :=
 Q4 Q143 Q14w (fun v => let u0 := v.1.2.2.2.2.2.2.2; Qn2 k (fun p19 => N (sh Q111 [.ptr 1 0, .ptr 2 0, .val [] .bool v.1.2.2.1, .val [(0, 0)] zT1 v.1.2.2.2.1, .val [] .bool v.1.2.2.2.2.1, .val [(0, 0)] zT1 v.1.2.2.2.2.2.1, .rw 3, zi v.1.2.2.2.2.2.2.2.1] [zr9 v.2.1.1 v.2.1.2.1 v.2.1.2.2.1 v.2.1.2.2.2.1 v.2.1.2.2.2.2.1 v.2.1.2.2.2.2.2.1 v.2.1.2.2.2.2.2.2.1 v.2.1.2.2.2.2.2.2.2.1, zr10 v.2.2.1.1 v.2.2.1.2.1 v.2.2.1.2.2.1 v.2.2.1.2.2.2.2.1 v.2.2.1.2.2.2.2.2.2.1 v.2.2.1.2.2.2.2.2.2.2.1, zr4 p19])) v.1.2.2.2.2.2.1 v.1.2.2.2.2.2.2.2.1 u0.2.1 v.2.2.2.1) (Quc k K ws rs N X) ws rs
noncomputable abbrev I91_1 : Option R := inner T an91 (Q0 F) 0 k 106 (S91 k) (E91 K) Q193 (sh Qkk ws rs) N X
abbrev Q183 : List Sh := [.ptr 1 0, .ptr 2 0, .val [] .bool, .val [(0, 0)] zT1, .val [] .bool, .val [(0, 0)] zT1, .rw 3, zv]
abbrev Q18k : List RSh := [zs7, zs8, .arr [] zP1]
noncomputable def L91_1 : Option R :=
 Q4 Q183 Q18k (fun v => f91_1 k (fun p17 => N (sh Q12a [.ptr 1 0, .ptr 2 0, .val [] .bool v.1.2.2.1, .val [(0, 0)] zT1 v.1.2.2.2.1, .val [] .bool v.1.2.2.2.2.1, .rw 3] [zr9 v.2.1.1 v.2.1.2.1 v.2.1.2.2.1 v.2.1.2.2.2.1 v.2.1.2.2.2.2.1 v.2.1.2.2.2.2.2.1 v.2.1.2.2.2.2.2.2.1 v.2.1.2.2.2.2.2.2.2.1, zr10 v.2.2.1.1 v.2.2.1.2.1 v.2.2.1.2.2.1 v.2.2.1.2.2.2.2.1 v.2.2.1.2.2.2.2.2.2.1 v.2.2.1.2.2.2.2.2.2.2.1, zr4 p17])) v.1.2.2.1 v.1.2.2.2.1 v.1.2.2.2.2.1 v.1.2.2.2.2.2.1 v.2.1.1 v.2.1.2.1 v.2.1.2.2.1 v.2.1.2.2.2.1 v.2.1.2.2.2.2.1 v.2.1.2.2.2.2.2.1 v.2.1.2.2.2.2.2.2.1 v.2.1.2.2.2.2.2.2.2.1 v.2.2.1.1 v.2.2.1.2.1 v.2.2.1.2.2.1 v.2.2.1.2.2.2.2.1 v.2.2.1.2.2.2.2.2.2.1 v.2.2.1.2.2.2.2.2.2.2.1 k v.1.2.2.2.2.2.2.2.1 v.2.2.2.1) (I91_1 k K ws rs N X) ws rs
noncomputable abbrev Qud : Option R := inner T an91 (Q0 F) 0 k 106 (S91 k) (E91 K) Qps (sh Qhe ws rs) N X
abbrev Q144 : List Sh := [.ptr 1 0, .ptr 3 0, .val [] .bool]
abbrev Q14x : List RSh := [zs9, .arr [] zP1, zs8]
noncomputable def Ql6 : Option R :=
 Q4 Q144 Q14x (fun v => Qah k (fun p0 p5 => N (sh Q112 [.ptr 1 0, .ptr 3 0] [⟨0, .vars [zi p0, zi v.2.1.2.1, .val [] .str v.2.1.2.2.1, .val [(0, 0)] zT2 v.2.1.2.2.2.1, zi v.2.1.2.2.2.2.1, .rw 2, zi p5, zi v.2.1.2.2.2.2.2.2.2.1]⟩, zr4 v.2.2.1, zr10 v.2.2.2.1.1 v.2.2.2.1.2.1 v.2.2.2.1.2.2.1 v.2.2.2.1.2.2.2.2.1 v.2.2.2.1.2.2.2.2.2.2.1 v.2.2.2.1.2.2.2.2.2.2.2.1])) v.1.2.2.1 v.2.1.1 v.2.1.2.2.2.2.2.2.1) (Qud k K ws rs N X) ws rs
noncomputable abbrev Quf : Option R := inner T an91 (Q0 F) 0 k 106 (S91 k) (E91 K) Qpu (sh Qhg ws rs) N X
abbrev Q146 : List Sh := [.ptr 1 0, .ptr 2 0, .val [] .bool]
abbrev Q14z : List RSh := [.vars [zv, zv, .val [] .str, .val [(0, 0)] zT2, zv, .nils, zv, zv], zs8]
noncomputable def Ql8 : Option R :=
 Q4 Q146 Q14z (fun v => Qn4 k (fun p0 => N (sh Q114 [.ptr 1 0, .ptr 2 0] [⟨0, .vars [zi p0, zi v.2.1.2.1, .val [] .str v.2.1.2.2.1, .val [(0, 0)] zT2 v.2.1.2.2.2.1, zi v.2.1.2.2.2.2.1, .nils, zi v.2.1.2.2.2.2.2.2.1, zi v.2.1.2.2.2.2.2.2.2.1]⟩, zr10 v.2.2.1.1 v.2.2.1.2.1 v.2.2.1.2.2.1 v.2.2.1.2.2.2.2.1 v.2.2.1.2.2.2.2.2.2.1 v.2.2.1.2.2.2.2.2.2.2.1])) v.1.2.2.1 v.2.1.1) (Quf k K ws rs N X) ws rs
noncomputable abbrev Qug : Option R := inner T an91 (Q0 F) 0 k 106 (S91 k) (E91 K) Qpv (sh Qhh ws rs) N X
abbrev Q147 : List Sh := [.ptr 1 0, .ptr 2 0, .val [] .bool]
abbrev Q150 : List RSh := [zs7, zs8]
noncomputable def Ql9 : Option R :=
 Q4 Q147 Q150 (fun v => Qn5 k (fun p0 p5 p6 => N (sh Q115 [.ptr 1 0, .ptr 2 0] [zr9 p0 v.2.1.2.1 v.2.1.2.2.1 v.2.1.2.2.2.1 v.2.1.2.2.2.2.1 p5 p6 v.2.1.2.2.2.2.2.2.2.1, zr10 v.2.2.1.1 v.2.2.1.2.1 v.2.2.1.2.2.1 v.2.2.1.2.2.2.2.1 v.2.2.1.2.2.2.2.2.2.1 v.2.2.1.2.2.2.2.2.2.2.1])) v.1.2.2.1 v.2.1.1 v.2.1.2.2.2.2.2.1 v.2.1.2.2.2.2.2.2.1) (Qug k K ws rs N X) ws rs
noncomputable abbrev Que : Option R := inner T an91 (Q0 F) 0 k 106 (S91 k) (E91 K) Qpt (sh Qhf ws rs) N X
abbrev Q145 : List Sh := [.ptr 1 0, .ptr 2 0, .ptr 3 0, zv, .val [] .bool]
abbrev Q14y : List RSh := [zs7, zs4, zs8]
noncomputable def Ql7 : Option R :=
 Q4 Q145 Q14y (fun v => let u0 := v.2.2.1.2.2.2.2.2.2.2; Qn3 k (fun p0 p5 p6 => N (sh Q113 [.ptr 1 0, .ptr 2 0] [zr9 p0 v.2.1.2.1 v.2.1.2.2.1 v.2.1.2.2.2.1 v.2.1.2.2.2.2.1 p5 p6 v.2.1.2.2.2.2.2.2.2.1, zr10 v.2.2.2.1.1 v.2.2.2.1.2.1 v.2.2.2.1.2.2.1 v.2.2.2.1.2.2.2.2.1 v.2.2.2.1.2.2.2.2.2.2.1 v.2.2.2.1.2.2.2.2.2.2.2.1])) v.1.2.2.2.1 v.1.2.2.2.2.1 v.2.1.1 v.2.1.2.2.2.2.2.1 v.2.1.2.2.2.2.2.2.1 u0.2.1) (Que k K ws rs N X) ws rs
noncomputable abbrev Qub : Option R := inner T an91 (Q0 F) 0 k 106 (S91 k) (E91 K) Qpq (sh Qhc ws rs) N X
abbrev Q142 : List Sh := [.ptr 1 0, .ptr 2 0, .ptr 3 0, zv, .val [] .bool]
abbrev Q14v : List RSh := [zs7, zs4, zs8]
noncomputable def Ql4 : Option R :=
 Q4 Q142 Q14v (fun v => let u0 := v.2.2.1.2.2.2.2.2.2.2; Qn1 k (kt91 K) (fun p0 p5 p6 p7 => N (sh Q19i [.ptr 1 0, .ptr 2 0] [zr9 p0 v.2.1.2.1 v.2.1.2.2.1 v.2.1.2.2.2.1 v.2.1.2.2.2.2.1 p5 p6 p7, zr10 v.2.2.2.1.1 v.2.2.2.1.2.1 v.2.2.2.1.2.2.1 v.2.2.2.1.2.2.2.2.1 v.2.2.2.1.2.2.2.2.2.2.1 v.2.2.2.1.2.2.2.2.2.2.2.1])) v.1.2.2.2.1 v.1.2.2.2.2.1 v.2.1.1 v.2.1.2.1 v.2.1.2.2.1 v.2.1.2.2.2.1 v.2.1.2.2.2.2.1 v.2.1.2.2.2.2.2.1 v.2.1.2.2.2.2.2.2.1 v.2.1.2.2.2.2.2.2.2.1 v.2.2.1.2.2.2.2.2.2.2.1 u0.2.1 v.2.2.2.1.1 v.2.2.2.1.2.1 v.2.2.2.1.2.2.1 v.2.2.2.1.2.2.2.2.1 v.2.2.2.1.2.2.2.2.2.2.1 v.2.2.2.1.2.2.2.2.2.2.2.1) (Qub k K ws rs N X) ws rs
noncomputable def L91 : Option R := bif id == 1000012 then Ql5 k K ws rs N X else bif id == 1 then L91_1 k K ws rs N X else bif id == 1000019 then Ql6 k K ws rs N X else bif id == 1000023 then Ql8 k K ws rs N X else bif id == 1000025 then Ql9 k K ws rs N X else bif id == 1000021 then Ql7 k K ws rs N X else bif id == 1000005 then Ql4 k K ws rs N X else none
theorem Q1ch : L91 k K 1000012 ws rs N X = Quc k K ws rs N X := by
 show Ql5 k K ws rs N X = _
 unfold Ql5
 rw [Qag]
 exact lC (L91 k K) [] (by kernel_rfl) trivial fun x y => by kernel_rfl
theorem i91_1 (c0 : Bool) (c1 : zL5) (c2 : Bool) (c3 : zL5) (c5 c6 : Int) (c7 : ByteArray) (c8 : List Int) (c9 : Int) (c10 : zL5) (c11 c12 c13 c14 : Int) (c15 : ByteArray) (c16 c17 c18 : Int) (m : Nat) : ∀ (c4 : Int) (c19 : zL6),
  iter (atHead an91 0 Qpb) m (fun st N' => exec T an91 (Q0 F) 0 k 106 (S91 k) (E91 K) Qpb st N' (outX an91 0 1 N X)) (sh Qkk [.ptr 1 0, .ptr 2 0, .val [] .bool c0, .val [(0, 0)] zT1 c1, .val [] .bool c2, .val [(0, 0)] zT1 c3, .rw 3, zi c4] [zr9 c5 c6 c7 c8 c9 c10 c11 c12, zr10 c13 c14 c15 c16 c17 c18, zr4 c19]) = Q8k k (fun p17 => N (sh Q12a [.ptr 1 0, .ptr 2 0, .val [] .bool c0, .val [(0, 0)] zT1 c1, .val [] .bool c2, .rw 3] [zr9 c5 c6 c7 c8 c9 c10 c11 c12, zr10 c13 c14 c15 c16 c17 c18, zr4 p17])) c0 c1 c2 c3 c5 c6 c7 c8 c9 c10 c11 c12 c13 c14 c15 c16 c17 c18 m c4 c19 := by
 induction m with
 | zero => intros; rfl
 | succ m ih =>
   intro c4 c19
   simp only [iter]
   rw [← Q9 T an91 (Q0 F) 0 k 106 (S91 k) (L91 k K) Qpb (Qc _ _ _ _ _ _ _ _ Qpb (l := [(1000012, Qhd, Qpr)]) (by kernel_rfl) ⟨Q1ch k K, trivial⟩)]
   have h := fx2 ih
   simp only [Q8k]
   rw [← h]
   show _ = _
   kernel_rfl
theorem l91_1 : L91 k K 1 ws rs N X = I91_1 k K ws rs N X := by
 show L91_1 k K ws rs N X = _
 unfold L91_1
 rw [Qjg]
 exact Q5 (a := Q183) (b := Q18k) (G := fun ws rs => I91_1 k K ws rs N X) (fun x y => Eq.trans (by kernel_rfl) (Eq.trans (i91_1 k K N X x.2.2.1 x.2.2.2.1 x.2.2.2.2.1 x.2.2.2.2.2.1 y.1.1 y.1.2.1 y.1.2.2.1 y.1.2.2.2.1 y.1.2.2.2.2.1 y.1.2.2.2.2.2.1 y.1.2.2.2.2.2.2.1 y.1.2.2.2.2.2.2.2.1 y.2.1.1 y.2.1.2.1 y.2.1.2.2.1 y.2.1.2.2.2.2.1 y.2.1.2.2.2.2.2.2.1 y.2.1.2.2.2.2.2.2.2.1 k x.2.2.2.2.2.2.2.1 y.2.2.1).symm (by kernel_rfl))) ws rs
theorem Q1ci : L91 k K 1000019 ws rs N X = Qud k K ws rs N X := by
 show Ql6 k K ws rs N X = _
 unfold Ql6
 rw [Qai]
 exact lC (L91 k K) [] (by kernel_rfl) trivial fun x y => by kernel_rfl
theorem Q1ck : L91 k K 1000023 ws rs N X = Quf k K ws rs N X := by
 show Ql8 k K ws rs N X = _
 unfold Ql8
 rw [Qak]
 exact lC (L91 k K) [] (by kernel_rfl) trivial fun x y => by kernel_rfl
theorem Q1cl : L91 k K 1000025 ws rs N X = Qug k K ws rs N X := by
 show Ql9 k K ws rs N X = _
 unfold Ql9
 rw [Qal]
 exact lC (L91 k K) [] (by kernel_rfl) trivial fun x y => by kernel_rfl
theorem Q1cj : L91 k K 1000021 ws rs N X = Que k K ws rs N X := by
 show Ql7 k K ws rs N X = _
 unfold Ql7
 rw [Qaj]
 exact lC (L91 k K) [(1000023, Qhg, Qpu), (1000025, Qhh, Qpv)] (by kernel_rfl) ⟨Q1ck k K, Q1cl k K, trivial⟩ fun x y => by kernel_rfl
theorem Q1cg : L91 k K 1000005 ws rs N X = Qub k K ws rs N X := by
 show Ql4 k K ws rs N X = _
 unfold Ql4
 rw [Qaf]
 exact lC (L91 k K) [(1, Qkk, Q193), (1000019, Qhe, Qps), (1000021, Qhf, Qpt)] (by kernel_rfl) ⟨l91_1 k K, Q1ci k K, Q1cj k K, trivial⟩ fun x y => by kernel_rfl
theorem tu91 : tOk (R := R) 91 aa91 ab91 g91 := by
 intro k x y K
 unfold g91
 rw [Q10h]
 cases k with
 | zero => rfl
 | succ k => exact eS Try.f91 an91 0 106 (L91 k K) [(1000005, Qhc, Qpq)] (by kernel_rfl) (Q1f8 k) (by kernel_rfl) ⟨Q1cg k K, trivial⟩ (by kernel_rfl)
noncomputable def s91 := onS (R := R) aa91 ab91 g91 (fun k => callC T F k 91)
theorem Q1ii : sOk (R := R) s91 91 := Q6 (fun _ _ _ _ => rfl) tu91
noncomputable abbrev kt110 : zK7 R := (fun z0 z1 z2 z3 z4 z5 z6 => K [.agg [zi z0, zi z1, .val [] .str z2, zi z3, zi z4, zi z5, .nils, .nils, .val [] .bool z6]] [])
abbrev aa110 : List Sh := [.agg [zv, zv, .val [] .str, .val [(0, 0)] zT2, zv, .val [(0, 0)] zT1, zv, zv]]
abbrev ab110 : List RSh := []
noncomputable def g110 (k : Nat) (v : Sh.D.DL aa110 × RSh.DL ab110) (K : KT R) : Option R := f110 k v.1.1.1 v.1.1.2.1 v.1.1.2.2.1 v.1.1.2.2.2.1 v.1.1.2.2.2.2.1 v.1.1.2.2.2.2.2.1 v.1.1.2.2.2.2.2.2.1 v.1.1.2.2.2.2.2.2.2.1 (kt110 K)
noncomputable abbrev E110 := ending T Try.f110 an110 0 K
noncomputable def S110 := pickS (R := R) [(65, s65)]
theorem Q1a7 : ∀ k, S110 (R := R) k = callC T F k := Q3 ⟨Q134, trivial⟩
theorem tu110 : tOk (R := R) 110 aa110 ab110 g110 := by
 intro k x y K
 unfold g110
 rw [Qqp]
 cases k with
 | zero => rfl
 | succ k => exact eS Try.f110 an110 0 12 L0 [] (by kernel_rfl) (Q1a7 k) (by kernel_rfl) trivial (by kernel_rfl)
noncomputable def s110 := onS (R := R) aa110 ab110 g110 (fun k => callC T F k 110)
theorem Q12w : sOk (R := R) s110 110 := Q6 (fun _ _ _ _ => rfl) tu110
noncomputable abbrev kt129 : zK7 R := (fun z0 z1 z2 z3 z4 z5 z6 => K [.agg [zi z0, zi z1, .val [] .str z2, zi z3, zi z4, zi z5, .nils, .nils, .val [] .bool z6]] [])
abbrev aa129 : List Sh := [.agg [zv, zv, .val [] .str, .val [(0, 0)] zT2, zv, .val [(0, 0)] zT1, zv, zv]]
abbrev ab129 : List RSh := []
noncomputable def g129 (k : Nat) (v : Sh.D.DL aa129 × RSh.DL ab129) (K : KT R) : Option R := f129 k v.1.1.1 v.1.1.2.1 v.1.1.2.2.1 v.1.1.2.2.2.1 v.1.1.2.2.2.2.1 v.1.1.2.2.2.2.2.1 v.1.1.2.2.2.2.2.2.1 v.1.1.2.2.2.2.2.2.2.1 (kt129 K)
noncomputable abbrev E129 := ending T Try.f129 an129 0 K
noncomputable def S129 := pickS (R := R) [(65, s65)]
theorem Q1ao : ∀ k, S129 (R := R) k = callC T F k := Q3 ⟨Q134, trivial⟩
theorem tu129 : tOk (R := R) 129 aa129 ab129 g129 := by
 intro k x y K
 unfold g129
 rw [Qr6]
 cases k with
 | zero => rfl
 | succ k => exact eS Try.f129 an129 0 14 L0 [] (by kernel_rfl) (Q1ao k) (by kernel_rfl) trivial (by kernel_rfl)
noncomputable def s129 := onS (R := R) aa129 ab129 g129 (fun k => callC T F k 129)
theorem Q1du : sOk (R := R) s129 129 := Q6 (fun _ _ _ _ => rfl) tu129
noncomputable abbrev kt130 : zK8 R := (fun z0 z1 z2 z3 z4 z5 z6 z7 => K [.agg [zi z0, zi z1, .val [] .str z2, zi z3, zi z4, zi z5, .rw 1, .nils, .val [] .bool z6]] [zr0 z7])
abbrev aa130 : List Sh := [.agg [zv, zv, .val [] .str, .val [(0, 0)] zT2, zv, .val [(0, 0)] zT1, zv, zv], zv, zv]
abbrev ab130 : List RSh := []
noncomputable def g130 (k : Nat) (v : Sh.D.DL aa130 × RSh.DL ab130) (K : KT R) : Option R := f130 k v.1.1.1 v.1.1.2.1 v.1.1.2.2.1 v.1.1.2.2.2.1 v.1.1.2.2.2.2.1 v.1.1.2.2.2.2.2.1 v.1.1.2.2.2.2.2.2.1 v.1.1.2.2.2.2.2.2.2.1 v.1.2.1 v.1.2.2.1 (kt130 K)
noncomputable abbrev E130 := ending T Try.f130 an130 0 K
noncomputable def S130 := pickS (R := R) []
theorem Q1ap : ∀ k, S130 (R := R) k = callC T F k := Q3 trivial
theorem tu130 : tOk (R := R) 130 aa130 ab130 g130 := by
 intro k x y K
 unfold g130
 rw [Qr7]
 cases k with
 | zero => rfl
 | succ k => exact eS Try.f130 an130 0 22 L0 [] (by kernel_rfl) (Q1ap k) (by kernel_rfl) trivial (by kernel_rfl)
noncomputable def s130 := onS (R := R) aa130 ab130 g130 (fun k => callC T F k 130)
theorem Q1dv : sOk (R := R) s130 130 := Q6 (fun _ _ _ _ => rfl) tu130
noncomputable abbrev kt111 : zK20 R := (fun z0 z1 z2 z3 z4 z5 z6 z7 z8 z9 z10 z11 z12 z13 z14 z15 => K [.agg [zi z0, zi z1, .val [] .str z2, zi z3, zi z4, zi z5, .rw 2, .nils, .val [] .bool z6]] [zr9 z7 z8 z9 z10 z11 z12 z13 z14, zr0 z15])
abbrev aa111 : List Sh := [.agg [zv, zv, zv, zv, zv], .ptr 1 0]
abbrev ab111 : List RSh := [zs7]
noncomputable def g111 (k : Nat) (v : Sh.D.DL aa111 × RSh.DL ab111) (K : KT R) : Option R := f111 k v.1.1.1 v.1.1.2.1 v.1.1.2.2.1 v.1.1.2.2.2.1 v.1.1.2.2.2.2.1 v.2.1.1 v.2.1.2.1 v.2.1.2.2.1 v.2.1.2.2.2.1 v.2.1.2.2.2.2.1 v.2.1.2.2.2.2.2.1 v.2.1.2.2.2.2.2.2.1 v.2.1.2.2.2.2.2.2.2.1 (kt111 K)
noncomputable abbrev E111 := ending T Try.f111 an111 1 K
noncomputable def S111 := pickS (R := R) [(75, s75), (110, s110), (118, s118), (129, s129), (130, s130)]
theorem Q1a8 : ∀ k, S111 (R := R) k = callC T F k := Q3 ⟨Qso, Q12w, Qo1, Q1du, Q1dv, trivial⟩
noncomputable abbrev Qod : Option R := inner T an111 (Q0 F) 1 k 140 (S111 k) (E111 K) Qih (sh Qc1 ws rs) N X
abbrev Qvh : List Sh := [.ptr 1 0, .ptr 2 0, .val [(0, 0)] zT1, zv, zv, .nils, .val [] .bool]
abbrev Qwc : List RSh := [zs7, zs10]
noncomputable def Qe1 : Option R :=
 Q4 Qvh Qwc (fun v => let u0 := v.2.2.1.2.2.2.2.2.2.2; Qf7 k (fun p18 => N (sh Qrs [.ptr 1 0, .ptr 2 0, .val [(0, 0)] zT1 v.1.2.2.1, zi v.1.2.2.2.1, zi v.1.2.2.2.2.1, .rw 3] [zr9 v.2.1.1 v.2.1.2.1 v.2.1.2.2.1 v.2.1.2.2.2.1 v.2.1.2.2.2.2.1 v.2.1.2.2.2.2.2.1 v.2.1.2.2.2.2.2.2.1 v.2.1.2.2.2.2.2.2.2.1, ⟨0, .vars [zi v.2.2.1.1, zi v.2.2.1.2.1, .val [] .str v.2.2.1.2.2.1, zi v.2.2.1.2.2.2.1, zi v.2.2.1.2.2.2.2.1, zi v.2.2.1.2.2.2.2.2.1, .nils, .nils, .val [] .bool u0.2.1]⟩, zr4 p18])) v.1.2.2.1 v.1.2.2.2.2.1 v.1.2.2.2.2.2.2.1) (Qod k K ws rs N X) ws rs
noncomputable def L111 : Option R := bif id == 1000012 then Qe1 k K ws rs N X else none
theorem Q167 : L111 k K 1000012 ws rs N X = Qod k K ws rs N X := by
 show Qe1 k K ws rs N X = _
 unfold Qe1
 rw [Q7r]
 exact lC (L111 k K) [] (by kernel_rfl) trivial fun x y => by kernel_rfl
theorem tu111 : tOk (R := R) 111 aa111 ab111 g111 := by
 intro k x y K
 unfold g111
 rw [Qqq]
 cases k with
 | zero => rfl
 | succ k => exact eS Try.f111 an111 1 140 (L111 k K) [(1000012, Qc1, Qih)] (by kernel_rfl) (Q1a8 k) (by kernel_rfl) ⟨Q167 k K, trivial⟩ (by kernel_rfl)
noncomputable def s111 := onS (R := R) aa111 ab111 g111 (fun k => callC T F k 111)
theorem Q1dh : sOk (R := R) s111 111 := Q6 (fun _ _ _ _ => rfl) tu111
noncomputable abbrev kt81 : zK10 R := (fun z0 z1 z2 z3 z4 z5 z6 z7 z8 => K [.agg [zi z0, zi z1, .val [] .str z2, .val [(0, 0)] zT2 z3, zi z4, .val [(0, 0)] zT1 z5, zi z6, zi z7], .rw 1] [zr11 z8])
abbrev aa81 : List Sh := [.agg [zv, zv, zv, zv, zv], .agg [zv, zv, .val [] .str, .val [(0, 0)] zT2, zv, .val [(0, 0)] zT1, zv, zv]]
abbrev ab81 : List RSh := []
noncomputable def g81 (k : Nat) (v : Sh.D.DL aa81 × RSh.DL ab81) (K : KT R) : Option R := f81 k v.1.1.1 v.1.1.2.1 v.1.1.2.2.1 v.1.1.2.2.2.1 v.1.1.2.2.2.2.1 v.1.2.1.1 v.1.2.1.2.1 v.1.2.1.2.2.1 v.1.2.1.2.2.2.1 v.1.2.1.2.2.2.2.1 v.1.2.1.2.2.2.2.2.1 v.1.2.1.2.2.2.2.2.2.1 v.1.2.1.2.2.2.2.2.2.2.1 (kt81 K)
noncomputable abbrev E81 := ending T Try.f81 an81 0 K
noncomputable def S81 := pickS (R := R) [(110, s110), (111, s111)]
theorem Q1f0 : ∀ k, S81 (R := R) k = callC T F k := Q3 ⟨Q12w, Q1dh, trivial⟩
noncomputable abbrev I81_1 : Option R := inner T an81 (Q0 F) 0 k 66 (S81 k) (E81 K) Q18y (sh Qkf ws rs) N X
abbrev Q17y : List Sh := [.ptr 1 0, .ptr 2 0, .ptr 3 0, .rw 4]
abbrev Q18f : List RSh := [zs3, zs7, zs8, .arr [] zP0]
noncomputable def L81_1 : Option R :=
 Q4 Q17y Q18f (fun v => f81_1 k (fun p0 p1 p2 p3 p4 p5 p6 p7 p14 => N (sh Q125 [.ptr 1 0, .ptr 2 0, .rw 3] [zr9 p0 p1 p2 p3 p4 p5 p6 p7, zr10 v.2.2.2.1.1 v.2.2.2.1.2.1 v.2.2.2.1.2.2.1 v.2.2.2.1.2.2.2.2.1 v.2.2.2.1.2.2.2.2.2.2.1 v.2.2.2.1.2.2.2.2.2.2.2.1, zr11 p14])) v.2.1.1 v.2.1.2.1 v.2.1.2.2.1 v.2.1.2.2.2.1 v.2.1.2.2.2.2.1 v.2.2.2.1.1 v.2.2.2.1.2.1 v.2.2.2.1.2.2.1 v.2.2.2.1.2.2.2.2.1 v.2.2.2.1.2.2.2.2.2.2.1 v.2.2.2.1.2.2.2.2.2.2.2.1 k v.2.2.1.1 v.2.2.1.2.1 v.2.2.1.2.2.1 v.2.2.1.2.2.2.1 v.2.2.1.2.2.2.2.1 v.2.2.1.2.2.2.2.2.1 v.2.2.1.2.2.2.2.2.2.1 v.2.2.1.2.2.2.2.2.2.2.1 v.2.2.2.2.1) (I81_1 k K ws rs N X) ws rs
noncomputable abbrev Qu1 : Option R := inner T an81 (Q0 F) 0 k 66 (S81 k) (E81 K) Qpg (sh Qh2 ws rs) N X
abbrev Q13s : List Sh := [.ptr 1 0, .ptr 2 0, .ptr 3 0, .nils, .val [] .bool]
abbrev Q14l : List RSh := [zs3, zs7, zs8]
noncomputable def Qku : Option R :=
 Q4 Q13s Q14l (fun v => Qmw k (fun p0 p1 p2 p3 p4 p5 p6 p7 p14 => N (sh Q10x [.ptr 1 0, .ptr 2 0, .rw 3] [zr9 p0 p1 p2 p3 p4 p5 p6 p7, zr10 v.2.2.2.1.1 v.2.2.2.1.2.1 v.2.2.2.1.2.2.1 v.2.2.2.1.2.2.2.2.1 v.2.2.2.1.2.2.2.2.2.2.1 v.2.2.2.1.2.2.2.2.2.2.2.1, zr11 p14])) v.1.2.2.2.2.1 v.2.1.1 v.2.1.2.1 v.2.1.2.2.1 v.2.1.2.2.2.1 v.2.1.2.2.2.2.1 v.2.2.1.1 v.2.2.1.2.1 v.2.2.1.2.2.1 v.2.2.1.2.2.2.1 v.2.2.1.2.2.2.2.1 v.2.2.1.2.2.2.2.2.1 v.2.2.1.2.2.2.2.2.2.1 v.2.2.1.2.2.2.2.2.2.2.1 v.2.2.2.1.1 v.2.2.2.1.2.1 v.2.2.2.1.2.2.1 v.2.2.2.1.2.2.2.2.1 v.2.2.2.1.2.2.2.2.2.2.1 v.2.2.2.1.2.2.2.2.2.2.2.1) (Qu1 k K ws rs N X) ws rs
noncomputable def L81 : Option R := bif id == 1 then L81_1 k K ws rs N X else bif id == 1000014 then Qku k K ws rs N X else none
theorem i81_1 (c0 c1 c2 c3 c4 c13 c14 : Int) (c15 : ByteArray) (c16 c17 c18 : Int) (m : Nat) : ∀ (c5 c6 : Int) (c7 : ByteArray) (c8 : List Int) (c9 : Int) (c10 : zL5) (c11 c12 : Int) (c19 : zL3),
  iter (atHead an81 0 Qp6) m (fun st N' => exec T an81 (Q0 F) 0 k 66 (S81 k) (E81 K) Qp6 st N' (outX an81 0 1 N X)) (sh Qkf [.ptr 1 0, .ptr 2 0, .ptr 3 0, .rw 4] [zr5 c0 c1 c2 c3 c4, zr9 c5 c6 c7 c8 c9 c10 c11 c12, zr10 c13 c14 c15 c16 c17 c18, zr11 c19]) = Q8h k (fun p0 p1 p2 p3 p4 p5 p6 p7 p14 => N (sh Q125 [.ptr 1 0, .ptr 2 0, .rw 3] [zr9 p0 p1 p2 p3 p4 p5 p6 p7, zr10 c13 c14 c15 c16 c17 c18, zr11 p14])) c0 c1 c2 c3 c4 c13 c14 c15 c16 c17 c18 m c5 c6 c7 c8 c9 c10 c11 c12 c19 := by
 induction m with
 | zero => intros; rfl
 | succ m ih =>
   intro c5 c6 c7 c8 c9 c10 c11 c12 c19
   simp only [iter]
   rw [← Q9 T an81 (Q0 F) 0 k 66 (S81 k) (L81 k K) Qp6 (Qc _ _ _ _ _ _ _ _ Qp6 (l := []) (by kernel_rfl) trivial)]
   have h := fx9 ih
   simp only [Q8h]
   rw [← h]
   show _ = _
   kernel_rfl
theorem l81_1 : L81 k K 1 ws rs N X = I81_1 k K ws rs N X := by
 show L81_1 k K ws rs N X = _
 unfold L81_1
 rw [Qja]
 exact Q5 (a := Q17y) (b := Q18f) (G := fun ws rs => I81_1 k K ws rs N X) (fun x y => Eq.trans (by kernel_rfl) (Eq.trans (i81_1 k K N X y.1.1 y.1.2.1 y.1.2.2.1 y.1.2.2.2.1 y.1.2.2.2.2.1 y.2.2.1.1 y.2.2.1.2.1 y.2.2.1.2.2.1 y.2.2.1.2.2.2.2.1 y.2.2.1.2.2.2.2.2.2.1 y.2.2.1.2.2.2.2.2.2.2.1 k y.2.1.1 y.2.1.2.1 y.2.1.2.2.1 y.2.1.2.2.2.1 y.2.1.2.2.2.2.1 y.2.1.2.2.2.2.2.1 y.2.1.2.2.2.2.2.2.1 y.2.1.2.2.2.2.2.2.2.1 y.2.2.2.1).symm (by kernel_rfl))) ws rs
theorem Q1c6 : L81 k K 1000014 ws rs N X = Qu1 k K ws rs N X := by
 show Qku k K ws rs N X = _
 unfold Qku
 rw [Qa7]
 exact lC (L81 k K) [(1, Qkf, Q18y)] (by kernel_rfl) ⟨l81_1 k K, trivial⟩ fun x y => by kernel_rfl
theorem tu81 : tOk (R := R) 81 aa81 ab81 g81 := by
 intro k x y K
 unfold g81
 rw [Q105]
 cases k with
 | zero => rfl
 | succ k => exact eS Try.f81 an81 0 66 (L81 k K) [(1000014, Qh2, Qpg)] (by kernel_rfl) (Q1f0 k) (by kernel_rfl) ⟨Q1c6 k K, trivial⟩ (by kernel_rfl)
noncomputable def s81 := onS (R := R) aa81 ab81 g81 (fun k => callC T F k 81)
theorem Q1id : sOk (R := R) s81 81 := Q6 (fun _ _ _ _ => rfl) tu81
noncomputable abbrev Q1c4 : zK19 R := (fun z0 z1 z2 z3 z4 z5 z6 z7 z8 z9 z10 z11 z12 z13 z14 z15 z16 z17 z18 z19 z20 z21 z22 z23 z24 z25 z26 z27 => K [] [zr13 z0 z1 z2 z3 z4 z5 z6 z7 z8 z9 z10 z11 z12 z13 z14 z15 z16 z17 z18 z19 z20 z21 z22 z23 z24 z25, ⟨0, .gone⟩, ⟨0, .gone⟩, zr2 z26, zr2 z27])
abbrev Qlq : List Sh := [.ptr 1 22, .val [(0, 0)] (.slice zP0), zv]
abbrev Qlw : List RSh := [zs11, .arr [(0, 0)] zP2, .arr [(0, 0)] zP2]
noncomputable def g127v1 (k : Nat) (v : Sh.D.DL Qlq × RSh.DL Qlw) (K : KT R) : Option R := let u0 := v.2.1.2.2.2.2.2.2.2; let u1 := u0.2.2.2.2.2.2.2; let u2 := u1.2.2.2.2.2.2.2; f127v1 k v.1.2.1 v.1.2.2.1 v.2.1.1 v.2.1.2.1 v.2.1.2.2.1 v.2.1.2.2.2.1 v.2.1.2.2.2.2.1 v.2.1.2.2.2.2.2.1 v.2.1.2.2.2.2.2.2.1 v.2.1.2.2.2.2.2.2.2.1 u0.2.1 u0.2.2.1 u0.2.2.2.1 u0.2.2.2.2.1 u0.2.2.2.2.2.1 u0.2.2.2.2.2.2.1 u0.2.2.2.2.2.2.2.1 u1.2.1 u1.2.2.1 u1.2.2.2.1 u1.2.2.2.2.1 u1.2.2.2.2.2.1 u1.2.2.2.2.2.2.1 u1.2.2.2.2.2.2.2.1 u2.2.1 u2.2.2.1 u2.2.2.2.2.1 u2.2.2.2.2.2.1 v.2.2.1 v.2.2.2.1 (Q1c4 K)
noncomputable abbrev E127v1 := ending T Try.f127 an127 3 K
noncomputable def S127v1 := pickS (R := R) []
theorem Qva : ∀ k, S127v1 (R := R) k = callC T F k := Q3 trivial
noncomputable abbrev Qcp : Option R := inner T an127 (Q0 F) 3 k 58 (S127v1 k) (E127v1 K) Q68 (sh Q4u ws rs) N X
abbrev Qlr : List Sh := [.ptr 1 22, .val [(0, 0)] (.slice zP0), zv, zv, .val [] .bool]
abbrev Qlx : List RSh := [zs12, .gone, .gone, .arr [(0, 0)] zP2, .arr [(0, 0)] zP2]
noncomputable def Q72 : Option R :=
 Q4 Qlr Qlx (fun v => let u0 := v.2.1.2.2.2.2.2.2.2; let u1 := u0.2.2.2.2.2.2.2; let u2 := u1.2.2.2.2.2.2.2; Q53 k (fun p29 => N (sh Qna [.ptr 1 22, .val [(0, 0)] (.slice zP0) v.1.2.1, zi v.1.2.2.1, zi v.1.2.2.2.1] [zr13 v.2.1.1 v.2.1.2.1 v.2.1.2.2.1 v.2.1.2.2.2.1 v.2.1.2.2.2.2.1 v.2.1.2.2.2.2.2.1 v.2.1.2.2.2.2.2.2.1 v.2.1.2.2.2.2.2.2.2.1 u0.2.1 u0.2.2.1 u0.2.2.2.1 u0.2.2.2.2.1 u0.2.2.2.2.2.1 u0.2.2.2.2.2.2.1 u0.2.2.2.2.2.2.2.1 u1.2.1 u1.2.2.1 u1.2.2.2.1 u1.2.2.2.2.1 u1.2.2.2.2.2.1 u1.2.2.2.2.2.2.1 u1.2.2.2.2.2.2.2.1 u2.2.1 u2.2.2.1 u2.2.2.2.2.1 u2.2.2.2.2.2.1, ⟨0, .gone⟩, ⟨0, .gone⟩, zr2 p29, zr2 v.2.2.2.2.2.1])) v.1.2.1 v.1.2.2.1 v.1.2.2.2.1 v.1.2.2.2.2.1 v.2.2.2.2.1) (Qcp k K ws rs N X) ws rs
noncomputable abbrev Qdy : Option R := inner T an127 (Q0 F) 3 k 58 (S127v1 k) (E127v1 K) Qf2 (sh Q4t ws rs) N X
abbrev Qi2 : List Sh := [.ptr 1 22, .val [(0, 0)] (.slice zP0), zv, zv]
abbrev Qi6 : List RSh := [zs12, .gone, .gone, .arr [(0, 0)] zP2, .arr [(0, 0)] zP2]
noncomputable def Qeh : Option R :=
 Q4 Qi2 Qi6 (fun v => let u0 := v.2.1.2.2.2.2.2.2.2; let u1 := u0.2.2.2.2.2.2.2; let u2 := u1.2.2.2.2.2.2.2; Qfl k (fun p23 p26 => N (sh Qb3 [] [zr13 v.2.1.1 v.2.1.2.1 v.2.1.2.2.1 v.2.1.2.2.2.1 v.2.1.2.2.2.2.1 v.2.1.2.2.2.2.2.1 v.2.1.2.2.2.2.2.2.1 v.2.1.2.2.2.2.2.2.2.1 u0.2.1 u0.2.2.1 u0.2.2.2.1 u0.2.2.2.2.1 u0.2.2.2.2.2.1 u0.2.2.2.2.2.2.1 u0.2.2.2.2.2.2.2.1 u1.2.1 u1.2.2.1 u1.2.2.2.1 u1.2.2.2.2.1 u1.2.2.2.2.2.1 u1.2.2.2.2.2.2.1 u1.2.2.2.2.2.2.2.1 u2.2.1 p23 u2.2.2.2.2.1 u2.2.2.2.2.2.1, ⟨0, .gone⟩, ⟨0, .gone⟩, zr2 p26, zr2 v.2.2.2.2.2.1])) v.1.2.1 v.1.2.2.1 v.2.1.1 v.2.1.2.1 v.2.1.2.2.1 v.2.1.2.2.2.1 v.2.1.2.2.2.2.1 v.2.1.2.2.2.2.2.1 v.2.1.2.2.2.2.2.2.1 v.2.1.2.2.2.2.2.2.2.1 u0.2.1 u0.2.2.1 u0.2.2.2.1 u0.2.2.2.2.1 u0.2.2.2.2.2.1 u0.2.2.2.2.2.2.1 u0.2.2.2.2.2.2.2.1 u1.2.1 u1.2.2.1 u1.2.2.2.1 u1.2.2.2.2.1 u1.2.2.2.2.2.1 u1.2.2.2.2.2.2.1 u1.2.2.2.2.2.2.2.1 u2.2.1 u2.2.2.2.2.1 u2.2.2.2.2.2.1 v.2.2.2.2.2.1 k v.1.2.2.2.1 u2.2.2.1 v.2.2.2.2.1) (Qdy k K ws rs N X) ws rs
noncomputable def L127v1 : Option R := bif id == 1000004 then Q72 k K ws rs N X else bif id == 0 then Qeh k K ws rs N X else none
theorem Qtb : L127v1 k K 1000004 ws rs N X = Qcp k K ws rs N X := by
 show Q72 k K ws rs N X = _
 unfold Q72
 rw [Q23]
 exact lC (L127v1 k K) [] (by kernel_rfl) trivial fun x y => by kernel_rfl
theorem Q161 (c0 : zL2) (c1 c3 c4 c5 c6 c7 c8 c9 : Int) (c10 : ByteArray) (c11 : List Int) (c12 : Int) (c13 : zL5) (c14 c15 c16 c17 : Int) (c18 : ByteArray) (c19 : List Int) (c20 : zL5) (c21 c22 c23 c24 : Int) (c25 c27 : List Bool) (c28 : Int) (c30 : zL1) (m : Nat) : ∀ (c2 c26 : Int) (c29 : zL1),
  iter (atHead an127 3 Q3v) m (fun st N' => exec T an127 (Q0 F) 3 k 58 (S127v1 k) (E127v1 K) Q3v st N' (outX an127 3 0 N X)) (sh Q4t [.ptr 1 22, .val [(0, 0)] (.slice zP0) c0, zi c1, zi c2] [zr13 c3 c4 c5 c6 c7 c8 c9 c10 c11 c12 c13 c14 c15 c16 c17 c18 c19 c20 c21 c22 c23 c24 c25 c26 c27 c28, ⟨0, .gone⟩, ⟨0, .gone⟩, zr2 c29, zr2 c30]) = Q1d k (fun p23 p26 => N (sh Qb3 [] [zr13 c3 c4 c5 c6 c7 c8 c9 c10 c11 c12 c13 c14 c15 c16 c17 c18 c19 c20 c21 c22 c23 c24 c25 p23 c27 c28, ⟨0, .gone⟩, ⟨0, .gone⟩, zr2 p26, zr2 c30])) c0 c1 c3 c4 c5 c6 c7 c8 c9 c10 c11 c12 c13 c14 c15 c16 c17 c18 c19 c20 c21 c22 c23 c24 c25 c27 c28 c30 m c2 c26 c29 := by
 induction m with
 | zero => intros; rfl
 | succ m ih =>
   intro c2 c26 c29
   simp only [iter]
   rw [← Q9 T an127 (Q0 F) 3 k 58 (S127v1 k) (L127v1 k K) Q3v (Qc _ _ _ _ _ _ _ _ Q3v (l := [(1000004, Q4u, Q68)]) (by kernel_rfl) ⟨Qtb k K, trivial⟩)]
   have h := fx3 ih
   simp only [Q1d]
   rw [← h]
   show _ = _
   kernel_rfl
theorem Q16n : L127v1 k K 0 ws rs N X = Qdy k K ws rs N X := by
 show Qeh k K ws rs N X = _
 unfold Qeh
 rw [Q84]
 exact Q5 (a := Qi2) (b := Qi6) (G := fun ws rs => Qdy k K ws rs N X) (fun x y => Eq.trans (by kernel_rfl) (Eq.trans (Q161 k K N X x.2.1 x.2.2.1 y.1.1 y.1.2.1 y.1.2.2.1 y.1.2.2.2.1 y.1.2.2.2.2.1 y.1.2.2.2.2.2.1 y.1.2.2.2.2.2.2.1 y.1.2.2.2.2.2.2.2.1 y.1.2.2.2.2.2.2.2.2.1 y.1.2.2.2.2.2.2.2.2.2.1 y.1.2.2.2.2.2.2.2.2.2.2.1 y.1.2.2.2.2.2.2.2.2.2.2.2.1 y.1.2.2.2.2.2.2.2.2.2.2.2.2.1 y.1.2.2.2.2.2.2.2.2.2.2.2.2.2.1 y.1.2.2.2.2.2.2.2.2.2.2.2.2.2.2.1 y.1.2.2.2.2.2.2.2.2.2.2.2.2.2.2.2.1 y.1.2.2.2.2.2.2.2.2.2.2.2.2.2.2.2.2.1 y.1.2.2.2.2.2.2.2.2.2.2.2.2.2.2.2.2.2.1 y.1.2.2.2.2.2.2.2.2.2.2.2.2.2.2.2.2.2.2.1 y.1.2.2.2.2.2.2.2.2.2.2.2.2.2.2.2.2.2.2.2.1 y.1.2.2.2.2.2.2.2.2.2.2.2.2.2.2.2.2.2.2.2.2.1 y.1.2.2.2.2.2.2.2.2.2.2.2.2.2.2.2.2.2.2.2.2.2.1 y.1.2.2.2.2.2.2.2.2.2.2.2.2.2.2.2.2.2.2.2.2.2.2.1 y.1.2.2.2.2.2.2.2.2.2.2.2.2.2.2.2.2.2.2.2.2.2.2.2.2.2.1 y.1.2.2.2.2.2.2.2.2.2.2.2.2.2.2.2.2.2.2.2.2.2.2.2.2.2.2.1 y.2.2.2.2.1 k x.2.2.2.1 y.1.2.2.2.2.2.2.2.2.2.2.2.2.2.2.2.2.2.2.2.2.2.2.2.1 y.2.2.2.1).symm (by kernel_rfl))) ws rs
theorem Q1e2 : tOk (R := R) 127 Qlq Qlw g127v1 := by
 intro k x y K
 unfold g127v1
 rw [Qdi]
 cases k with
 | zero => rfl
 | succ k => exact eS Try.f127 an127 3 58 (L127v1 k K) [(0, Q4t, Qf2)] (by kernel_rfl) (Qva k) (by kernel_rfl) ⟨Q16n k K, trivial⟩ (by kernel_rfl)
noncomputable def s127v1 := onS (R := R) Qlq Qlw g127v1 s127
theorem Q132 : sOk (R := R) s127v1 127 := Q6 Q1ds Q1e2
noncomputable abbrev kt85 : zK2 R := (fun z0 z1 z2 z3 z4 z5 z6 z7 z8 z9 z10 => K [.agg [zi z0, zi z1, .val [] .str z2, .val [(0, 0)] zT2 z3, .val [(0, 0)] zT1 z4, zi z5, zi z6, zi z7, zi z8], .rw 1, zi z9] [zr11 z10])
abbrev aa85 : List Sh := [.agg [zv, zv, zv, zv, zv], .agg [zv, zv, .val [] .str, .val [(0, 0)] zT2, .val [(0, 0)] zT1, zv, zv, zv, zv]]
abbrev ab85 : List RSh := []
noncomputable def g85 (k : Nat) (v : Sh.D.DL aa85 × RSh.DL ab85) (K : KT R) : Option R := let u0 := v.1.2.1.2.2.2.2.2.2.2; f85 k v.1.1.1 v.1.1.2.1 v.1.1.2.2.1 v.1.1.2.2.2.1 v.1.1.2.2.2.2.1 v.1.2.1.1 v.1.2.1.2.1 v.1.2.1.2.2.1 v.1.2.1.2.2.2.1 v.1.2.1.2.2.2.2.1 v.1.2.1.2.2.2.2.2.1 v.1.2.1.2.2.2.2.2.2.1 v.1.2.1.2.2.2.2.2.2.2.1 u0.2.1 (kt85 K)
noncomputable abbrev E85 := ending T Try.f85 an85 0 K
noncomputable def S85 := pickS (R := R) [(75, s75), (113, s113)]
theorem Q1f2 : ∀ k, S85 (R := R) k = callC T F k := Q3 ⟨Qso, Qo0, trivial⟩
theorem tu85 : tOk (R := R) 85 aa85 ab85 g85 := by
 intro k x y K
 unfold g85
 rw [Q107]
 cases k with
 | zero => rfl
 | succ k => exact eS Try.f85 an85 0 61 L0 [] (by kernel_rfl) (Q1f2 k) (by kernel_rfl) trivial (by kernel_rfl)
noncomputable def s85 := onS (R := R) aa85 ab85 g85 (fun k => callC T F k 85)
theorem Q1if : sOk (R := R) s85 85 := Q6 (fun _ _ _ _ => rfl) tu85
end Go.Proofs.Ytlcklflbhhnnhaa.PM
