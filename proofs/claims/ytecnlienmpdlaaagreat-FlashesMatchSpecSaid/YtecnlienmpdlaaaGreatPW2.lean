import Derived.Test.YtecnlienmpdlaaaGreatPW1
set_option linter.unusedVariables false
set_option linter.unusedSimpArgs false
set_option maxRecDepth 100000
namespace Go.Proofs.YtecnlienmpdlaaaGreat.PM
open Go
variable {R : Type} (k : Nat) (K : KT R) (id : Nat) (ws : List PV) (rs : List RowS) (N : St → Oq R) (X : Nat → St → Oq R)
noncomputable abbrev kt108 : zL2 → Oq R := (fun z0 => K [.rw 1] [zr8 z0])
abbrev aa108 : List Sh := [.val [(0, 0)] zP3, .val [] .str, zv]
abbrev ab108 : List RSh := []
noncomputable def g108 (k : Nat) (v : Sh.D.DL aa108 × RSh.DL ab108) (K : KT R) : Oq R := f108 k v.1.1 v.1.2.1 v.1.2.2.1 (kt108 K)
noncomputable abbrev E108 := ending T Tryz.f108 an108 0 K
noncomputable def S108 := pickS (R := R) []
theorem Q1aq : ∀ k, S108 (R := R) k = callC T F k := Q5 trivial
noncomputable abbrev Qp8 : Oq R := inner T an108 (Q0 F) 0 k 48 (S108 k) (E108 K) Qju (sh Qda ws rs) N X
abbrev Qwg : List Sh := [.val [(0, 0)] zP3, .val [] .str, zv, .rw 1, zv, .val [] .bool]
abbrev Qxs : List RSh := [.arr [(0, 0)] zP0]
noncomputable def Qgf : Oq R :=
 Q6 Qwg Qxs (fun v => Qay k (fun p4 => N (sh Q7i [.val [(0, 0)] zP3 v.1.1, .val [] .str v.1.2.1, zi v.1.2.2.1, .rw 1, zi v.1.2.2.2.2.1] [zr8 p4])) v.1.1 v.1.2.2.2.2.1 v.1.2.2.2.2.2.1 v.2.1) (Qp8 k K ws rs N X) ws rs
noncomputable abbrev Qub : Oq R := inner T an108 (Q0 F) 0 k 48 (S108 k) (E108 K) Qz7 (sh Q7i ws rs) N X
abbrev Qwf : List Sh := [.val [(0, 0)] zP3, .val [] .str, zv, .rw 1, zv]
abbrev Qxr : List RSh := [.arr [(0, 0)] zP0]
noncomputable def Qvg : Oq R :=
 Q6 Qwf Qxr (fun v => Q10d k (fun p0 => N (sh Qfa [.rw 1] [zr8 p0])) v.1.1 v.1.2.1 v.1.2.2.1 k v.1.2.2.2.2.1 v.2.1) (Qub k K ws rs N X) ws rs
noncomputable def L108 : Oq R := bif id == 1000006 then Qgf k K ws rs N X else bif id == 0 then Qvg k K ws rs N X else none
theorem Q167 : L108 k K 1000006 ws rs N X = Qp8 k K ws rs N X := by
 show Qgf k K ws rs N X = _
 unfold Qgf
 rw [Q9r]
 exact lC (L108 k K) [] (by kernel_rfl) trivial fun x y => by kernel_rfl
theorem Q1gn (c0 : zL1) (c1 : BA) (c2 : Int) (m : Nat) : ∀ (c3 : Int) (c4 : zL2),
  iter (atHead an108 0 Qh1) m (fun st N' => exec T an108 (Q0 F) 0 k 48 (S108 k) (E108 K) Qh1 st N' (outX an108 0 0 N X)) (sh Q7i [.val [(0, 0)] zP3 c0, .val [] .str c1, zi c2, .rw 1, zi c3] [zr8 c4]) = Q2m k (fun p0 => N (sh Qfa [.rw 1] [zr8 p0])) c0 c1 c2 m c3 c4 := by
 induction m with
 | zero => intros; rfl
 | succ m ih =>
   intro c3 c4
   simp only [iter]
   rw [← Q7 T an108 (Q0 F) 0 k 48 (S108 k) (L108 k K) Qh1 (Qb _ _ _ _ _ _ _ _ Qh1 (l := [(1000006, Qda, Qju)]) (by kernel_rfl) ⟨Q167 k K, trivial⟩)]
   have h := fx2 ih
   simp only [Q2m]
   rw [← h]
   show _ = _
   kernel_rfl
theorem Q1hp : L108 k K 0 ws rs N X = Qub k K ws rs N X := by
 show Qvg k K ws rs N X = _
 unfold Qvg
 rw [Qee]
 exact Q4 (a := Qwf) (b := Qxr) (G := fun ws rs => Qub k K ws rs N X) (fun x y => Eq.trans (by kernel_rfl) (Eq.trans (Q1gn k K N X x.1 x.2.1 x.2.2.1 k x.2.2.2.2.1 y.1).symm (by kernel_rfl))) ws rs
theorem tu108 : tOk (R := R) 108 aa108 ab108 g108 := by
 intro k x y K
 unfold g108
 rw [Qr4]
 cases k with
 | zero => rfl
 | succ k => exact eS Tryz.f108 an108 0 48 (L108 k K) [(0, Q7i, Qz7)] (by kernel_rfl) (Q1aq k) (by kernel_rfl) ⟨Q1hp k K, trivial⟩ (by kernel_rfl)
noncomputable def s108 := onS (R := R) aa108 ab108 g108 (fun k => callC T F k 108)
theorem Q14i : sOk (R := R) s108 108 := Qc (fun _ _ _ _ => rfl) tu108
noncomputable abbrev kt110 : zK8 R := (fun z0 z1 z2 z3 z4 z5 z6 => K [.agg [zi z0, .val [] .bool z1, .val [] .str z2, zi z3, .val [] .bool z4, .val [(0, 0)] zT2 z5], .val [] .bool z6] [])
abbrev aa110 : List Sh := [.val [(0, 0)] zP3, zv]
abbrev ab110 : List RSh := []
noncomputable def g110 (k : Nat) (v : Sh.D.DL aa110 × RSh.DL ab110) (K : KT R) : Oq R := f110 k v.1.1 v.1.2.1 (kt110 K)
noncomputable abbrev E110 := ending T Tryz.f110 an110 0 K
noncomputable def S110 := pickS (R := R) []
theorem Q1as : ∀ k, S110 (R := R) k = callC T F k := Q5 trivial
noncomputable abbrev Que : Oq R := inner T an110 (Q0 F) 0 k 27 (S110 k) (E110 K) Qza (sh Q9e ws rs) N X
abbrev Qwk : List Sh := [.val [(0, 0)] zP3, zv, .ptr 1 0, zv]
abbrev Qxw : List RSh := [.vars [zv, .val [] .bool, .val [] .str, zv, .val [] .bool, .nils]]
noncomputable def Qvj : Oq R :=
 Q6 Qwk Qxw (fun v => Q10i k (kt110 K) (N (sh Q44 [.ptr 1 0] [⟨0, .vars [zi v.2.1.1, .val [] .bool v.2.1.2.1, .val [] .str v.2.1.2.2.1, zi v.2.1.2.2.2.1, .val [] .bool v.2.1.2.2.2.2.1, .nils]⟩])) v.1.1 v.1.2.1 v.2.1.1 v.2.1.2.1 v.2.1.2.2.1 v.2.1.2.2.2.1 v.2.1.2.2.2.2.1 k v.1.2.2.2.1) (Que k K ws rs N X) ws rs
noncomputable def L110 : Oq R := bif id == 0 then Qvj k K ws rs N X else none
theorem Q1gq (c0 : zL1) (c1 c3 : Int) (c4 : Bool) (c5 : BA) (c6 : Int) (c7 : Bool) (m : Nat) : ∀ (c2 : Int),
  iter (atHead an110 0 Qh4) m (fun st N' => exec T an110 (Q0 F) 0 k 27 (S110 k) (E110 K) Qh4 st N' (outX an110 0 0 N X)) (sh Q9e [.val [(0, 0)] zP3 c0, zi c1, .ptr 1 0, zi c2] [⟨0, .vars [zi c3, .val [] .bool c4, .val [] .str c5, zi c6, .val [] .bool c7, .nils]⟩]) = Q4w k (kt110 K) (N (sh Q44 [.ptr 1 0] [⟨0, .vars [zi c3, .val [] .bool c4, .val [] .str c5, zi c6, .val [] .bool c7, .nils]⟩])) c0 c1 c3 c4 c5 c6 c7 m c2 := by
 induction m with
 | zero => intros; rfl
 | succ m ih =>
   intro c2
   simp only [iter]
   rw [← Q7 T an110 (Q0 F) 0 k 27 (S110 k) (L110 k K) Qh4 (Qb _ _ _ _ _ _ _ _ Qh4 (l := []) (by kernel_rfl) trivial)]
   have h := fx1 ih
   simp only [Q4w]
   rw [← h]
   show _ = _
   kernel_rfl
theorem Q1hs : L110 k K 0 ws rs N X = Que k K ws rs N X := by
 show Qvj k K ws rs N X = _
 unfold Qvj
 rw [Qeh]
 exact Q4 (a := Qwk) (b := Qxw) (G := fun ws rs => Que k K ws rs N X) (fun x y => Eq.trans (by kernel_rfl) (Eq.trans (Q1gq k K N X x.1 x.2.1 y.1.1 y.1.2.1 y.1.2.2.1 y.1.2.2.2.1 y.1.2.2.2.2.1 k x.2.2.2.1).symm (by kernel_rfl))) ws rs
theorem tu110 : tOk (R := R) 110 aa110 ab110 g110 := by
 intro k x y K
 unfold g110
 rw [Qr6]
 cases k with
 | zero => rfl
 | succ k => exact eS Tryz.f110 an110 0 27 (L110 k K) [(0, Q9e, Qza)] (by kernel_rfl) (Q1as k) (by kernel_rfl) ⟨Q1hs k K, trivial⟩ (by kernel_rfl)
noncomputable def s110 := onS (R := R) aa110 ab110 g110 (fun k => callC T F k 110)
theorem Q14j : sOk (R := R) s110 110 := Qc (fun _ _ _ _ => rfl) tu110
noncomputable abbrev kt109 : Int → Oq R := (fun z0 => K [zi z0] [])
abbrev aa109 : List Sh := [.val [(0, 0)] zP3]
abbrev ab109 : List RSh := []
noncomputable def g109 (k : Nat) (v : Sh.D.DL aa109 × RSh.DL ab109) (K : KT R) : Oq R := f109 k v.1.1 (kt109 K)
noncomputable abbrev E109 := ending T Tryz.f109 an109 0 K
noncomputable def S109 := pickS (R := R) [(110, s110)]
theorem Q1ar : ∀ k, S109 (R := R) k = callC T F k := Q5 ⟨Q14j, trivial⟩
noncomputable abbrev Qp9 : Oq R := inner T an109 (Q0 F) 0 k 38 (S109 k) (E109 K) Qjv (sh Qdb ws rs) N X
abbrev Qwj : List Sh := [.val [(0, 0)] zP3, zv, zv, .val [] .bool]
abbrev Qxv : List RSh := []
noncomputable def Qgg : Oq R :=
 Q6 Qwj Qxv (fun v => Qhz k (fun p1 => N (sh Qm [.val [(0, 0)] zP3 v.1.1, zi p1, zi v.1.2.2.1] [])) v.1.2.1 v.1.2.2.2.1) (Qp9 k K ws rs N X) ws rs
noncomputable abbrev Quc : Oq R := inner T an109 (Q0 F) 0 k 38 (S109 k) (E109 K) Qz8 (sh Qm ws rs) N X
abbrev Qwh : List Sh := [.val [(0, 0)] zP3, zv, zv]
abbrev Qxt : List RSh := []
noncomputable def Qvh : Oq R :=
 Q6 Qwh Qxt (fun v => Q10f k (fun p1 => N (sh Qr [.val [(0, 0)] zP3 v.1.1, zi p1] [])) v.1.1 k v.1.2.1 v.1.2.2.1) (Quc k K ws rs N X) ws rs
noncomputable abbrev Qud : Oq R := inner T an109 (Q0 F) 0 k 38 (S109 k) (E109 K) Qz9 (sh Q9d ws rs) N X
abbrev Qwi : List Sh := [.val [(0, 0)] zP3, zv]
abbrev Qxu : List RSh := []
noncomputable def Qvi : Oq R :=
 Q6 Qwi Qxu (fun v => Q10g k (kt109 K) v.1.1 k v.1.2.1) (Qud k K ws rs N X) ws rs
noncomputable def L109 : Oq R := bif id == 1000006 then Qgg k K ws rs N X else bif id == 0 then Qvh k K ws rs N X else bif id == 2 then Qvi k K ws rs N X else none
theorem Q168 : L109 k K 1000006 ws rs N X = Qp9 k K ws rs N X := by
 show Qgg k K ws rs N X = _
 unfold Qgg
 rw [Q9s]
 exact lC (L109 k K) [] (by kernel_rfl) trivial fun x y => by kernel_rfl
theorem Q1go (c0 : zL1) (m : Nat) : ∀ (c1 c2 : Int),
  iter (atHead an109 0 Qh2) m (fun st N' => exec T an109 (Q0 F) 0 k 38 (S109 k) (E109 K) Qh2 st N' (outX an109 0 0 N X)) (sh Qm [.val [(0, 0)] zP3 c0, zi c1, zi c2] []) = Q4t k (fun p1 => N (sh Qr [.val [(0, 0)] zP3 c0, zi p1] [])) c0 m c1 c2 := by
 induction m with
 | zero => intros; rfl
 | succ m ih =>
   intro c1 c2
   simp only [iter]
   rw [← Q7 T an109 (Q0 F) 0 k 38 (S109 k) (L109 k K) Qh2 (Qb _ _ _ _ _ _ _ _ Qh2 (l := [(1000006, Qdb, Qjv)]) (by kernel_rfl) ⟨Q168 k K, trivial⟩)]
   have h := fx2 ih
   simp only [Q4t]
   rw [← h]
   show _ = _
   kernel_rfl
theorem Q1hq : L109 k K 0 ws rs N X = Quc k K ws rs N X := by
 show Qvh k K ws rs N X = _
 unfold Qvh
 rw [Qef]
 exact Q4 (a := Qwh) (b := Qxt) (G := fun ws rs => Quc k K ws rs N X) (fun x y => Eq.trans (by kernel_rfl) (Eq.trans (Q1go k K N X x.1 k x.2.1 x.2.2.1).symm (by kernel_rfl))) ws rs
theorem Q1gp (c0 : zL1) (m : Nat) : ∀ (c1 : Int),
  iter (atHead an109 0 Qh3) m (fun st N' => exec T an109 (Q0 F) 0 k 38 (S109 k) (E109 K) Qh3 st N' (outX an109 0 2 N X)) (sh Q9d [.val [(0, 0)] zP3 c0, zi c1] []) = Q4u k (kt109 K) c0 m c1 := by
 induction m with
 | zero => intros; rfl
 | succ m ih =>
   intro c1
   simp only [iter]
   rw [← Q7 T an109 (Q0 F) 0 k 38 (S109 k) (L109 k K) Qh3 (Qb _ _ _ _ _ _ _ _ Qh3 (l := []) (by kernel_rfl) trivial)]
   have h := fx1 ih
   simp only [Q4u]
   rw [← h]
   show _ = _
   kernel_rfl
theorem Q1hr : L109 k K 2 ws rs N X = Qud k K ws rs N X := by
 show Qvi k K ws rs N X = _
 unfold Qvi
 rw [Qeg]
 exact Q4 (a := Qwi) (b := Qxu) (G := fun ws rs => Qud k K ws rs N X) (fun x y => Eq.trans (by kernel_rfl) (Eq.trans (Q1gp k K N X x.1 k x.2.1).symm (by kernel_rfl))) ws rs
theorem tu109 : tOk (R := R) 109 aa109 ab109 g109 := by
 intro k x y K
 unfold g109
 rw [Qr5]
 cases k with
 | zero => rfl
 | succ k => exact eS Tryz.f109 an109 0 38 (L109 k K) [(0, Qm, Qz8), (2, Q9d, Qz9)] (by kernel_rfl) (Q1ar k) (by kernel_rfl) ⟨Q1hq k K, Q1hr k K, trivial⟩ (by kernel_rfl)
noncomputable def s109 := onS (R := R) aa109 ab109 g109 (fun k => callC T F k 109)
theorem Q1d9 : sOk (R := R) s109 109 := Qc (fun _ _ _ _ => rfl) tu109
noncomputable abbrev kt71 : zL4 → Oq R := (fun z0 => K [.rw 1] [zr10 z0])
abbrev aa71 : List Sh := [.val [(0, 0)] zP3, .val [] .str]
abbrev ab71 : List RSh := []
noncomputable def g71 (k : Nat) (v : Sh.D.DL aa71 × RSh.DL ab71) (K : KT R) : Oq R := f71 k v.1.1 v.1.2.1 (kt71 K)
noncomputable abbrev E71 := ending T Tryz.f71 an71 0 K
noncomputable def S71 := pickS (R := R) [(108, s108), (109, s109), (110, s110)]
theorem Q1ex : ∀ k, S71 (R := R) k = callC T F k := Q5 ⟨Q14i, Q1d9, Q14j, trivial⟩
noncomputable abbrev I71_2 : Oq R := inner T an71 (Q0 F) 0 k 100 (S71 k) (E71 K) Q19o (sh Q8m ws rs) N X
abbrev Q183 : List Sh := [.val [(0, 0)] zP3, .val [] .str, .rw 1, zv, zv, zv]
abbrev Q18t : List RSh := [.arr [] zP2]
noncomputable def L71_2 : Oq R :=
 Q6 Q183 Q18t (fun v => f71_2 k (fun p4 => N (sh Q8m [.val [(0, 0)] zP3 v.1.1, .val [] .str v.1.2.1, .rw 1, zi v.1.2.2.2.1, zi v.1.2.2.2.2.1, zi p4] [zr10 v.2.1])) v.1.1 v.1.2.1 v.1.2.2.2.1 v.1.2.2.2.2.1 v.2.1 k v.1.2.2.2.2.2.1) (I71_2 k K ws rs N X) ws rs
noncomputable abbrev I71_1 : Oq R := inner T an71 (Q0 F) 0 k 100 (S71 k) (E71 K) Q19n (sh Q14w ws rs) N X
abbrev Q1fe : List Sh := [.val [(0, 0)] zP3, .val [] .str, .rw 1, zv]
abbrev Q1fl : List RSh := [.arr [] zP2]
noncomputable def L71_1 : Oq R :=
 Q6 Q1fe Q1fl (fun v => f71_1 k (fun p3 => N (sh Qds [.val [(0, 0)] zP3 v.1.1, .val [] .str v.1.2.1, .rw 1, zi v.1.2.2.2.1] [zr10 p3])) v.1.1 v.1.2.1 v.1.2.2.2.1 v.2.1) (I71_1 k K ws rs N X) ws rs
noncomputable abbrev I71_0 : Oq R := inner T an71 (Q0 F) 0 k 100 (S71 k) (E71 K) Q19m (sh Qds ws rs) N X
abbrev Q182 : List Sh := [.val [(0, 0)] zP3, .val [] .str, .rw 1, zv]
abbrev Q18s : List RSh := [.arr [] zP2]
noncomputable def L71_0 : Oq R :=
 Q6 Q182 Q18s (fun v => f71_0 k (fun p0 => N (sh Q28 [.rw 1] [zr10 p0])) v.1.1 v.1.2.1 k v.1.2.2.2.1 v.2.1) (I71_0 k K ws rs N X) ws rs
noncomputable def L71 : Oq R := bif id == 2 then L71_2 k K ws rs N X else bif id == 1 then L71_1 k K ws rs N X else bif id == 0 then L71_0 k K ws rs N X else none
theorem i71_2 (c0 : zL1) (c1 : BA) (c2 c3 : Int) (c5 : zL4) (m : Nat) : ∀ (c4 : Int),
  iter (atHead an71 0 Qq7) m (fun st N' => exec T an71 (Q0 F) 0 k 100 (S71 k) (E71 K) Qq7 st N' (outX an71 0 2 N X)) (sh Q8m [.val [(0, 0)] zP3 c0, .val [] .str c1, .rw 1, zi c2, zi c3, zi c4] [zr10 c5]) = Q6w k (fun p4 => N (sh Q8m [.val [(0, 0)] zP3 c0, .val [] .str c1, .rw 1, zi c2, zi c3, zi p4] [zr10 c5])) c0 c1 c2 c3 c5 m c4 := by
 induction m with
 | zero => intros; rfl
 | succ m ih =>
   intro c4
   simp only [iter]
   rw [← Q7 T an71 (Q0 F) 0 k 100 (S71 k) (L71 k K) Qq7 (Qb _ _ _ _ _ _ _ _ Qq7 (l := []) (by kernel_rfl) trivial)]
   have h := fx1 ih
   simp only [Q6w]
   rw [← h]
   show _ = _
   kernel_rfl
theorem l71_2 : L71 k K 2 ws rs N X = I71_2 k K ws rs N X := by
 show L71_2 k K ws rs N X = _
 unfold L71_2
 rw [Qc2]
 exact Q4 (a := Q183) (b := Q18t) (G := fun ws rs => I71_2 k K ws rs N X) (fun x y => Eq.trans (by kernel_rfl) (Eq.trans (i71_2 k K N X x.1 x.2.1 x.2.2.2.1 x.2.2.2.2.1 y.1 k x.2.2.2.2.2.1).symm (by kernel_rfl))) ws rs
theorem l71_1 : L71 k K 1 ws rs N X = I71_1 k K ws rs N X := by
 show L71_1 k K ws rs N X = _
 unfold L71_1
 rw [Q86]
 exact lC (L71 k K) [(2, Q8m, Q19o)] (by kernel_rfl) ⟨l71_2 k K, trivial⟩ fun x y => by kernel_rfl
theorem i71_0 (c0 : zL1) (c1 : BA) (m : Nat) : ∀ (c2 : Int) (c3 : zL4),
  iter (atHead an71 0 Qq6) m (fun st N' => exec T an71 (Q0 F) 0 k 100 (S71 k) (E71 K) Qq6 st N' (outX an71 0 0 N X)) (sh Qds [.val [(0, 0)] zP3 c0, .val [] .str c1, .rw 1, zi c2] [zr10 c3]) = Qah k (fun p0 => N (sh Q28 [.rw 1] [zr10 p0])) c0 c1 m c2 c3 := by
 induction m with
 | zero => intros; rfl
 | succ m ih =>
   intro c2 c3
   simp only [iter]
   rw [← Q7 T an71 (Q0 F) 0 k 100 (S71 k) (L71 k K) Qq6 (Qb _ _ _ _ _ _ _ _ Qq6 (l := [(1, Q14w, Q19n)]) (by kernel_rfl) ⟨l71_1 k K, trivial⟩)]
   have h := fx2 ih
   simp only [Qah]
   rw [← h]
   show _ = _
   kernel_rfl
theorem l71_0 : L71 k K 0 ws rs N X = I71_0 k K ws rs N X := by
 show L71_0 k K ws rs N X = _
 unfold L71_0
 rw [Ql3]
 exact Q4 (a := Q182) (b := Q18s) (G := fun ws rs => I71_0 k K ws rs N X) (fun x y => Eq.trans (by kernel_rfl) (Eq.trans (i71_0 k K N X x.1 x.2.1 k x.2.2.2.1 y.1).symm (by kernel_rfl))) ws rs
theorem tu71 : tOk (R := R) 71 aa71 ab71 g71 := by
 intro k x y K
 unfold g71
 rw [Q12j]
 cases k with
 | zero => rfl
 | succ k => exact eS Tryz.f71 an71 0 100 (L71 k K) [(0, Qds, Q19m)] (by kernel_rfl) (Q1ex k) (by kernel_rfl) ⟨l71_0 k K, trivial⟩ (by kernel_rfl)
noncomputable def s71 := onS (R := R) aa71 ab71 g71 (fun k => callC T F k 71)
theorem Q1ae : sOk (R := R) s71 71 := Qc (fun _ _ _ _ => rfl) tu71
noncomputable abbrev kt77 : zK9 R := (fun z0 z1 z2 z3 z4 => K [.agg [zi z0, zi z1, .val [] .bool z2, .val [] .bool z3], .val [] .bool z4] [])
abbrev aa77 : List Sh := [.val [(0, 0)] zP3, .val [] .str]
abbrev ab77 : List RSh := []
noncomputable def g77 (k : Nat) (v : Sh.D.DL aa77 × RSh.DL ab77) (K : KT R) : Oq R := f77 k v.1.1 v.1.2.1 (kt77 K)
noncomputable abbrev E77 := ending T Tryz.f77 an77 0 K
noncomputable def S77 := pickS (R := R) [(71, s71)]
theorem Q1f1 : ∀ k, S77 (R := R) k = callC T F k := Q5 ⟨Q1ae, trivial⟩
noncomputable abbrev I77_0 : Oq R := inner T an77 (Q0 F) 0 k 27 (S77 k) (E77 K) Q19w (sh Qg1 ws rs) N X
abbrev Q189 : List Sh := [.ptr 1 0, .rw 2, zv]
abbrev Q18z : List RSh := [zs6, .arr [] zP2]
noncomputable def L77_0 : Oq R :=
 Q6 Q189 Q18z (fun v => f77_0 k (kt77 K) (N (sh Q44 [.ptr 1 0] [zr9 v.2.1.1 v.2.1.2.1 v.2.1.2.2.1 v.2.1.2.2.2.1])) v.2.1.1 v.2.1.2.1 v.2.1.2.2.1 v.2.1.2.2.2.1 v.2.2.1 k v.1.2.2.1) (I77_0 k K ws rs N X) ws rs
noncomputable def L77 : Oq R := bif id == 0 then L77_0 k K ws rs N X else none
theorem i77_0 (c1 c2 : Int) (c3 c4 : Bool) (c5 : zL4) (m : Nat) : ∀ (c0 : Int),
  iter (atHead an77 0 Qqd) m (fun st N' => exec T an77 (Q0 F) 0 k 27 (S77 k) (E77 K) Qqd st N' (outX an77 0 0 N X)) (sh Qg1 [.ptr 1 0, .rw 2, zi c0] [zr9 c1 c2 c3 c4, zr10 c5]) = Qak k (kt77 K) (N (sh Q44 [.ptr 1 0] [zr9 c1 c2 c3 c4])) c1 c2 c3 c4 c5 m c0 := by
 induction m with
 | zero => intros; rfl
 | succ m ih =>
   intro c0
   simp only [iter]
   rw [← Q7 T an77 (Q0 F) 0 k 27 (S77 k) (L77 k K) Qqd (Qb _ _ _ _ _ _ _ _ Qqd (l := []) (by kernel_rfl) trivial)]
   have h := fx1 ih
   simp only [Qak]
   rw [← h]
   show _ = _
   kernel_rfl
theorem l77_0 : L77 k K 0 ws rs N X = I77_0 k K ws rs N X := by
 show L77_0 k K ws rs N X = _
 unfold L77_0
 rw [Qla]
 exact Q4 (a := Q189) (b := Q18z) (G := fun ws rs => I77_0 k K ws rs N X) (fun x y => Eq.trans (by kernel_rfl) (Eq.trans (i77_0 k K N X y.1.1 y.1.2.1 y.1.2.2.1 y.1.2.2.2.1 y.2.1 k x.2.2.1).symm (by kernel_rfl))) ws rs
theorem tu77 : tOk (R := R) 77 aa77 ab77 g77 := by
 intro k x y K
 unfold g77
 rw [Q12u]
 cases k with
 | zero => rfl
 | succ k => exact eS Tryz.f77 an77 0 27 (L77 k K) [(0, Qg1, Q19w)] (by kernel_rfl) (Q1f1 k) (by kernel_rfl) ⟨l77_0 k K, trivial⟩ (by kernel_rfl)
noncomputable def s77 := onS (R := R) aa77 ab77 g77 (fun k => callC T F k 77)
theorem Q1jb : sOk (R := R) s77 77 := Qc (fun _ _ _ _ => rfl) tu77
noncomputable abbrev kt69 : LI → Oq R := (fun z0 => K [.rw 1] [zr3 z0])
abbrev aa69 : List Sh := [.agg [zv, zv, zv, .val [(0, 0)] zT2, .val [(0, 0)] zP1, .val [(0, 0)] zP1]]
abbrev ab69 : List RSh := []
noncomputable def g69 (k : Nat) (v : Sh.D.DL aa69 × RSh.DL ab69) (K : KT R) : Oq R := f69 k v.1.1.1 v.1.1.2.1 v.1.1.2.2.1 v.1.1.2.2.2.1 v.1.1.2.2.2.2.1 v.1.1.2.2.2.2.2.1 (kt69 K)
noncomputable abbrev E69 := ending T Tryz.f69 an69 0 K
noncomputable def S69 := pickS (R := R) [(60, s60), (71, s71), (72, s72), (76, s76), (77, s77), (108, s108)]
theorem Q1ev : ∀ k, S69 (R := R) k = callC T F k := Q5 ⟨Qsx, Q1ae, Q1j8, Q1ja, Q1jb, Q14i, trivial⟩
noncomputable abbrev I69_2 : Oq R := inner T an69 (Q0 F) 0 k 87 (S69 k) (E69 K) Q19j (sh Qfz ws rs) N X
abbrev Q17z : List Sh := [.rw 1, .rw 2, .rw 3, zv, .rw 4, zv]
abbrev Q18p : List RSh := [.arr [] zP0, .arr [] .str, .arr [] .bool, .arr [(0, 0), (1, 0)] zP0]
noncomputable def L69_2 : Oq R :=
 Q6 Q17z Q18p (fun v => f69_2 k (fun p3 => N (sh Q3r [.rw 1, .rw 2, .rw 3, zi v.1.2.2.2.1] [zr4 v.2.1, ⟨0, .arr [] .str v.2.2.1⟩, ⟨0, .arr [] .bool p3⟩])) v.1.2.2.2.1 v.2.1 v.2.2.1 v.2.2.2.2.1 k v.1.2.2.2.2.2.1 v.2.2.2.1) (I69_2 k K ws rs N X) ws rs
noncomputable abbrev I69_1 : Oq R := inner T an69 (Q0 F) 0 k 87 (S69 k) (E69 K) Q19i (sh Q3r ws rs) N X
abbrev Q1fd : List Sh := [.rw 1, .rw 2, .rw 3, zv]
abbrev Q1fk : List RSh := [.arr [] zP0, .arr [] .str, .arr [] .bool]
noncomputable def L69_1 : Oq R :=
 Q6 Q1fd Q1fk (fun v => f69_1 k (fun p3 => N (sh Q3r [.rw 1, .rw 2, .rw 3, zi v.1.2.2.2.1] [zr4 v.2.1, ⟨0, .arr [] .str v.2.2.1⟩, ⟨0, .arr [] .bool p3⟩])) v.1.2.2.2.1 v.2.1 v.2.2.1 v.2.2.2.1) (I69_1 k K ws rs N X) ws rs
noncomputable abbrev I69_0 : Oq R := inner T an69 (Q0 F) 0 k 87 (S69 k) (E69 K) Q19h (sh Q3r ws rs) N X
abbrev Q17y : List Sh := [.rw 1, .rw 2, .rw 3, zv]
abbrev Q18o : List RSh := [.arr [] zP0, .arr [] .str, .arr [] .bool]
noncomputable def L69_0 : Oq R :=
 Q6 Q17y Q18o (fun v => f69_0 k (fun p0 => N (sh Q28 [.rw 1] [⟨0, .arr [] .bool p0⟩])) v.2.1 v.2.2.1 k v.1.2.2.2.1 v.2.2.2.1) (I69_0 k K ws rs N X) ws rs
noncomputable abbrev Qv6 : Oq R := inner T an69 (Q0 F) 0 k 87 (S69 k) (E69 K) Qqm (sh Qjc ws rs) N X
abbrev Q15f : List Sh := [.rw 1, .rw 2, zv, .val [] .bool]
abbrev Q15o : List RSh := [.arr [] .bool, .arr [] (.int .i64)]
noncomputable def Qn8 : Oq R :=
 Q6 Q15f Q15o (fun v => Qoe k (fun p2 => N (sh Qdr [.rw 1, .rw 2, zi v.1.2.2.1] [⟨0, .arr [] .bool v.2.1⟩, zr3 p2])) v.1.2.2.1 v.1.2.2.2.1 v.2.2.1) (Qv6 k K ws rs N X) ws rs
noncomputable abbrev I69_4 : Oq R := inner T an69 (Q0 F) 0 k 87 (S69 k) (E69 K) Q19k (sh Qdr ws rs) N X
abbrev Q180 : List Sh := [.rw 1, .rw 2, zv]
abbrev Q18q : List RSh := [.arr [] .bool, .arr [] (.int .i64)]
noncomputable def L69_4 : Oq R :=
 Q6 Q180 Q18q (fun v => f69_4 k (fun p0 => N (sh Q13n [.rw 1] [zr3 p0])) v.2.1 k v.1.2.2.1 v.2.2.1) (I69_4 k K ws rs N X) ws rs
noncomputable def L69 : Oq R := bif id == 2 then L69_2 k K ws rs N X else bif id == 1 then L69_1 k K ws rs N X else bif id == 0 then L69_0 k K ws rs N X else bif id == 1000019 then Qn8 k K ws rs N X else bif id == 4 then L69_4 k K ws rs N X else none
theorem i69_2 (c0 : Int) (c2 : zL2) (c3 : List BA) (c5 : zL2) (m : Nat) : ∀ (c1 : Int) (c4 : List Bool),
  iter (atHead an69 0 Qq3) m (fun st N' => exec T an69 (Q0 F) 0 k 87 (S69 k) (E69 K) Qq3 st N' (outX an69 0 2 N X)) (sh Qfz [.rw 1, .rw 2, .rw 3, zi c0, .rw 4, zi c1] [zr4 c2, ⟨0, .arr [] .str c3⟩, ⟨0, .arr [] .bool c4⟩, ⟨0, .arr [(0, 0), (1, 0)] zP0 c5⟩]) = Q85 k (fun p3 => N (sh Q3r [.rw 1, .rw 2, .rw 3, zi c0] [zr4 c2, ⟨0, .arr [] .str c3⟩, ⟨0, .arr [] .bool p3⟩])) c0 c2 c3 c5 m c1 c4 := by
 induction m with
 | zero => intros; rfl
 | succ m ih =>
   intro c1 c4
   simp only [iter]
   rw [← Q7 T an69 (Q0 F) 0 k 87 (S69 k) (L69 k K) Qq3 (Qb _ _ _ _ _ _ _ _ Qq3 (l := []) (by kernel_rfl) trivial)]
   have h := fx2 ih
   simp only [Q85]
   rw [← h]
   show _ = _
   kernel_rfl
theorem l69_2 : L69 k K 2 ws rs N X = I69_2 k K ws rs N X := by
 show L69_2 k K ws rs N X = _
 unfold L69_2
 rw [Ql0]
 exact Q4 (a := Q17z) (b := Q18p) (G := fun ws rs => I69_2 k K ws rs N X) (fun x y => Eq.trans (by kernel_rfl) (Eq.trans (i69_2 k K N X x.2.2.2.1 y.1 y.2.1 y.2.2.2.1 k x.2.2.2.2.2.1 y.2.2.1).symm (by kernel_rfl))) ws rs
theorem l69_1 : L69 k K 1 ws rs N X = I69_1 k K ws rs N X := by
 show L69_1 k K ws rs N X = _
 unfold L69_1
 rw [Qkz]
 exact lC (L69 k K) [(2, Qfz, Q19j)] (by kernel_rfl) ⟨l69_2 k K, trivial⟩ fun x y => by kernel_rfl
theorem i69_0 (c1 : zL2) (c2 : List BA) (m : Nat) : ∀ (c0 : Int) (c3 : List Bool),
  iter (atHead an69 0 Qq2) m (fun st N' => exec T an69 (Q0 F) 0 k 87 (S69 k) (E69 K) Qq2 st N' (outX an69 0 0 N X)) (sh Q3r [.rw 1, .rw 2, .rw 3, zi c0] [zr4 c1, ⟨0, .arr [] .str c2⟩, ⟨0, .arr [] .bool c3⟩]) = Qae k (fun p0 => N (sh Q28 [.rw 1] [⟨0, .arr [] .bool p0⟩])) c1 c2 m c0 c3 := by
 induction m with
 | zero => intros; rfl
 | succ m ih =>
   intro c0 c3
   simp only [iter]
   rw [← Q7 T an69 (Q0 F) 0 k 87 (S69 k) (L69 k K) Qq2 (Qb _ _ _ _ _ _ _ _ Qq2 (l := [(1, Q3r, Q19i)]) (by kernel_rfl) ⟨l69_1 k K, trivial⟩)]
   have h := fx2 ih
   simp only [Qae]
   rw [← h]
   show _ = _
   kernel_rfl
theorem l69_0 : L69 k K 0 ws rs N X = I69_0 k K ws rs N X := by
 show L69_0 k K ws rs N X = _
 unfold L69_0
 rw [Qky]
 exact Q4 (a := Q17y) (b := Q18o) (G := fun ws rs => I69_0 k K ws rs N X) (fun x y => Eq.trans (by kernel_rfl) (Eq.trans (i69_0 k K N X y.1 y.2.1 k x.2.2.2.1 y.2.2.1).symm (by kernel_rfl))) ws rs
theorem Q1cm : L69 k K 1000019 ws rs N X = Qv6 k K ws rs N X := by
 show Qn8 k K ws rs N X = _
 unfold Qn8
 rw [Qc1]
 exact lC (L69 k K) [] (by kernel_rfl) trivial fun x y => by kernel_rfl
theorem i69_4 (c1 : List Bool) (m : Nat) : ∀ (c0 : Int) (c2 : LI),
  iter (atHead an69 0 Qq4) m (fun st N' => exec T an69 (Q0 F) 0 k 87 (S69 k) (E69 K) Qq4 st N' (outX an69 0 4 N X)) (sh Qdr [.rw 1, .rw 2, zi c0] [⟨0, .arr [] .bool c1⟩, zr3 c2]) = Qaf k (fun p0 => N (sh Q13n [.rw 1] [zr3 p0])) c1 m c0 c2 := by
 induction m with
 | zero => intros; rfl
 | succ m ih =>
   intro c0 c2
   simp only [iter]
   rw [← Q7 T an69 (Q0 F) 0 k 87 (S69 k) (L69 k K) Qq4 (Qb _ _ _ _ _ _ _ _ Qq4 (l := [(1000019, Qjc, Qqm)]) (by kernel_rfl) ⟨Q1cm k K, trivial⟩)]
   have h := fx2 ih
   simp only [Qaf]
   rw [← h]
   show _ = _
   kernel_rfl
theorem l69_4 : L69 k K 4 ws rs N X = I69_4 k K ws rs N X := by
 show L69_4 k K ws rs N X = _
 unfold L69_4
 rw [Ql1]
 exact Q4 (a := Q180) (b := Q18q) (G := fun ws rs => I69_4 k K ws rs N X) (fun x y => Eq.trans (by kernel_rfl) (Eq.trans (i69_4 k K N X y.1 k x.2.2.1 y.2.1).symm (by kernel_rfl))) ws rs
theorem tu69 : tOk (R := R) 69 aa69 ab69 g69 := by
 intro k x y K
 unfold g69
 rw [Q12e]
 cases k with
 | zero => rfl
 | succ k => exact eS Tryz.f69 an69 0 87 (L69 k K) [(0, Q3r, Q19h), (4, Qdr, Q19k)] (by kernel_rfl) (Q1ev k) (by kernel_rfl) ⟨l69_0 k K, l69_4 k K, trivial⟩ (by kernel_rfl)
noncomputable def s69 := onS (R := R) aa69 ab69 g69 (fun k => callC T F k 69)
theorem Q1j6 : sOk (R := R) s69 69 := Qc (fun _ _ _ _ => rfl) tu69
noncomputable abbrev kt25 : Int → LI → Oq R := (fun z0 z1 => K [.rw 1, zi z0] [zr3 z1])
abbrev aa25 : List Sh := [.agg [zv, zv, zv, .val [(0, 0)] zT2, .val [(0, 0)] zP1, .val [(0, 0)] zP1]]
abbrev ab25 : List RSh := []
noncomputable def g25 (k : Nat) (v : Sh.D.DL aa25 × RSh.DL ab25) (K : KT R) : Oq R := f25 k v.1.1.1 v.1.1.2.1 v.1.1.2.2.1 v.1.1.2.2.2.1 v.1.1.2.2.2.2.1 v.1.1.2.2.2.2.2.1 (kt25 K)
noncomputable def S25 := pickS (R := R) [(20, s20), (69, s69)]
theorem Q1ee : ∀ k, S25 (R := R) k = callC T F k := Q5 ⟨Qsw, Q1j6, trivial⟩
theorem tu25 : tOk (R := R) 25 aa25 ab25 g25 := by
 intro k x y K
 unfold g25
 rw [Q11i]
 cases k with
 | zero => rfl
 | succ k => exact eS Tryz.f25 an25 0 12 L0 [] (by kernel_rfl) (Q1ee k) (by kernel_rfl) trivial (by kernel_rfl)
noncomputable def s25 := onS (R := R) aa25 ab25 g25 (fun k => callC T F k 25)
theorem Q1iu : sOk (R := R) s25 25 := Qc (fun _ _ _ _ => rfl) tu25
noncomputable abbrev kt59 : Int → Int → Oq R := (fun z0 z1 => K [zi z0, zi z1] [])
abbrev aa59 : List Sh := [.val [(0, 0)] zT2]
abbrev ab59 : List RSh := []
noncomputable def g59 (k : Nat) (v : Sh.D.DL aa59 × RSh.DL ab59) (K : KT R) : Oq R := f59 k v.1.1 (kt59 K)
noncomputable def S59 := pickS (R := R) [(111, s111)]
theorem Q1el : ∀ k, S59 (R := R) k = callC T F k := Q5 ⟨Q14k, trivial⟩
theorem tu59 : tOk (R := R) 59 aa59 ab59 g59 := by
 intro k x y K
 unfold g59
 rw [Q11v]
 cases k with
 | zero => rfl
 | succ k => exact eS Tryz.f59 an59 0 9 L0 [] (by kernel_rfl) (Q1el k) (by kernel_rfl) trivial (by kernel_rfl)
noncomputable def s59 := onS (R := R) aa59 ab59 g59 (fun k => callC T F k 59)
theorem Q1j0 : sOk (R := R) s59 59 := Qc (fun _ _ _ _ => rfl) tu59
noncomputable abbrev kt16 : Bool → Oq R := (fun z0 => K [.val [] .bool z0] [])
abbrev aa16 : List Sh := []
abbrev ab16 : List RSh := []
noncomputable def g16 (k : Nat) (v : Sh.D.DL aa16 × RSh.DL ab16) (K : KT R) : Oq R := f16 k (kt16 K)
noncomputable def S16 := pickS (R := R) [(59, s59)]
theorem Q1e5 : ∀ k, S16 (R := R) k = callC T F k := Q5 ⟨Q1j0, trivial⟩
theorem tu16 : tOk (R := R) 16 aa16 ab16 g16 := by
 intro k x y K
 unfold g16
 rw [Q112]
 cases k with
 | zero => rfl
 | succ k => exact eS Tryz.f16 an16 0 15 L0 [] (by kernel_rfl) (Q1e5 k) (by kernel_rfl) trivial (by kernel_rfl)
noncomputable def s16 := onS (R := R) aa16 ab16 g16 (fun k => callC T F k 16)
theorem Q1in : sOk (R := R) s16 16 := Qc (fun _ _ _ _ => rfl) tu16
noncomputable abbrev kt4 : Bool → Oq R := (fun z0 => K [.val [] .bool z0] [])
abbrev aa4 : List Sh := [.agg [zv, zv, zv, .val [(0, 0)] zT2, .val [(0, 0)] zP1, .val [(0, 0)] zP1]]
abbrev ab4 : List RSh := []
noncomputable def g4 (k : Nat) (v : Sh.D.DL aa4 × RSh.DL ab4) (K : KT R) : Oq R := f4 k v.1.1.1 v.1.1.2.1 v.1.1.2.2.1 v.1.1.2.2.2.1 v.1.1.2.2.2.2.1 v.1.1.2.2.2.2.2.1 (kt4 K)
noncomputable def S4 := pickS (R := R) [(16, s16), (17, s17), (18, s18), (19, s19), (20, s20), (21, s21), (22, s22), (23, s23), (24, s24), (25, s25)]
theorem S4_eq : ∀ k, S4 (R := R) k = callC T F k := Q5 ⟨Q1in, Q1io, Q1ip, Qsv, Qsw, Q1iq, Q1ir, Q1is, Q1it, Q1iu, trivial⟩
theorem e4 (k : Nat) (a0 a1 a2 : Int) (a3 a4 a5 : LI) (K : KT R) : callC T F k 4 [.agg [zi a0, zi a1, zi a2, .val [(0, 0)] zT2 a3, .val [(0, 0)] zP1 a4, .val [(0, 0)] zP1 a5]] [] K = f4 k a0 a1 a2 a3 a4 a5 (kt4 K) := by
 rw [Q19y]
 cases k with
 | zero => rfl
 | succ k => exact eS Tryz.f4 an4 0 73 L0 [] (by kernel_rfl) (S4_eq k) (by kernel_rfl) trivial (by kernel_rfl)
end Go.Proofs.YtecnlienmpdlaaaGreat.PM
