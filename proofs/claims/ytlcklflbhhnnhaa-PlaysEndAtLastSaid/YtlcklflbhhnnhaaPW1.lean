/- The small machine's run is the typed form (printed by a program of this work). -/
import Derived.Test.YtlcklflbhhnnhaaPW0
set_option linter.unusedVariables false
set_option linter.unusedSimpArgs false
set_option maxRecDepth 100000
namespace Go.Proofs.Ytlcklflbhhnnhaa.PM
open Go
variable {R : Type} (k : Nat) (K : KT R) (id : Nat) (ws : List PV) (rs : List RowS) (N : St → Option R) (X : Nat → St → Option R)
noncomputable abbrev kt117 : zK4 R := (fun z0 z1 z2 z3 z4 z5 z6 z7 z8 => K [.agg [zi z0, zi z1, .val [] .str z2, .val [(0, 0)] zT2 z3, zi z4, .val [(0, 0)] zT1 z5, zi z6, zi z7], zi z8] [])
abbrev aa117 : List Sh := [.agg [zv, zv, .val [] .str, .val [(0, 0)] zT2, zv, .val [(0, 0)] zT1, zv, zv], .val [(0, 0)] zT1]
abbrev ab117 : List RSh := []
noncomputable def g117 (k : Nat) (v : Sh.D.DL aa117 × RSh.DL ab117) (K : KT R) : Option R := f117 k v.1.1.1 v.1.1.2.1 v.1.1.2.2.1 v.1.1.2.2.2.1 v.1.1.2.2.2.2.1 v.1.1.2.2.2.2.2.1 v.1.1.2.2.2.2.2.2.1 v.1.1.2.2.2.2.2.2.2.1 v.1.2.1 (kt117 K)
noncomputable abbrev E117 := ending T Try.f117 an117 0 K
noncomputable def S117 := pickS (R := R) [(71, s71), (86, s86), (131, s131)]
theorem S117_eq : ∀ k, S117 (R := R) k = callC T F k := pickS_eq ⟨s71_eq, s86_eq, s131_eq, trivial⟩
noncomputable abbrev I117_1000008 : Option R := inner T an117 (modesOf F) 0 k 67 (S117 k) (E117 K) cd117_1000008 (sh sp117_1000008 ws rs) N X
abbrev aa117_1000008 : List Sh := [.ptr 1 0, .ptr 2 0, .val [] .bool, .val [(0, 0)] zT1, .val [] .bool, .rw 3, .ptr 4 0, .val [(0, 0)] zT1, zv, zv, .val [] .bool]
abbrev ab117_1000008 : List RSh := [zs6, zs7, .arr [] zP1, .vars [zv, zv]]
noncomputable def L117_1000008 : Option R :=
  onShape aa117_1000008 ab117_1000008 (fun v => let u0 := v.1.2.2.2.2.2.2.2; f117_1000008 k (fun p20 => N (sh fi117_8 [.ptr 1 0, .ptr 2 0, .val [] .bool v.1.2.2.1, .val [(0, 0)] zT1 v.1.2.2.2.1, .val [] .bool v.1.2.2.2.2.1, .rw 3, .val [(0, 0)] zT1 v.1.2.2.2.2.2.2.2.1, zi u0.2.1, zi u0.2.2.1] [zr8 v.2.1.1 v.2.1.2.1 v.2.1.2.2.1 v.2.1.2.2.2.1 v.2.1.2.2.2.2.1 v.2.1.2.2.2.2.2.1 v.2.1.2.2.2.2.2.2.1 v.2.1.2.2.2.2.2.2.2.1, zr9 v.2.2.1.1 v.2.2.1.2.1 v.2.2.1.2.2.1 v.2.2.1.2.2.2.2.1 v.2.2.1.2.2.2.2.2.2.1 v.2.2.1.2.2.2.2.2.2.2.1, zr4 p20])) v.1.2.2.1 v.1.2.2.2.1 v.1.2.2.2.2.1 v.1.2.2.2.2.2.2.2.1 u0.2.1 u0.2.2.1 u0.2.2.2.1 v.2.1.1 v.2.1.2.1 v.2.1.2.2.1 v.2.1.2.2.2.1 v.2.1.2.2.2.2.1 v.2.1.2.2.2.2.2.1 v.2.1.2.2.2.2.2.2.1 v.2.1.2.2.2.2.2.2.2.1 v.2.2.1.1 v.2.2.1.2.1 v.2.2.1.2.2.1 v.2.2.1.2.2.2.2.1 v.2.2.1.2.2.2.2.2.2.1 v.2.2.1.2.2.2.2.2.2.2.1 v.2.2.2.1 v.2.2.2.2.1.1 v.2.2.2.2.1.2.1) (I117_1000008 k K ws rs N X) ws rs
noncomputable abbrev I117_0 : Option R := inner T an117 (modesOf F) 0 k 67 (S117 k) (E117 K) cd117_0 (sh sp117_0 ws rs) N X
abbrev aa117_0 : List Sh := [.ptr 1 0, .ptr 2 0, .val [] .bool, .val [(0, 0)] zT1, .val [] .bool, .rw 3, .val [(0, 0)] zT1, zv, zv]
abbrev ab117_0 : List RSh := [zs6, zs7, .arr [] zP1]
noncomputable def L117_0 : Option R :=
  onShape aa117_0 ab117_0 (fun v => let u0 := v.1.2.2.2.2.2.2.2; f117_0 k (fun p17 => N (sh jn117_0 [.ptr 1 0, .ptr 2 0, .val [] .bool v.1.2.2.1, .val [(0, 0)] zT1 v.1.2.2.2.1, .val [] .bool v.1.2.2.2.2.1, .rw 3] [zr8 v.2.1.1 v.2.1.2.1 v.2.1.2.2.1 v.2.1.2.2.2.1 v.2.1.2.2.2.2.1 v.2.1.2.2.2.2.2.1 v.2.1.2.2.2.2.2.2.1 v.2.1.2.2.2.2.2.2.2.1, zr9 v.2.2.1.1 v.2.2.1.2.1 v.2.2.1.2.2.1 v.2.2.1.2.2.2.2.1 v.2.2.1.2.2.2.2.2.2.1 v.2.2.1.2.2.2.2.2.2.2.1, zr4 p17])) v.1.2.2.1 v.1.2.2.2.1 v.1.2.2.2.2.1 v.1.2.2.2.2.2.2.1 v.1.2.2.2.2.2.2.2.1 v.2.1.1 v.2.1.2.1 v.2.1.2.2.1 v.2.1.2.2.2.1 v.2.1.2.2.2.2.1 v.2.1.2.2.2.2.2.1 v.2.1.2.2.2.2.2.2.1 v.2.1.2.2.2.2.2.2.2.1 v.2.2.1.1 v.2.2.1.2.1 v.2.2.1.2.2.1 v.2.2.1.2.2.2.2.1 v.2.2.1.2.2.2.2.2.2.1 v.2.2.1.2.2.2.2.2.2.2.1 k u0.2.1 v.2.2.2.1) (I117_0 k K ws rs N X) ws rs
noncomputable abbrev I117_1000016 : Option R := inner T an117 (modesOf F) 0 k 67 (S117 k) (E117 K) cd117_1000016 (sh sp117_1000016 ws rs) N X
abbrev aa117_1000016 : List Sh := [.ptr 1 0, .ptr 2 0, .val [] .bool]
abbrev ab117_1000016 : List RSh := [zs6, zs7]
noncomputable def L117_1000016 : Option R :=
  onShape aa117_1000016 ab117_1000016 (fun v => f117_1000016 k (fun p0 p6 => N (sh fi117_16 [.ptr 1 0, .ptr 2 0] [zr8 p0 v.2.1.2.1 v.2.1.2.2.1 v.2.1.2.2.2.1 v.2.1.2.2.2.2.1 v.2.1.2.2.2.2.2.1 p6 v.2.1.2.2.2.2.2.2.2.1, zr9 v.2.2.1.1 v.2.2.1.2.1 v.2.2.1.2.2.1 v.2.2.1.2.2.2.2.1 v.2.2.1.2.2.2.2.2.2.1 v.2.2.1.2.2.2.2.2.2.2.1])) v.1.2.2.1 v.2.1.1 v.2.1.2.1 v.2.1.2.2.1 v.2.1.2.2.2.1 v.2.1.2.2.2.2.1 v.2.1.2.2.2.2.2.1 v.2.1.2.2.2.2.2.2.1 v.2.1.2.2.2.2.2.2.2.1 v.2.2.1.1 v.2.2.1.2.1 v.2.2.1.2.2.1 v.2.2.1.2.2.2.2.1 v.2.2.1.2.2.2.2.2.2.1 v.2.2.1.2.2.2.2.2.2.2.1) (I117_1000016 k K ws rs N X) ws rs
noncomputable def L117 : Option R := bif id == 1000008 then L117_1000008 k K ws rs N X else bif id == 0 then L117_0 k K ws rs N X else bif id == 1000016 then L117_1000016 k K ws rs N X else none
theorem l117_1000008 : L117 k K 1000008 ws rs N X = I117_1000008 k K ws rs N X := by
  show L117_1000008 k K ws rs N X = _
  unfold L117_1000008
  rw [f117_1000008_def]
  exact lC (L117 k K) [] (by kernel_rfl) trivial fun x y => by kernel_rfl
theorem i117_0 (c0 : Bool) (c1 : zL5) (c2 : Bool) (c3 : zL5) (c4 c6 c7 : Int) (c8 : ByteArray) (c9 : List Int) (c10 : Int) (c11 : zL5) (c12 c13 c14 c15 : Int) (c16 : ByteArray) (c17 c18 c19 : Int) (m : Nat) : ∀ (c5 : Int) (c20 : zL6),
    iter (atHead an117 0 bd117_0) m (fun st N' => exec T an117 (modesOf F) 0 k 67 (S117 k) (E117 K) bd117_0 st N' (outX an117 0 0 N X)) (sh sp117_0 [.ptr 1 0, .ptr 2 0, .val [] .bool c0, .val [(0, 0)] zT1 c1, .val [] .bool c2, .rw 3, .val [(0, 0)] zT1 c3, zi c4, zi c5] [zr8 c6 c7 c8 c9 c10 c11 c12 c13, zr9 c14 c15 c16 c17 c18 c19, zr4 c20]) = f117_0d k (fun p17 => N (sh jn117_0 [.ptr 1 0, .ptr 2 0, .val [] .bool c0, .val [(0, 0)] zT1 c1, .val [] .bool c2, .rw 3] [zr8 c6 c7 c8 c9 c10 c11 c12 c13, zr9 c14 c15 c16 c17 c18 c19, zr4 p17])) c0 c1 c2 c3 c4 c6 c7 c8 c9 c10 c11 c12 c13 c14 c15 c16 c17 c18 c19 m c5 c20 := by
  induction m with
  | zero => intros; rfl
  | succ m ih =>
    intro c5 c20
    simp only [iter]
    rw [← execS_eq T an117 (modesOf F) 0 k 67 (S117 k) (L117 k K) bd117_0 (cuts_of _ _ _ _ _ _ _ _ bd117_0 (l := [(1000008, sp117_1000008, cd117_1000008)]) (by kernel_rfl) ⟨l117_1000008 k K, trivial⟩)]
    have h := fx2 ih
    simp only [f117_0d]
    rw [← h]
    show _ = _
    kernel_rfl
theorem l117_0 : L117 k K 0 ws rs N X = I117_0 k K ws rs N X := by
  show L117_0 k K ws rs N X = _
  unfold L117_0
  rw [f117_0_def]
  exact onShape_eq (a := aa117_0) (b := ab117_0) (G := fun ws rs => I117_0 k K ws rs N X) (fun x y => Eq.trans (by kernel_rfl) (Eq.trans (i117_0 k K N X x.2.2.1 x.2.2.2.1 x.2.2.2.2.1 x.2.2.2.2.2.2.1 x.2.2.2.2.2.2.2.1 y.1.1 y.1.2.1 y.1.2.2.1 y.1.2.2.2.1 y.1.2.2.2.2.1 y.1.2.2.2.2.2.1 y.1.2.2.2.2.2.2.1 y.1.2.2.2.2.2.2.2.1 y.2.1.1 y.2.1.2.1 y.2.1.2.2.1 y.2.1.2.2.2.2.1 y.2.1.2.2.2.2.2.2.1 y.2.1.2.2.2.2.2.2.2.1 k x.2.2.2.2.2.2.2.2.1 y.2.2.1).symm (by kernel_rfl))) ws rs
theorem l117_1000016 : L117 k K 1000016 ws rs N X = I117_1000016 k K ws rs N X := by
  show L117_1000016 k K ws rs N X = _
  unfold L117_1000016
  rw [f117_1000016_def]
  exact lC (L117 k K) [] (by kernel_rfl) trivial fun x y => by kernel_rfl
theorem tu117 : tOk (R := R) 117 aa117 ab117 g117 := by
  intro k x y K
  unfold g117
  rw [f117_def]
  cases k with
  | zero => rfl
  | succ k => exact eS Try.f117 an117 0 67 (L117 k K) [(0, sp117_0, cd117_0), (1000016, sp117_1000016, cd117_1000016)] (by kernel_rfl) (S117_eq k) (by kernel_rfl) ⟨l117_0 k K, l117_1000016 k K, trivial⟩ (by kernel_rfl)
noncomputable def s117 := onS (R := R) aa117 ab117 g117 (fun k => callC T F k 117)
theorem s117_eq : sOk (R := R) s117 117 := onS_eq (fun _ _ _ _ => rfl) tu117
noncomputable abbrev kt90 : zK4 R := (fun z0 z1 z2 z3 z4 z5 z6 z7 z8 => K [.agg [zi z0, zi z1, .val [] .str z2, .val [(0, 0)] zT2 z3, zi z4, .val [(0, 0)] zT1 z5, zi z6, zi z7], zi z8] [])
abbrev aa90 : List Sh := [.agg [zv, zv, .val [] .str, .val [(0, 0)] zT2, zv, .val [(0, 0)] zT1, zv, zv], .agg [zv, zv, .val [] .str, zv, zv, zv, .val [(0, 0)] zT2, .val [(0, 0)] zT1, .val [] .bool]]
abbrev ab90 : List RSh := []
noncomputable def g90 (k : Nat) (v : Sh.D.DL aa90 × RSh.DL ab90) (K : KT R) : Option R := let u0 := v.1.2.1.2.2.2.2.2.2.2; f90 k v.1.1.1 v.1.1.2.1 v.1.1.2.2.1 v.1.1.2.2.2.1 v.1.1.2.2.2.2.1 v.1.1.2.2.2.2.2.1 v.1.1.2.2.2.2.2.2.1 v.1.1.2.2.2.2.2.2.2.1 v.1.2.1.1 v.1.2.1.2.1 v.1.2.1.2.2.1 v.1.2.1.2.2.2.1 v.1.2.1.2.2.2.2.1 v.1.2.1.2.2.2.2.2.1 v.1.2.1.2.2.2.2.2.2.1 v.1.2.1.2.2.2.2.2.2.2.1 u0.2.1 (kt90 K)
noncomputable abbrev E90 := ending T Try.f90 an90 0 K
noncomputable def S90 := pickS (R := R) [(117, s117)]
theorem S90_eq : ∀ k, S90 (R := R) k = callC T F k := pickS_eq ⟨s117_eq, trivial⟩
noncomputable abbrev I90_1000008 : Option R := inner T an90 (modesOf F) 0 k 56 (S90 k) (E90 K) cd90_1000008 (sh sp90_1000008 ws rs) N X
abbrev aa90_1000008 : List Sh := [.ptr 1 0, .ptr 2 0, .val [] .bool]
abbrev ab90_1000008 : List RSh := [zs6, zs7]
noncomputable def L90_1000008 : Option R :=
  onShape aa90_1000008 ab90_1000008 (fun v => f90_1000008 k (fun p0 p5 p6 => N (sh fi90_8 [.ptr 1 0, .ptr 2 0] [zr8 p0 v.2.1.2.1 v.2.1.2.2.1 v.2.1.2.2.2.1 v.2.1.2.2.2.2.1 p5 p6 v.2.1.2.2.2.2.2.2.2.1, zr9 v.2.2.1.1 v.2.2.1.2.1 v.2.2.1.2.2.1 v.2.2.1.2.2.2.2.1 v.2.2.1.2.2.2.2.2.2.1 v.2.2.1.2.2.2.2.2.2.2.1])) v.1.2.2.1 v.2.1.1 v.2.1.2.1 v.2.1.2.2.1 v.2.1.2.2.2.1 v.2.1.2.2.2.2.1 v.2.1.2.2.2.2.2.1 v.2.1.2.2.2.2.2.2.1 v.2.1.2.2.2.2.2.2.2.1 v.2.2.1.1 v.2.2.1.2.1 v.2.2.1.2.2.1 v.2.2.1.2.2.2.2.1 v.2.2.1.2.2.2.2.2.2.1 v.2.2.1.2.2.2.2.2.2.2.1) (I90_1000008 k K ws rs N X) ws rs
noncomputable abbrev I90_1000006 : Option R := inner T an90 (modesOf F) 0 k 56 (S90 k) (E90 K) cd90_1000006 (sh sp90_1000006 ws rs) N X
abbrev aa90_1000006 : List Sh := [.ptr 1 0, .ptr 2 0, .ptr 3 0, .val [] .bool]
abbrev ab90_1000006 : List RSh := [zs6, zs3, zs7]
noncomputable def L90_1000006 : Option R :=
  onShape aa90_1000006 ab90_1000006 (fun v => let u0 := v.2.2.1.2.2.2.2.2.2.2; f90_1000006 k (fun p0 p5 p6 => N (sh fi90_6 [.ptr 1 0, .ptr 2 0] [zr8 p0 v.2.1.2.1 v.2.1.2.2.1 v.2.1.2.2.2.1 v.2.1.2.2.2.2.1 p5 p6 v.2.1.2.2.2.2.2.2.2.1, zr9 v.2.2.2.1.1 v.2.2.2.1.2.1 v.2.2.2.1.2.2.1 v.2.2.2.1.2.2.2.2.1 v.2.2.2.1.2.2.2.2.2.2.1 v.2.2.2.1.2.2.2.2.2.2.2.1])) v.1.2.2.2.1 v.2.1.1 v.2.1.2.1 v.2.1.2.2.1 v.2.1.2.2.2.1 v.2.1.2.2.2.2.1 v.2.1.2.2.2.2.2.1 v.2.1.2.2.2.2.2.2.1 v.2.1.2.2.2.2.2.2.2.1 v.2.2.1.1 v.2.2.1.2.1 v.2.2.1.2.2.1 v.2.2.1.2.2.2.1 v.2.2.1.2.2.2.2.1 v.2.2.1.2.2.2.2.2.1 v.2.2.1.2.2.2.2.2.2.1 v.2.2.1.2.2.2.2.2.2.2.1 u0.2.1 v.2.2.2.1.1 v.2.2.2.1.2.1 v.2.2.2.1.2.2.1 v.2.2.2.1.2.2.2.2.1 v.2.2.2.1.2.2.2.2.2.2.1 v.2.2.2.1.2.2.2.2.2.2.2.1) (I90_1000006 k K ws rs N X) ws rs
noncomputable def L90 : Option R := bif id == 1000008 then L90_1000008 k K ws rs N X else bif id == 1000006 then L90_1000006 k K ws rs N X else none
theorem l90_1000008 : L90 k K 1000008 ws rs N X = I90_1000008 k K ws rs N X := by
  show L90_1000008 k K ws rs N X = _
  unfold L90_1000008
  rw [f90_1000008_def]
  exact lC (L90 k K) [] (by kernel_rfl) trivial fun x y => by kernel_rfl
theorem l90_1000006 : L90 k K 1000006 ws rs N X = I90_1000006 k K ws rs N X := by
  show L90_1000006 k K ws rs N X = _
  unfold L90_1000006
  rw [f90_1000006_def]
  exact lC (L90 k K) [(1000008, sp90_1000008, cd90_1000008)] (by kernel_rfl) ⟨l90_1000008 k K, trivial⟩ fun x y => by kernel_rfl
theorem tu90 : tOk (R := R) 90 aa90 ab90 g90 := by
  intro k x y K
  unfold g90
  rw [f90_def]
  cases k with
  | zero => rfl
  | succ k => exact eS Try.f90 an90 0 56 (L90 k K) [(1000006, sp90_1000006, cd90_1000006)] (by kernel_rfl) (S90_eq k) (by kernel_rfl) ⟨l90_1000006 k K, trivial⟩ (by kernel_rfl)
noncomputable def s90 := onS (R := R) aa90 ab90 g90 (fun k => callC T F k 90)
theorem s90_eq : sOk (R := R) s90 90 := onS_eq (fun _ _ _ _ => rfl) tu90
noncomputable abbrev kt107 : Int → Int → ByteArray → Int → Int → Int → Bool → Option R := (fun z0 z1 z2 z3 z4 z5 z6 => K [.agg [zi z0, zi z1, .val [] .str z2, zi z3, zi z4, zi z5, .nils, .nils, .val [] .bool z6]] [])
abbrev aa107 : List Sh := [.agg [zv, zv, .val [] .str, .val [(0, 0)] zT2, zv, .val [(0, 0)] zT1, zv, zv]]
abbrev ab107 : List RSh := []
noncomputable def g107 (k : Nat) (v : Sh.D.DL aa107 × RSh.DL ab107) (K : KT R) : Option R := f107 k v.1.1.1 v.1.1.2.1 v.1.1.2.2.1 v.1.1.2.2.2.1 v.1.1.2.2.2.2.1 v.1.1.2.2.2.2.2.1 v.1.1.2.2.2.2.2.2.1 v.1.1.2.2.2.2.2.2.2.1 (kt107 K)
noncomputable abbrev E107 := ending T Try.f107 an107 0 K
noncomputable def S107 := pickS (R := R) [(64, s64)]
theorem S107_eq : ∀ k, S107 (R := R) k = callC T F k := pickS_eq ⟨s64_eq, trivial⟩
theorem tu107 : tOk (R := R) 107 aa107 ab107 g107 := by
  intro k x y K
  unfold g107
  rw [f107_def]
  cases k with
  | zero => rfl
  | succ k => exact eS Try.f107 an107 0 12 L0 [] (by kernel_rfl) (S107_eq k) (by kernel_rfl) trivial (by kernel_rfl)
noncomputable def s107 := onS (R := R) aa107 ab107 g107 (fun k => callC T F k 107)
theorem s107_eq : sOk (R := R) s107 107 := onS_eq (fun _ _ _ _ => rfl) tu107
noncomputable abbrev kt109 : zL6 → Option R := (fun z0 => K [.rw 1] [zr4 z0])
abbrev aa109 : List Sh := [.val [(0, 0)] zT1]
abbrev ab109 : List RSh := []
noncomputable def g109 (k : Nat) (v : Sh.D.DL aa109 × RSh.DL ab109) (K : KT R) : Option R := f109 k v.1.1 (kt109 K)
theorem e109 (k : Nat) (a0 : zL5) (K : KT R) : callC T F k 109 [.val [(0, 0)] zT1 a0] [] K = f109 k a0 (kt109 K) := by
  rw [f109_def]
  cases k with
  | zero => rfl
  | succ k => exact clone_call (m := [.lend zP1]) (ty := zP1) (bytes := 16) (by kernel_rfl) a0 K
theorem tu109 : tOk (R := R) 109 aa109 ab109 g109 := fun k x y K => e109 k x.1 K
noncomputable def s109 := onS (R := R) aa109 ab109 g109 (fun k => callC T F k 109)
theorem s109_eq : sOk (R := R) s109 109 := onS_eq (fun _ _ _ _ => rfl) tu109
noncomputable abbrev kt128 : zK5 R := (fun z0 z1 z2 z3 z4 z5 z6 z7 => K [.agg [zi z0, zi z1, .val [] .str z2, zi z3, zi z4, zi z5, .rw 1, .nils, .val [] .bool z6]] [zr0 z7])
abbrev aa128 : List Sh := [.agg [zv, zv, .val [] .str, .val [(0, 0)] zT2, zv, .val [(0, 0)] zT1, zv, zv], zv, zv]
abbrev ab128 : List RSh := []
noncomputable def g128 (k : Nat) (v : Sh.D.DL aa128 × RSh.DL ab128) (K : KT R) : Option R := f128 k v.1.1.1 v.1.1.2.1 v.1.1.2.2.1 v.1.1.2.2.2.1 v.1.1.2.2.2.2.1 v.1.1.2.2.2.2.2.1 v.1.1.2.2.2.2.2.2.1 v.1.1.2.2.2.2.2.2.2.1 v.1.2.1 v.1.2.2.1 (kt128 K)
noncomputable abbrev E128 := ending T Try.f128 an128 0 K
noncomputable def S128 := pickS (R := R) [(77, s77)]
theorem S128_eq : ∀ k, S128 (R := R) k = callC T F k := pickS_eq ⟨s77_eq, trivial⟩
theorem tu128 : tOk (R := R) 128 aa128 ab128 g128 := by
  intro k x y K
  unfold g128
  rw [f128_def]
  cases k with
  | zero => rfl
  | succ k => exact eS Try.f128 an128 0 19 L0 [] (by kernel_rfl) (S128_eq k) (by kernel_rfl) trivial (by kernel_rfl)
noncomputable def s128 := onS (R := R) aa128 ab128 g128 (fun k => callC T F k 128)
theorem s128_eq : sOk (R := R) s128 128 := onS_eq (fun _ _ _ _ => rfl) tu128
noncomputable abbrev kt108 : zK6 R := (fun z0 z1 z2 z3 z4 z5 z6 z7 z8 z9 z10 z11 z12 z13 z14 z15 => K [.agg [zi z0, zi z1, .val [] .str z2, .val [(0, 0)] zT2 z3, zi z4, .val [(0, 0)] zT1 z5, zi z6, zi z7], .agg [zi z8, zi z9, .val [] .str z10, zi z11, zi z12, zi z13, .rw 1, .nils, .val [] .bool z14]] [zr0 z15])
abbrev aa108 : List Sh := [.agg [zv, zv, zv, zv, zv], .agg [zv, zv, .val [] .str, .val [(0, 0)] zT2, zv, .val [(0, 0)] zT1, zv, zv]]
abbrev ab108 : List RSh := []
noncomputable def g108 (k : Nat) (v : Sh.D.DL aa108 × RSh.DL ab108) (K : KT R) : Option R := f108 k v.1.1.1 v.1.1.2.1 v.1.1.2.2.1 v.1.1.2.2.2.1 v.1.1.2.2.2.2.1 v.1.2.1.1 v.1.2.1.2.1 v.1.2.1.2.2.1 v.1.2.1.2.2.2.1 v.1.2.1.2.2.2.2.1 v.1.2.1.2.2.2.2.2.1 v.1.2.1.2.2.2.2.2.2.1 v.1.2.1.2.2.2.2.2.2.2.1 (kt108 K)
noncomputable abbrev E108 := ending T Try.f108 an108 0 K
noncomputable def S108 := pickS (R := R) [(64, s64), (104, s104), (107, s107), (109, s109), (128, s128)]
theorem S108_eq : ∀ k, S108 (R := R) k = callC T F k := pickS_eq ⟨s64_eq, s104_eq, s107_eq, s109_eq, s128_eq, trivial⟩
noncomputable abbrev I108_1000018 : Option R := inner T an108 (modesOf F) 0 k 138 (S108 k) (E108 K) cd108_1000018 (sh sp108_1000018 ws rs) N X
abbrev aa108_1000018 : List Sh := [.ptr 1 0, .ptr 3 0, .ptr 4 0, .ptr 5 0, .val [] .bool]
abbrev ab108_1000018 : List RSh := [.vars [zv, zv, .val [] .str, .val [(0, 0)] zT2, zv, .rw 2, zv, zv], .arr [] zP1, zs7, .vars [zv, zv, .val [] .str, zv, zv, zv, .nils, .nils, .val [] .bool], .vars [zv, zv, .val [] .str, zv, zv, zv, .rw 6, .nils, .val [] .bool], .arr [] (.int .u8)]
noncomputable def L108_1000018 : Option R :=
  onShape aa108_1000018 ab108_1000018 (fun v => let u0 := v.2.2.2.2.1.2.2.2.2.2.2.2; let u1 := v.2.2.2.2.2.1.2.2.2.2.2.2.2; f108_1000018 k (fun p7 => N (sh fi108_18 [.ptr 1 0, .ptr 3 0, .ptr 4 0, .ptr 5 0] [⟨0, .vars [zi v.2.1.1, zi v.2.1.2.1, .val [] .str v.2.1.2.2.1, .val [(0, 0)] zT2 v.2.1.2.2.2.1, zi v.2.1.2.2.2.2.1, .rw 2, zi v.2.1.2.2.2.2.2.2.1, zi v.2.1.2.2.2.2.2.2.2.1]⟩, zr4 p7, zr9 v.2.2.2.1.1 v.2.2.2.1.2.1 v.2.2.2.1.2.2.1 v.2.2.2.1.2.2.2.2.1 v.2.2.2.1.2.2.2.2.2.2.1 v.2.2.2.1.2.2.2.2.2.2.2.1, ⟨0, .vars [zi v.2.2.2.2.1.1, zi v.2.2.2.2.1.2.1, .val [] .str v.2.2.2.2.1.2.2.1, zi v.2.2.2.2.1.2.2.2.1, zi v.2.2.2.2.1.2.2.2.2.1, zi v.2.2.2.2.1.2.2.2.2.2.1, .nils, .nils, .val [] .bool u0.2.1]⟩, ⟨0, .vars [zi v.2.2.2.2.2.1.1, zi v.2.2.2.2.2.1.2.1, .val [] .str v.2.2.2.2.2.1.2.2.1, zi v.2.2.2.2.2.1.2.2.2.1, zi v.2.2.2.2.2.1.2.2.2.2.1, zi v.2.2.2.2.2.1.2.2.2.2.2.1, .rw 6, .nils, .val [] .bool u1.2.1]⟩, zr0 v.2.2.2.2.2.2.1])) v.1.2.2.2.2.1 v.2.1.1 v.2.1.2.1 v.2.1.2.2.1 v.2.1.2.2.2.1 v.2.1.2.2.2.2.1 v.2.1.2.2.2.2.2.2.1 v.2.1.2.2.2.2.2.2.2.1 v.2.2.1 v.2.2.2.1.1 v.2.2.2.1.2.1 v.2.2.2.1.2.2.1 v.2.2.2.1.2.2.2.2.1 v.2.2.2.1.2.2.2.2.2.2.1 v.2.2.2.1.2.2.2.2.2.2.2.1 v.2.2.2.2.1.1 v.2.2.2.2.1.2.1 v.2.2.2.2.1.2.2.1 v.2.2.2.2.1.2.2.2.1 v.2.2.2.2.1.2.2.2.2.1 v.2.2.2.2.1.2.2.2.2.2.1 u0.2.1 v.2.2.2.2.2.1.1 v.2.2.2.2.2.1.2.1 v.2.2.2.2.2.1.2.2.1 v.2.2.2.2.2.1.2.2.2.1 v.2.2.2.2.2.1.2.2.2.2.1 v.2.2.2.2.2.1.2.2.2.2.2.1 u1.2.1 v.2.2.2.2.2.2.1) (I108_1000018 k K ws rs N X) ws rs
noncomputable def L108 : Option R := bif id == 1000018 then L108_1000018 k K ws rs N X else none
theorem l108_1000018 : L108 k K 1000018 ws rs N X = I108_1000018 k K ws rs N X := by
  show L108_1000018 k K ws rs N X = _
  unfold L108_1000018
  rw [f108_1000018_def]
  exact lC (L108 k K) [] (by kernel_rfl) trivial fun x y => by kernel_rfl
theorem tu108 : tOk (R := R) 108 aa108 ab108 g108 := by
  intro k x y K
  unfold g108
  rw [f108_def]
  cases k with
  | zero => rfl
  | succ k => exact eS Try.f108 an108 0 138 (L108 k K) [(1000018, sp108_1000018, cd108_1000018)] (by kernel_rfl) (S108_eq k) (by kernel_rfl) ⟨l108_1000018 k K, trivial⟩ (by kernel_rfl)
noncomputable def s108 := onS (R := R) aa108 ab108 g108 (fun k => callC T F k 108)
theorem s108_eq : sOk (R := R) s108 108 := onS_eq (fun _ _ _ _ => rfl) tu108
noncomputable abbrev kt79 : zK7 R := (fun z0 z1 z2 z3 z4 z5 z6 z7 z8 => K [.agg [zi z0, zi z1, .val [] .str z2, .val [(0, 0)] zT2 z3, zi z4, .val [(0, 0)] zT1 z5, zi z6, zi z7], .rw 1] [⟨0, .arr [] zP0 z8⟩])
abbrev aa79 : List Sh := [.agg [zv, zv, zv, zv, zv], .agg [zv, zv, .val [] .str, .val [(0, 0)] zT2, zv, .val [(0, 0)] zT1, zv, zv]]
abbrev ab79 : List RSh := []
noncomputable def g79 (k : Nat) (v : Sh.D.DL aa79 × RSh.DL ab79) (K : KT R) : Option R := f79 k v.1.1.1 v.1.1.2.1 v.1.1.2.2.1 v.1.1.2.2.2.1 v.1.1.2.2.2.2.1 v.1.2.1.1 v.1.2.1.2.1 v.1.2.1.2.2.1 v.1.2.1.2.2.2.1 v.1.2.1.2.2.2.2.1 v.1.2.1.2.2.2.2.2.1 v.1.2.1.2.2.2.2.2.2.1 v.1.2.1.2.2.2.2.2.2.2.1 (kt79 K)
noncomputable abbrev E79 := ending T Try.f79 an79 0 K
noncomputable def S79 := pickS (R := R) [(107, s107), (108, s108)]
theorem S79_eq : ∀ k, S79 (R := R) k = callC T F k := pickS_eq ⟨s107_eq, s108_eq, trivial⟩
noncomputable abbrev I79_0 : Option R := inner T an79 (modesOf F) 0 k 63 (S79 k) (E79 K) cd79_0 (sh sp79_0 ws rs) N X
abbrev aa79_0 : List Sh := [.ptr 1 0, .ptr 2 0, .ptr 3 0, .rw 4]
abbrev ab79_0 : List RSh := [zs2, zs6, zs7, .arr [] zP0]
noncomputable def L79_0 : Option R :=
  onShape aa79_0 ab79_0 (fun v => f79_0 k (fun p0 p1 p2 p3 p4 p5 p6 p7 p14 => N (sh jn79_0 [.ptr 1 0, .ptr 2 0, .rw 3] [zr8 p0 p1 p2 p3 p4 p5 p6 p7, zr9 v.2.2.2.1.1 v.2.2.2.1.2.1 v.2.2.2.1.2.2.1 v.2.2.2.1.2.2.2.2.1 v.2.2.2.1.2.2.2.2.2.2.1 v.2.2.2.1.2.2.2.2.2.2.2.1, ⟨0, .arr [] zP0 p14⟩])) v.2.1.1 v.2.1.2.1 v.2.1.2.2.1 v.2.1.2.2.2.1 v.2.1.2.2.2.2.1 v.2.2.2.1.1 v.2.2.2.1.2.1 v.2.2.2.1.2.2.1 v.2.2.2.1.2.2.2.2.1 v.2.2.2.1.2.2.2.2.2.2.1 v.2.2.2.1.2.2.2.2.2.2.2.1 k v.2.2.1.1 v.2.2.1.2.1 v.2.2.1.2.2.1 v.2.2.1.2.2.2.1 v.2.2.1.2.2.2.2.1 v.2.2.1.2.2.2.2.2.1 v.2.2.1.2.2.2.2.2.2.1 v.2.2.1.2.2.2.2.2.2.2.1 v.2.2.2.2.1) (I79_0 k K ws rs N X) ws rs
noncomputable def L79 : Option R := bif id == 0 then L79_0 k K ws rs N X else none
theorem i79_0 (c0 c1 c2 c3 c4 c13 c14 : Int) (c15 : ByteArray) (c16 c17 c18 : Int) (m : Nat) : ∀ (c5 c6 : Int) (c7 : ByteArray) (c8 : List Int) (c9 : Int) (c10 : zL5) (c11 c12 : Int) (c19 : zL3),
    iter (atHead an79 0 bd79_0) m (fun st N' => exec T an79 (modesOf F) 0 k 63 (S79 k) (E79 K) bd79_0 st N' (outX an79 0 0 N X)) (sh sp79_0 [.ptr 1 0, .ptr 2 0, .ptr 3 0, .rw 4] [⟨0, .vars [zi c0, zi c1, zi c2, zi c3, zi c4]⟩, zr8 c5 c6 c7 c8 c9 c10 c11 c12, zr9 c13 c14 c15 c16 c17 c18, ⟨0, .arr [] zP0 c19⟩]) = f79_0d k (fun p0 p1 p2 p3 p4 p5 p6 p7 p14 => N (sh jn79_0 [.ptr 1 0, .ptr 2 0, .rw 3] [zr8 p0 p1 p2 p3 p4 p5 p6 p7, zr9 c13 c14 c15 c16 c17 c18, ⟨0, .arr [] zP0 p14⟩])) c0 c1 c2 c3 c4 c13 c14 c15 c16 c17 c18 m c5 c6 c7 c8 c9 c10 c11 c12 c19 := by
  induction m with
  | zero => intros; rfl
  | succ m ih =>
    intro c5 c6 c7 c8 c9 c10 c11 c12 c19
    simp only [iter]
    rw [← execS_eq T an79 (modesOf F) 0 k 63 (S79 k) (L79 k K) bd79_0 (cuts_of _ _ _ _ _ _ _ _ bd79_0 (l := []) (by kernel_rfl) trivial)]
    have h := fx9 ih
    simp only [f79_0d]
    rw [← h]
    show _ = _
    kernel_rfl
theorem l79_0 : L79 k K 0 ws rs N X = I79_0 k K ws rs N X := by
  show L79_0 k K ws rs N X = _
  unfold L79_0
  rw [f79_0_def]
  exact onShape_eq (a := aa79_0) (b := ab79_0) (G := fun ws rs => I79_0 k K ws rs N X) (fun x y => Eq.trans (by kernel_rfl) (Eq.trans (i79_0 k K N X y.1.1 y.1.2.1 y.1.2.2.1 y.1.2.2.2.1 y.1.2.2.2.2.1 y.2.2.1.1 y.2.2.1.2.1 y.2.2.1.2.2.1 y.2.2.1.2.2.2.2.1 y.2.2.1.2.2.2.2.2.2.1 y.2.2.1.2.2.2.2.2.2.2.1 k y.2.1.1 y.2.1.2.1 y.2.1.2.2.1 y.2.1.2.2.2.1 y.2.1.2.2.2.2.1 y.2.1.2.2.2.2.2.1 y.2.1.2.2.2.2.2.2.1 y.2.1.2.2.2.2.2.2.2.1 y.2.2.2.1).symm (by kernel_rfl))) ws rs
theorem tu79 : tOk (R := R) 79 aa79 ab79 g79 := by
  intro k x y K
  unfold g79
  rw [f79_def]
  cases k with
  | zero => rfl
  | succ k => exact eS Try.f79 an79 0 63 (L79 k K) [(0, sp79_0, cd79_0)] (by kernel_rfl) (S79_eq k) (by kernel_rfl) ⟨l79_0 k K, trivial⟩ (by kernel_rfl)
noncomputable def s79 := onS (R := R) aa79 ab79 g79 (fun k => callC T F k 79)
theorem s79_eq : sOk (R := R) s79 79 := onS_eq (fun _ _ _ _ => rfl) tu79
noncomputable abbrev kt124v1 : zK3 R := (fun z0 z1 z2 z3 z4 z5 z6 z7 z8 z9 z10 z11 z12 z13 z14 z15 z16 z17 z18 z19 z20 z21 z22 z23 z24 z25 z26 z27 z28 => K [] [zr1 z0 z1 z2 z3 z4 z5 z6 z7 z8 z9 z10 z11 z12 z13 z14 z15 z16 z17 z18 z19 z20 z21 z22 z23 z24 z25 z26, ⟨0, .gone⟩, ⟨0, .gone⟩, zr2 z27, zr2 z28])
abbrev aa124v1 : List Sh := [.ptr 1 22, zv, .val [(0, 0)] (.slice zP0)]
abbrev ab124v1 : List RSh := [zs0, .arr [(0, 0)] zP2, .arr [(0, 0)] zP2]
noncomputable def g124v1 (k : Nat) (v : Sh.D.DL aa124v1 × RSh.DL ab124v1) (K : KT R) : Option R := let u0 := v.2.1.2.2.2.2.2.2.2; let u1 := u0.2.2.2.2.2.2.2; let u2 := u1.2.2.2.2.2.2.2; f124v1 k v.1.2.1 v.1.2.2.1 v.2.1.1 v.2.1.2.1 v.2.1.2.2.1 v.2.1.2.2.2.1 v.2.1.2.2.2.2.1 v.2.1.2.2.2.2.2.1 v.2.1.2.2.2.2.2.2.1 v.2.1.2.2.2.2.2.2.2.1 u0.2.1 u0.2.2.1 u0.2.2.2.1 u0.2.2.2.2.1 u0.2.2.2.2.2.1 u0.2.2.2.2.2.2.1 u0.2.2.2.2.2.2.2.1 u1.2.1 u1.2.2.1 u1.2.2.2.1 u1.2.2.2.2.1 u1.2.2.2.2.2.1 u1.2.2.2.2.2.2.1 u1.2.2.2.2.2.2.2.1 u2.2.1 u2.2.2.1 u2.2.2.2.2.1 u2.2.2.2.2.2.1 u2.2.2.2.2.2.2.2.1 v.2.2.1 v.2.2.2.1 (kt124v1 K)
noncomputable abbrev E124v1 := ending T Try.f124 an124 3 K
noncomputable def S124v1 := pickS (R := R) []
theorem S124v1_eq : ∀ k, S124v1 (R := R) k = callC T F k := pickS_eq trivial
noncomputable abbrev I124v1_1000004 : Option R := inner T an124 (modesOf F) 3 k 57 (S124v1 k) (E124v1 K) cd124_1000004 (sh sp124_1000004 ws rs) N X
abbrev aa124v1_1000004 : List Sh := [.ptr 1 22, zv, .ptr 6 0, .val [(0, 0)] (.slice zP0), zv, zv, .val [] .bool]
abbrev ab124v1_1000004 : List RSh := [zs1, .gone, .gone, .arr [(0, 0)] zP2, .arr [(0, 0)] zP2, zs3]
noncomputable def L124v1_1000004 : Option R :=
  onShape aa124v1_1000004 ab124v1_1000004 (fun v => let u0 := v.2.1.2.2.2.2.2.2.2; let u1 := u0.2.2.2.2.2.2.2; let u2 := u1.2.2.2.2.2.2.2; let u3 := v.2.2.2.2.2.2.1.2.2.2.2.2.2.2; f124v1_1000004 k (fun p31 => N (sh fi124_4 [.ptr 1 22, zi v.1.2.1, .val [(0, 0)] (.slice zP0) v.1.2.2.2.1, zi v.1.2.2.2.2.1, zi v.1.2.2.2.2.2.1] [zr1 v.2.1.1 v.2.1.2.1 v.2.1.2.2.1 v.2.1.2.2.2.1 v.2.1.2.2.2.2.1 v.2.1.2.2.2.2.2.1 v.2.1.2.2.2.2.2.2.1 v.2.1.2.2.2.2.2.2.2.1 u0.2.1 u0.2.2.1 u0.2.2.2.1 u0.2.2.2.2.1 u0.2.2.2.2.2.1 u0.2.2.2.2.2.2.1 u0.2.2.2.2.2.2.2.1 u1.2.1 u1.2.2.1 u1.2.2.2.1 u1.2.2.2.2.1 u1.2.2.2.2.2.1 u1.2.2.2.2.2.2.1 u1.2.2.2.2.2.2.2.1 u2.2.1 u2.2.2.1 u2.2.2.2.2.1 u2.2.2.2.2.2.1 u2.2.2.2.2.2.2.2.1, ⟨0, .gone⟩, ⟨0, .gone⟩, zr2 p31, zr2 v.2.2.2.2.2.1])) v.1.2.1 v.1.2.2.2.1 v.1.2.2.2.2.1 v.1.2.2.2.2.2.1 v.1.2.2.2.2.2.2.1 v.2.1.1 v.2.1.2.1 v.2.1.2.2.1 v.2.1.2.2.2.1 v.2.1.2.2.2.2.1 v.2.1.2.2.2.2.2.1 v.2.1.2.2.2.2.2.2.1 v.2.1.2.2.2.2.2.2.2.1 u0.2.1 u0.2.2.1 u0.2.2.2.1 u0.2.2.2.2.1 u0.2.2.2.2.2.1 u0.2.2.2.2.2.2.1 u0.2.2.2.2.2.2.2.1 u1.2.1 u1.2.2.1 u1.2.2.2.1 u1.2.2.2.2.1 u1.2.2.2.2.2.1 u1.2.2.2.2.2.2.1 u1.2.2.2.2.2.2.2.1 u2.2.1 u2.2.2.1 u2.2.2.2.2.1 u2.2.2.2.2.2.1 u2.2.2.2.2.2.2.2.1 v.2.2.2.2.1 v.2.2.2.2.2.1 v.2.2.2.2.2.2.1.1 v.2.2.2.2.2.2.1.2.1 v.2.2.2.2.2.2.1.2.2.1 v.2.2.2.2.2.2.1.2.2.2.1 v.2.2.2.2.2.2.1.2.2.2.2.1 v.2.2.2.2.2.2.1.2.2.2.2.2.1 v.2.2.2.2.2.2.1.2.2.2.2.2.2.1 v.2.2.2.2.2.2.1.2.2.2.2.2.2.2.1 u3.2.1) (I124v1_1000004 k K ws rs N X) ws rs
noncomputable abbrev I124v1_0 : Option R := inner T an124 (modesOf F) 3 k 57 (S124v1 k) (E124v1 K) cd124_0 (sh sp124_0 ws rs) N X
abbrev aa124v1_0 : List Sh := [.ptr 1 22, zv, .val [(0, 0)] (.slice zP0), zv, zv]
abbrev ab124v1_0 : List RSh := [zs1, .gone, .gone, .arr [(0, 0)] zP2, .arr [(0, 0)] zP2]
noncomputable def L124v1_0 : Option R :=
  onShape aa124v1_0 ab124v1_0 (fun v => let u0 := v.2.1.2.2.2.2.2.2.2; let u1 := u0.2.2.2.2.2.2.2; let u2 := u1.2.2.2.2.2.2.2; f124v1_0 k (fun p23 p27 => N (sh jn124_0 [] [zr1 v.2.1.1 v.2.1.2.1 v.2.1.2.2.1 v.2.1.2.2.2.1 v.2.1.2.2.2.2.1 v.2.1.2.2.2.2.2.1 v.2.1.2.2.2.2.2.2.1 v.2.1.2.2.2.2.2.2.2.1 u0.2.1 u0.2.2.1 u0.2.2.2.1 u0.2.2.2.2.1 u0.2.2.2.2.2.1 u0.2.2.2.2.2.2.1 u0.2.2.2.2.2.2.2.1 u1.2.1 u1.2.2.1 u1.2.2.2.1 u1.2.2.2.2.1 u1.2.2.2.2.2.1 u1.2.2.2.2.2.2.1 u1.2.2.2.2.2.2.2.1 u2.2.1 p23 u2.2.2.2.2.1 u2.2.2.2.2.2.1 u2.2.2.2.2.2.2.2.1, ⟨0, .gone⟩, ⟨0, .gone⟩, zr2 p27, zr2 v.2.2.2.2.2.1])) v.1.2.1 v.1.2.2.1 v.1.2.2.2.1 v.2.1.1 v.2.1.2.1 v.2.1.2.2.1 v.2.1.2.2.2.1 v.2.1.2.2.2.2.1 v.2.1.2.2.2.2.2.1 v.2.1.2.2.2.2.2.2.1 v.2.1.2.2.2.2.2.2.2.1 u0.2.1 u0.2.2.1 u0.2.2.2.1 u0.2.2.2.2.1 u0.2.2.2.2.2.1 u0.2.2.2.2.2.2.1 u0.2.2.2.2.2.2.2.1 u1.2.1 u1.2.2.1 u1.2.2.2.1 u1.2.2.2.2.1 u1.2.2.2.2.2.1 u1.2.2.2.2.2.2.1 u1.2.2.2.2.2.2.2.1 u2.2.1 u2.2.2.2.2.1 u2.2.2.2.2.2.1 u2.2.2.2.2.2.2.2.1 v.2.2.2.2.2.1 k v.1.2.2.2.2.1 u2.2.2.1 v.2.2.2.2.1) (I124v1_0 k K ws rs N X) ws rs
noncomputable def L124v1 : Option R := bif id == 1000004 then L124v1_1000004 k K ws rs N X else bif id == 0 then L124v1_0 k K ws rs N X else none
theorem l124v1_1000004 : L124v1 k K 1000004 ws rs N X = I124v1_1000004 k K ws rs N X := by
  show L124v1_1000004 k K ws rs N X = _
  unfold L124v1_1000004
  rw [f124v1_1000004_def]
  exact lC (L124v1 k K) [] (by kernel_rfl) trivial fun x y => by kernel_rfl
theorem i124v1_0 (c0 : Int) (c1 : zL2) (c2 c4 c5 c6 c7 c8 c9 c10 : Int) (c11 : ByteArray) (c12 : List Int) (c13 : Int) (c14 : zL5) (c15 c16 c17 c18 : Int) (c19 : ByteArray) (c20 : List Int) (c21 : zL5) (c22 c23 c24 c25 : Int) (c26 c28 : List Bool) (c29 c30 : Int) (c32 : zL1) (m : Nat) : ∀ (c3 c27 : Int) (c31 : zL1),
    iter (atHead an124 3 bd124_0) m (fun st N' => exec T an124 (modesOf F) 3 k 57 (S124v1 k) (E124v1 K) bd124_0 st N' (outX an124 3 0 N X)) (sh sp124_0 [.ptr 1 22, zi c0, .val [(0, 0)] (.slice zP0) c1, zi c2, zi c3] [zr1 c4 c5 c6 c7 c8 c9 c10 c11 c12 c13 c14 c15 c16 c17 c18 c19 c20 c21 c22 c23 c24 c25 c26 c27 c28 c29 c30, ⟨0, .gone⟩, ⟨0, .gone⟩, zr2 c31, zr2 c32]) = f124v1_0d k (fun p23 p27 => N (sh jn124_0 [] [zr1 c4 c5 c6 c7 c8 c9 c10 c11 c12 c13 c14 c15 c16 c17 c18 c19 c20 c21 c22 c23 c24 c25 c26 p23 c28 c29 c30, ⟨0, .gone⟩, ⟨0, .gone⟩, zr2 p27, zr2 c32])) c0 c1 c2 c4 c5 c6 c7 c8 c9 c10 c11 c12 c13 c14 c15 c16 c17 c18 c19 c20 c21 c22 c23 c24 c25 c26 c28 c29 c30 c32 m c3 c27 c31 := by
  induction m with
  | zero => intros; rfl
  | succ m ih =>
    intro c3 c27 c31
    simp only [iter]
    rw [← execS_eq T an124 (modesOf F) 3 k 57 (S124v1 k) (L124v1 k K) bd124_0 (cuts_of _ _ _ _ _ _ _ _ bd124_0 (l := [(1000004, sp124_1000004, cd124_1000004)]) (by kernel_rfl) ⟨l124v1_1000004 k K, trivial⟩)]
    have h := fx3 ih
    simp only [f124v1_0d]
    rw [← h]
    show _ = _
    kernel_rfl
theorem l124v1_0 : L124v1 k K 0 ws rs N X = I124v1_0 k K ws rs N X := by
  show L124v1_0 k K ws rs N X = _
  unfold L124v1_0
  rw [f124v1_0_def]
  exact onShape_eq (a := aa124v1_0) (b := ab124v1_0) (G := fun ws rs => I124v1_0 k K ws rs N X) (fun x y => Eq.trans (by kernel_rfl) (Eq.trans (i124v1_0 k K N X x.2.1 x.2.2.1 x.2.2.2.1 y.1.1 y.1.2.1 y.1.2.2.1 y.1.2.2.2.1 y.1.2.2.2.2.1 y.1.2.2.2.2.2.1 y.1.2.2.2.2.2.2.1 y.1.2.2.2.2.2.2.2.1 y.1.2.2.2.2.2.2.2.2.1 y.1.2.2.2.2.2.2.2.2.2.1 y.1.2.2.2.2.2.2.2.2.2.2.1 y.1.2.2.2.2.2.2.2.2.2.2.2.1 y.1.2.2.2.2.2.2.2.2.2.2.2.2.1 y.1.2.2.2.2.2.2.2.2.2.2.2.2.2.1 y.1.2.2.2.2.2.2.2.2.2.2.2.2.2.2.1 y.1.2.2.2.2.2.2.2.2.2.2.2.2.2.2.2.1 y.1.2.2.2.2.2.2.2.2.2.2.2.2.2.2.2.2.1 y.1.2.2.2.2.2.2.2.2.2.2.2.2.2.2.2.2.2.1 y.1.2.2.2.2.2.2.2.2.2.2.2.2.2.2.2.2.2.2.1 y.1.2.2.2.2.2.2.2.2.2.2.2.2.2.2.2.2.2.2.2.1 y.1.2.2.2.2.2.2.2.2.2.2.2.2.2.2.2.2.2.2.2.2.1 y.1.2.2.2.2.2.2.2.2.2.2.2.2.2.2.2.2.2.2.2.2.2.1 y.1.2.2.2.2.2.2.2.2.2.2.2.2.2.2.2.2.2.2.2.2.2.2.1 y.1.2.2.2.2.2.2.2.2.2.2.2.2.2.2.2.2.2.2.2.2.2.2.2.2.2.1 y.1.2.2.2.2.2.2.2.2.2.2.2.2.2.2.2.2.2.2.2.2.2.2.2.2.2.2.1 y.1.2.2.2.2.2.2.2.2.2.2.2.2.2.2.2.2.2.2.2.2.2.2.2.2.2.2.2.2.1 y.2.2.2.2.1 k x.2.2.2.2.1 y.1.2.2.2.2.2.2.2.2.2.2.2.2.2.2.2.2.2.2.2.2.2.2.2.1 y.2.2.2.1).symm (by kernel_rfl))) ws rs
theorem tu124v1 : tOk (R := R) 124 aa124v1 ab124v1 g124v1 := by
  intro k x y K
  unfold g124v1
  rw [f124v1_def]
  cases k with
  | zero => rfl
  | succ k => exact eS Try.f124 an124 3 57 (L124v1 k K) [(0, sp124_0, cd124_0)] (by kernel_rfl) (S124v1_eq k) (by kernel_rfl) ⟨l124v1_0 k K, trivial⟩ (by kernel_rfl)
noncomputable def s124v1 := onS (R := R) aa124v1 ab124v1 g124v1 s124
theorem s124v1_eq : sOk (R := R) s124v1 124 := onS_eq s124_eq tu124v1
noncomputable abbrev kt82 : zK2 R := (fun z0 z1 z2 z3 z4 z5 z6 z7 z8 z9 z10 => K [.agg [zi z0, zi z1, .val [] .str z2, .val [(0, 0)] zT2 z3, .val [(0, 0)] zT1 z4, zi z5, zi z6, zi z7, zi z8], .rw 1, zi z9] [zr3 z10])
abbrev aa82 : List Sh := [.agg [zv, zv, zv, zv, zv], .agg [zv, zv, .val [] .str, .val [(0, 0)] zT2, .val [(0, 0)] zT1, zv, zv, zv, zv]]
abbrev ab82 : List RSh := []
noncomputable def g82 (k : Nat) (v : Sh.D.DL aa82 × RSh.DL ab82) (K : KT R) : Option R := let u0 := v.1.2.1.2.2.2.2.2.2.2; f82 k v.1.1.1 v.1.1.2.1 v.1.1.2.2.1 v.1.1.2.2.2.1 v.1.1.2.2.2.2.1 v.1.2.1.1 v.1.2.1.2.1 v.1.2.1.2.2.1 v.1.2.1.2.2.2.1 v.1.2.1.2.2.2.2.1 v.1.2.1.2.2.2.2.2.1 v.1.2.1.2.2.2.2.2.2.1 v.1.2.1.2.2.2.2.2.2.2.1 u0.2.1 (kt82 K)
noncomputable abbrev E82 := ending T Try.f82 an82 0 K
noncomputable def S82 := pickS (R := R) [(112, s112)]
theorem S82_eq : ∀ k, S82 (R := R) k = callC T F k := pickS_eq ⟨s112_eq, trivial⟩
theorem tu82 : tOk (R := R) 82 aa82 ab82 g82 := by
  intro k x y K
  unfold g82
  rw [f82_def]
  cases k with
  | zero => rfl
  | succ k => exact eS Try.f82 an82 0 54 L0 [] (by kernel_rfl) (S82_eq k) (by kernel_rfl) trivial (by kernel_rfl)
noncomputable def s82 := onS (R := R) aa82 ab82 g82 (fun k => callC T F k 82)
theorem s82_eq : sOk (R := R) s82 82 := onS_eq (fun _ _ _ _ => rfl) tu82
noncomputable abbrev kt100 : zK8 R := (fun z0 z1 z2 z3 z4 z5 z6 z7 z8 z9 z10 z11 z12 z13 z14 z15 z16 z17 z18 z19 z20 z21 z22 z23 z24 z25 z26 z27 z28 z29 => K [zi z0] [zr1 z1 z2 z3 z4 z5 z6 z7 z8 z9 z10 z11 z12 z13 z14 z15 z16 z17 z18 z19 z20 z21 z22 z23 z24 z25 z26 z27, ⟨0, .gone⟩, ⟨0, .gone⟩, zr2 z28, zr2 z29])
abbrev aa100 : List Sh := [.ptr 1 0, zv]
abbrev ab100 : List RSh := [zs0, .arr [(0, 0)] zP2, .arr [(0, 0)] zP2]
noncomputable def g100 (k : Nat) (v : Sh.D.DL aa100 × RSh.DL ab100) (K : KT R) : Option R := let u0 := v.2.1.2.2.2.2.2.2.2; let u1 := u0.2.2.2.2.2.2.2; let u2 := u1.2.2.2.2.2.2.2; f100 k v.1.2.1 v.2.1.1 v.2.1.2.1 v.2.1.2.2.1 v.2.1.2.2.2.1 v.2.1.2.2.2.2.1 v.2.1.2.2.2.2.2.1 v.2.1.2.2.2.2.2.2.1 v.2.1.2.2.2.2.2.2.2.1 u0.2.1 u0.2.2.1 u0.2.2.2.1 u0.2.2.2.2.1 u0.2.2.2.2.2.1 u0.2.2.2.2.2.2.1 u0.2.2.2.2.2.2.2.1 u1.2.1 u1.2.2.1 u1.2.2.2.1 u1.2.2.2.2.1 u1.2.2.2.2.2.1 u1.2.2.2.2.2.2.1 u1.2.2.2.2.2.2.2.1 u2.2.1 u2.2.2.1 u2.2.2.2.2.1 u2.2.2.2.2.2.1 u2.2.2.2.2.2.2.2.1 v.2.2.1 v.2.2.2.1 (kt100 K)
noncomputable abbrev E100 := ending T Try.f100 an100 3 K
noncomputable def S100 := pickS (R := R) [(79, s79), (82, s82), (90, s90), (92, s92), (123, s123v1), (124, s124v1)]
theorem S100_eq : ∀ k, S100 (R := R) k = callC T F k := pickS_eq ⟨s79_eq, s82_eq, s90_eq, s92_eq, s123v1_eq, s124v1_eq, trivial⟩
noncomputable abbrev I100_0 : Option R := inner T an100 (modesOf F) 3 k 167 (S100 k) (E100 K) cd100_0 (sh sp100_0 ws rs) N X
abbrev aa100_0 : List Sh := [.ptr 1 0, zv, .rw 6, zv, zv]
abbrev ab100_0 : List RSh := [zs1, .gone, .gone, .arr [(0, 0)] zP2, .arr [(0, 0)] zP2, .arr [(0, 0)] zP0]
noncomputable def L100_0 : Option R :=
  onShape aa100_0 ab100_0 (fun v => let u0 := v.2.1.2.2.2.2.2.2.2; let u1 := u0.2.2.2.2.2.2.2; let u2 := u1.2.2.2.2.2.2.2; f100_0 k (kt100 K) (fun p1 p2 p3 p4 p5 p6 p7 p8 p9 p10 p11 p12 p13 p14 p15 p16 p17 p18 p19 p20 p21 p22 p23 p24 p25 p26 p27 p28 p29 => N (sh jn100_0 [.ptr 1 0, zi v.1.2.1] [zr1 p1 p2 p3 p4 p5 p6 p7 p8 p9 p10 p11 p12 p13 p14 p15 p16 p17 p18 p19 p20 p21 p22 p23 p24 p25 p26 p27, ⟨0, .gone⟩, ⟨0, .gone⟩, zr2 p28, zr2 p29])) v.1.2.1 v.1.2.2.2.1 v.2.2.2.2.2.2.1 k v.1.2.2.2.2.1 v.2.1.1 v.2.1.2.1 v.2.1.2.2.1 v.2.1.2.2.2.1 v.2.1.2.2.2.2.1 v.2.1.2.2.2.2.2.1 v.2.1.2.2.2.2.2.2.1 v.2.1.2.2.2.2.2.2.2.1 u0.2.1 u0.2.2.1 u0.2.2.2.1 u0.2.2.2.2.1 u0.2.2.2.2.2.1 u0.2.2.2.2.2.2.1 u0.2.2.2.2.2.2.2.1 u1.2.1 u1.2.2.1 u1.2.2.2.1 u1.2.2.2.2.1 u1.2.2.2.2.2.1 u1.2.2.2.2.2.2.1 u1.2.2.2.2.2.2.2.1 u2.2.1 u2.2.2.1 u2.2.2.2.2.1 u2.2.2.2.2.2.1 u2.2.2.2.2.2.2.2.1 v.2.2.2.2.1 v.2.2.2.2.2.1) (I100_0 k K ws rs N X) ws rs
noncomputable abbrev I100_2 : Option R := inner T an100 (modesOf F) 3 k 167 (S100 k) (E100 K) cd100_2 (sh sp100_2 ws rs) N X
abbrev aa100_2 : List Sh := [.ptr 1 0, zv, .rw 6, zv, zv]
abbrev ab100_2 : List RSh := [zs1, .gone, .gone, .arr [(0, 0)] zP2, .arr [(0, 0)] zP2, .arr [(0, 0)] zP0]
noncomputable def L100_2 : Option R :=
  onShape aa100_2 ab100_2 (fun v => let u0 := v.2.1.2.2.2.2.2.2.2; let u1 := u0.2.2.2.2.2.2.2; let u2 := u1.2.2.2.2.2.2.2; f100_2 k (kt100 K) (fun p6 p7 p8 p9 p10 p11 p12 p13 => N (sh jn100_2 [.ptr 1 0, zi v.1.2.1] [zr1 v.2.1.1 v.2.1.2.1 v.2.1.2.2.1 v.2.1.2.2.2.1 v.2.1.2.2.2.2.1 p6 p7 p8 p9 p10 p11 p12 p13 u0.2.2.2.2.2.2.1 u0.2.2.2.2.2.2.2.1 u1.2.1 u1.2.2.1 u1.2.2.2.1 u1.2.2.2.2.1 u1.2.2.2.2.2.1 u1.2.2.2.2.2.2.1 u1.2.2.2.2.2.2.2.1 u2.2.1 u2.2.2.1 u2.2.2.2.2.1 u2.2.2.2.2.2.1 u2.2.2.2.2.2.2.2.1, ⟨0, .gone⟩, ⟨0, .gone⟩, zr2 v.2.2.2.2.1, zr2 v.2.2.2.2.2.1])) v.1.2.1 v.1.2.2.2.1 v.2.1.1 v.2.1.2.1 v.2.1.2.2.1 v.2.1.2.2.2.1 v.2.1.2.2.2.2.1 u0.2.2.2.2.2.2.1 u0.2.2.2.2.2.2.2.1 u1.2.1 u1.2.2.1 u1.2.2.2.1 u1.2.2.2.2.1 u1.2.2.2.2.2.1 u1.2.2.2.2.2.2.1 u1.2.2.2.2.2.2.2.1 u2.2.1 u2.2.2.1 u2.2.2.2.2.1 u2.2.2.2.2.2.1 u2.2.2.2.2.2.2.2.1 v.2.2.2.2.1 v.2.2.2.2.2.1 v.2.2.2.2.2.2.1 k v.1.2.2.2.2.1 v.2.1.2.2.2.2.2.1 v.2.1.2.2.2.2.2.2.1 v.2.1.2.2.2.2.2.2.2.1 u0.2.1 u0.2.2.1 u0.2.2.2.1 u0.2.2.2.2.1 u0.2.2.2.2.2.1) (I100_2 k K ws rs N X) ws rs
noncomputable abbrev I100_1000019 : Option R := inner T an100 (modesOf F) 3 k 167 (S100 k) (E100 K) cd100_1000019 (sh sp100_1000019 ws rs) N X
abbrev aa100_1000019 : List Sh := [.ptr 1 0, zv, .val [] .bool]
abbrev ab100_1000019 : List RSh := [zs1, .gone, .gone, .arr [(0, 0)] zP2, .arr [(0, 0)] zP2]
noncomputable def L100_1000019 : Option R :=
  onShape aa100_1000019 ab100_1000019 (fun v => let u0 := v.2.1.2.2.2.2.2.2.2; let u1 := u0.2.2.2.2.2.2.2; let u2 := u1.2.2.2.2.2.2.2; f100_1000019 k (fun p27 => N (sh fi100_19 [.ptr 1 0, zi v.1.2.1] [zr1 v.2.1.1 v.2.1.2.1 v.2.1.2.2.1 v.2.1.2.2.2.1 v.2.1.2.2.2.2.1 v.2.1.2.2.2.2.2.1 v.2.1.2.2.2.2.2.2.1 v.2.1.2.2.2.2.2.2.2.1 u0.2.1 u0.2.2.1 u0.2.2.2.1 u0.2.2.2.2.1 u0.2.2.2.2.2.1 u0.2.2.2.2.2.2.1 u0.2.2.2.2.2.2.2.1 u1.2.1 u1.2.2.1 u1.2.2.2.1 u1.2.2.2.2.1 u1.2.2.2.2.2.1 u1.2.2.2.2.2.2.1 u1.2.2.2.2.2.2.2.1 u2.2.1 u2.2.2.1 u2.2.2.2.2.1 u2.2.2.2.2.2.1 p27, ⟨0, .gone⟩, ⟨0, .gone⟩, zr2 v.2.2.2.2.1, zr2 v.2.2.2.2.2.1])) v.1.2.1 v.1.2.2.1 v.2.1.1 v.2.1.2.1 v.2.1.2.2.1 v.2.1.2.2.2.1 v.2.1.2.2.2.2.1 v.2.1.2.2.2.2.2.1 v.2.1.2.2.2.2.2.2.1 v.2.1.2.2.2.2.2.2.2.1 u0.2.1 u0.2.2.1 u0.2.2.2.1 u0.2.2.2.2.1 u0.2.2.2.2.2.1 u0.2.2.2.2.2.2.1 u0.2.2.2.2.2.2.2.1 u1.2.1 u1.2.2.1 u1.2.2.2.1 u1.2.2.2.2.1 u1.2.2.2.2.2.1 u1.2.2.2.2.2.2.1 u1.2.2.2.2.2.2.2.1 u2.2.1 u2.2.2.1 u2.2.2.2.2.1 u2.2.2.2.2.2.1 u2.2.2.2.2.2.2.2.1 v.2.2.2.2.1 v.2.2.2.2.2.1) (I100_1000019 k K ws rs N X) ws rs
noncomputable def L100 : Option R := bif id == 0 then L100_0 k K ws rs N X else bif id == 2 then L100_2 k K ws rs N X else bif id == 1000019 then L100_1000019 k K ws rs N X else none
theorem i100_0 (c0 c1 : Int) (c32 : zL3) (m : Nat) : ∀ (c2 c3 c4 c5 c6 c7 c8 c9 : Int) (c10 : ByteArray) (c11 : List Int) (c12 : Int) (c13 : zL5) (c14 c15 c16 c17 : Int) (c18 : ByteArray) (c19 : List Int) (c20 : zL5) (c21 c22 c23 c24 : Int) (c25 : List Bool) (c26 : Int) (c27 : List Bool) (c28 c29 : Int) (c30 c31 : zL1),
    iter (atHead an100 3 bd100_0) m (fun st N' => exec T an100 (modesOf F) 3 k 167 (S100 k) (E100 K) bd100_0 st N' (outX an100 3 0 N X)) (sh sp100_0 [.ptr 1 0, zi c0, .rw 6, zi c1, zi c2] [zr1 c3 c4 c5 c6 c7 c8 c9 c10 c11 c12 c13 c14 c15 c16 c17 c18 c19 c20 c21 c22 c23 c24 c25 c26 c27 c28 c29, ⟨0, .gone⟩, ⟨0, .gone⟩, zr2 c30, zr2 c31, zr3 c32]) = f100_0d k (kt100 K) (fun p1 p2 p3 p4 p5 p6 p7 p8 p9 p10 p11 p12 p13 p14 p15 p16 p17 p18 p19 p20 p21 p22 p23 p24 p25 p26 p27 p28 p29 => N (sh jn100_0 [.ptr 1 0, zi c0] [zr1 p1 p2 p3 p4 p5 p6 p7 p8 p9 p10 p11 p12 p13 p14 p15 p16 p17 p18 p19 p20 p21 p22 p23 p24 p25 p26 p27, ⟨0, .gone⟩, ⟨0, .gone⟩, zr2 p28, zr2 p29])) c0 c1 c32 m c2 c3 c4 c5 c6 c7 c8 c9 c10 c11 c12 c13 c14 c15 c16 c17 c18 c19 c20 c21 c22 c23 c24 c25 c26 c27 c28 c29 c30 c31 := by
  induction m with
  | zero => intros; rfl
  | succ m ih =>
    intro c2 c3 c4 c5 c6 c7 c8 c9 c10 c11 c12 c13 c14 c15 c16 c17 c18 c19 c20 c21 c22 c23 c24 c25 c26 c27 c28 c29 c30 c31
    simp only [iter]
    rw [← execS_eq T an100 (modesOf F) 3 k 167 (S100 k) (L100 k K) bd100_0 (cuts_of _ _ _ _ _ _ _ _ bd100_0 (l := []) (by kernel_rfl) trivial)]
    have h := fx30 ih
    simp only [f100_0d]
    rw [← h]
    show _ = _
    kernel_rfl
theorem l100_0 : L100 k K 0 ws rs N X = I100_0 k K ws rs N X := by
  show L100_0 k K ws rs N X = _
  unfold L100_0
  rw [f100_0_def]
  exact onShape_eq (a := aa100_0) (b := ab100_0) (G := fun ws rs => I100_0 k K ws rs N X) (fun x y => Eq.trans (by kernel_rfl) (Eq.trans (i100_0 k K N X x.2.1 x.2.2.2.1 y.2.2.2.2.2.1 k x.2.2.2.2.1 y.1.1 y.1.2.1 y.1.2.2.1 y.1.2.2.2.1 y.1.2.2.2.2.1 y.1.2.2.2.2.2.1 y.1.2.2.2.2.2.2.1 y.1.2.2.2.2.2.2.2.1 y.1.2.2.2.2.2.2.2.2.1 y.1.2.2.2.2.2.2.2.2.2.1 y.1.2.2.2.2.2.2.2.2.2.2.1 y.1.2.2.2.2.2.2.2.2.2.2.2.1 y.1.2.2.2.2.2.2.2.2.2.2.2.2.1 y.1.2.2.2.2.2.2.2.2.2.2.2.2.2.1 y.1.2.2.2.2.2.2.2.2.2.2.2.2.2.2.1 y.1.2.2.2.2.2.2.2.2.2.2.2.2.2.2.2.1 y.1.2.2.2.2.2.2.2.2.2.2.2.2.2.2.2.2.1 y.1.2.2.2.2.2.2.2.2.2.2.2.2.2.2.2.2.2.1 y.1.2.2.2.2.2.2.2.2.2.2.2.2.2.2.2.2.2.2.1 y.1.2.2.2.2.2.2.2.2.2.2.2.2.2.2.2.2.2.2.2.1 y.1.2.2.2.2.2.2.2.2.2.2.2.2.2.2.2.2.2.2.2.2.1 y.1.2.2.2.2.2.2.2.2.2.2.2.2.2.2.2.2.2.2.2.2.2.1 y.1.2.2.2.2.2.2.2.2.2.2.2.2.2.2.2.2.2.2.2.2.2.2.1 y.1.2.2.2.2.2.2.2.2.2.2.2.2.2.2.2.2.2.2.2.2.2.2.2.1 y.1.2.2.2.2.2.2.2.2.2.2.2.2.2.2.2.2.2.2.2.2.2.2.2.2.2.1 y.1.2.2.2.2.2.2.2.2.2.2.2.2.2.2.2.2.2.2.2.2.2.2.2.2.2.2.1 y.1.2.2.2.2.2.2.2.2.2.2.2.2.2.2.2.2.2.2.2.2.2.2.2.2.2.2.2.2.1 y.2.2.2.1 y.2.2.2.2.1).symm (by kernel_rfl))) ws rs
theorem i100_2 (c0 c1 c3 c4 c5 c6 c7 c16 c17 : Int) (c18 : ByteArray) (c19 : List Int) (c20 : zL5) (c21 c22 c23 c24 : Int) (c25 : List Bool) (c26 : Int) (c27 : List Bool) (c28 c29 : Int) (c30 c31 : zL1) (c32 : zL3) (m : Nat) : ∀ (c2 c8 c9 : Int) (c10 : ByteArray) (c11 : List Int) (c12 : Int) (c13 : zL5) (c14 c15 : Int),
    iter (atHead an100 3 bd100_2) m (fun st N' => exec T an100 (modesOf F) 3 k 167 (S100 k) (E100 K) bd100_2 st N' (outX an100 3 2 N X)) (sh sp100_2 [.ptr 1 0, zi c0, .rw 6, zi c1, zi c2] [zr1 c3 c4 c5 c6 c7 c8 c9 c10 c11 c12 c13 c14 c15 c16 c17 c18 c19 c20 c21 c22 c23 c24 c25 c26 c27 c28 c29, ⟨0, .gone⟩, ⟨0, .gone⟩, zr2 c30, zr2 c31, zr3 c32]) = f100_2d k (kt100 K) (fun p6 p7 p8 p9 p10 p11 p12 p13 => N (sh jn100_2 [.ptr 1 0, zi c0] [zr1 c3 c4 c5 c6 c7 p6 p7 p8 p9 p10 p11 p12 p13 c16 c17 c18 c19 c20 c21 c22 c23 c24 c25 c26 c27 c28 c29, ⟨0, .gone⟩, ⟨0, .gone⟩, zr2 c30, zr2 c31])) c0 c1 c3 c4 c5 c6 c7 c16 c17 c18 c19 c20 c21 c22 c23 c24 c25 c26 c27 c28 c29 c30 c31 c32 m c2 c8 c9 c10 c11 c12 c13 c14 c15 := by
  induction m with
  | zero => intros; rfl
  | succ m ih =>
    intro c2 c8 c9 c10 c11 c12 c13 c14 c15
    simp only [iter]
    rw [← execS_eq T an100 (modesOf F) 3 k 167 (S100 k) (L100 k K) bd100_2 (cuts_of _ _ _ _ _ _ _ _ bd100_2 (l := []) (by kernel_rfl) trivial)]
    have h := fx9 ih
    simp only [f100_2d]
    rw [← h]
    show _ = _
    kernel_rfl
theorem l100_2 : L100 k K 2 ws rs N X = I100_2 k K ws rs N X := by
  show L100_2 k K ws rs N X = _
  unfold L100_2
  rw [f100_2_def]
  exact onShape_eq (a := aa100_2) (b := ab100_2) (G := fun ws rs => I100_2 k K ws rs N X) (fun x y => Eq.trans (by kernel_rfl) (Eq.trans (i100_2 k K N X x.2.1 x.2.2.2.1 y.1.1 y.1.2.1 y.1.2.2.1 y.1.2.2.2.1 y.1.2.2.2.2.1 y.1.2.2.2.2.2.2.2.2.2.2.2.2.2.1 y.1.2.2.2.2.2.2.2.2.2.2.2.2.2.2.1 y.1.2.2.2.2.2.2.2.2.2.2.2.2.2.2.2.1 y.1.2.2.2.2.2.2.2.2.2.2.2.2.2.2.2.2.1 y.1.2.2.2.2.2.2.2.2.2.2.2.2.2.2.2.2.2.1 y.1.2.2.2.2.2.2.2.2.2.2.2.2.2.2.2.2.2.2.1 y.1.2.2.2.2.2.2.2.2.2.2.2.2.2.2.2.2.2.2.2.1 y.1.2.2.2.2.2.2.2.2.2.2.2.2.2.2.2.2.2.2.2.2.1 y.1.2.2.2.2.2.2.2.2.2.2.2.2.2.2.2.2.2.2.2.2.2.1 y.1.2.2.2.2.2.2.2.2.2.2.2.2.2.2.2.2.2.2.2.2.2.2.1 y.1.2.2.2.2.2.2.2.2.2.2.2.2.2.2.2.2.2.2.2.2.2.2.2.1 y.1.2.2.2.2.2.2.2.2.2.2.2.2.2.2.2.2.2.2.2.2.2.2.2.2.2.1 y.1.2.2.2.2.2.2.2.2.2.2.2.2.2.2.2.2.2.2.2.2.2.2.2.2.2.2.1 y.1.2.2.2.2.2.2.2.2.2.2.2.2.2.2.2.2.2.2.2.2.2.2.2.2.2.2.2.2.1 y.2.2.2.1 y.2.2.2.2.1 y.2.2.2.2.2.1 k x.2.2.2.2.1 y.1.2.2.2.2.2.1 y.1.2.2.2.2.2.2.1 y.1.2.2.2.2.2.2.2.1 y.1.2.2.2.2.2.2.2.2.1 y.1.2.2.2.2.2.2.2.2.2.1 y.1.2.2.2.2.2.2.2.2.2.2.1 y.1.2.2.2.2.2.2.2.2.2.2.2.1 y.1.2.2.2.2.2.2.2.2.2.2.2.2.1).symm (by kernel_rfl))) ws rs
theorem l100_1000019 : L100 k K 1000019 ws rs N X = I100_1000019 k K ws rs N X := by
  show L100_1000019 k K ws rs N X = _
  unfold L100_1000019
  rw [f100_1000019_def]
  exact lC (L100 k K) [] (by kernel_rfl) trivial fun x y => by kernel_rfl
theorem tu100 : tOk (R := R) 100 aa100 ab100 g100 := by
  intro k x y K
  unfold g100
  rw [f100_def]
  cases k with
  | zero => rfl
  | succ k => exact eS Try.f100 an100 3 167 (L100 k K) [(0, sp100_0, cd100_0), (2, sp100_2, cd100_2), (1000019, sp100_1000019, cd100_1000019)] (by kernel_rfl) (S100_eq k) (by kernel_rfl) ⟨l100_0 k K, l100_2 k K, l100_1000019 k K, trivial⟩ (by kernel_rfl)
noncomputable def s100 := onS (R := R) aa100 ab100 g100 (fun k => callC T F k 100)
theorem s100_eq : sOk (R := R) s100 100 := onS_eq (fun _ _ _ _ => rfl) tu100
noncomputable abbrev kt59 : zK10 R := (fun z0 z1 z2 z3 z4 z5 z6 z7 z8 z9 z10 z11 z12 z13 z14 z15 z16 z17 z18 => K [.agg [zi z0, zi z1, .val [] .str z2, .val [(0, 0)] zT2 z3, zi z4, .val [(0, 0)] zT1 z5, zi z6, zi z7], .agg [zi z8, zi z9, .val [] .str z10, .val [(0, 0)] zT2 z11, .val [(0, 0)] zT1 z12, zi z13, zi z14, zi z15, zi z16], .rw 1, zi z17] [⟨0, .arr [] (.int .i64) z18⟩])
abbrev aa59 : List Sh := [.agg [zv, zv, zv, zv, zv], zv, .val [] .str, .val [(0, 0)] zT2, .val [(0, 0)] zT3, .val [(0, 0)] zT3, zv]
abbrev ab59 : List RSh := []
noncomputable def g59 (k : Nat) (v : Sh.D.DL aa59 × RSh.DL ab59) (K : KT R) : Option R := f59 k v.1.1.1 v.1.1.2.1 v.1.1.2.2.1 v.1.1.2.2.2.1 v.1.1.2.2.2.2.1 v.1.2.1 v.1.2.2.1 v.1.2.2.2.1 v.1.2.2.2.2.1 v.1.2.2.2.2.2.1 v.1.2.2.2.2.2.2.1 (kt59 K)
noncomputable abbrev E59 := ending T Try.f59 an59 0 K
noncomputable def S59 := pickS (R := R) [(22, s22), (25, s25), (53, s53), (66, s66), (100, s100)]
theorem S59_eq : ∀ k, S59 (R := R) k = callC T F k := pickS_eq ⟨s22_eq, s25_eq, s53_eq, s66_eq, s100_eq, trivial⟩
noncomputable abbrev I59_0 : Option R := inner T an59 (modesOf F) 0 k 110 (S59 k) (E59 K) cd59_0 (sh sp59_0 ws rs) N X
abbrev aa59_0 : List Sh := [.ptr 1 0, .ptr 2 0, .ptr 3 0, zv, zv]
abbrev ab59_0 : List RSh := [zs7, zs4, zs1, .arr [(0, 0)] zP2, .arr [(0, 0)] zP2]
noncomputable def L59_0 : Option R :=
  onShape aa59_0 ab59_0 (fun v => let u0 := v.2.2.1.2.2.2.2.2.2.2; let u1 := v.2.2.2.1.2.2.2.2.2.2.2; let u2 := u1.2.2.2.2.2.2.2; let u3 := u2.2.2.2.2.2.2.2; f59_0 k (kt59 K) (fun p13 p14 p15 p16 p17 p18 p19 p20 p21 p22 p23 p24 p25 p26 p27 p28 p29 p30 p31 p32 p33 p34 p35 p36 p37 p38 p39 p40 p41 => N (sh jn59_0 [.ptr 1 0, .ptr 2 0, .ptr 3 0] [zr9 v.2.1.1 v.2.1.2.1 v.2.1.2.2.1 v.2.1.2.2.2.2.1 v.2.1.2.2.2.2.2.2.1 v.2.1.2.2.2.2.2.2.2.1, zr6 v.2.2.1.1 v.2.2.1.2.1 v.2.2.1.2.2.1 v.2.2.1.2.2.2.2.2.1 v.2.2.1.2.2.2.2.2.2.1 v.2.2.1.2.2.2.2.2.2.2.1 u0.2.1, zr1 p13 p14 p15 p16 p17 p18 p19 p20 p21 p22 p23 p24 p25 p26 p27 p28 p29 p30 p31 p32 p33 p34 p35 p36 p37 p38 p39, zr2 p40, zr2 p41])) v.1.2.2.2.1 v.2.1.1 v.2.1.2.1 v.2.1.2.2.1 v.2.1.2.2.2.2.1 v.2.1.2.2.2.2.2.2.1 v.2.1.2.2.2.2.2.2.2.1 v.2.2.1.1 v.2.2.1.2.1 v.2.2.1.2.2.1 v.2.2.1.2.2.2.2.2.1 v.2.2.1.2.2.2.2.2.2.1 v.2.2.1.2.2.2.2.2.2.2.1 u0.2.1 k v.1.2.2.2.2.1 v.2.2.2.1.1 v.2.2.2.1.2.1 v.2.2.2.1.2.2.1 v.2.2.2.1.2.2.2.1 v.2.2.2.1.2.2.2.2.1 v.2.2.2.1.2.2.2.2.2.1 v.2.2.2.1.2.2.2.2.2.2.1 v.2.2.2.1.2.2.2.2.2.2.2.1 u1.2.1 u1.2.2.1 u1.2.2.2.1 u1.2.2.2.2.1 u1.2.2.2.2.2.1 u1.2.2.2.2.2.2.1 u1.2.2.2.2.2.2.2.1 u2.2.1 u2.2.2.1 u2.2.2.2.1 u2.2.2.2.2.1 u2.2.2.2.2.2.1 u2.2.2.2.2.2.2.1 u2.2.2.2.2.2.2.2.1 u3.2.1 u3.2.2.1 u3.2.2.2.2.1 u3.2.2.2.2.2.1 u3.2.2.2.2.2.2.2.1 v.2.2.2.2.1 v.2.2.2.2.2.1) (I59_0 k K ws rs N X) ws rs
noncomputable def L59 : Option R := bif id == 0 then L59_0 k K ws rs N X else none
theorem i59_0 (c0 c2 c3 : Int) (c4 : ByteArray) (c5 c6 c7 c8 c9 : Int) (c10 : ByteArray) (c11 c12 c13 c14 : Int) (m : Nat) : ∀ (c1 c15 c16 c17 c18 c19 c20 c21 : Int) (c22 : ByteArray) (c23 : List Int) (c24 : Int) (c25 : zL5) (c26 c27 c28 c29 : Int) (c30 : ByteArray) (c31 : List Int) (c32 : zL5) (c33 c34 c35 c36 : Int) (c37 : List Bool) (c38 : Int) (c39 : List Bool) (c40 c41 : Int) (c42 c43 : zL1),
    iter (atHead an59 0 bd59_0) m (fun st N' => exec T an59 (modesOf F) 0 k 110 (S59 k) (E59 K) bd59_0 st N' (outX an59 0 0 N X)) (sh sp59_0 [.ptr 1 0, .ptr 2 0, .ptr 3 0, zi c0, zi c1] [zr9 c2 c3 c4 c5 c6 c7, zr6 c8 c9 c10 c11 c12 c13 c14, zr1 c15 c16 c17 c18 c19 c20 c21 c22 c23 c24 c25 c26 c27 c28 c29 c30 c31 c32 c33 c34 c35 c36 c37 c38 c39 c40 c41, zr2 c42, zr2 c43]) = f59_0d k (kt59 K) (fun p13 p14 p15 p16 p17 p18 p19 p20 p21 p22 p23 p24 p25 p26 p27 p28 p29 p30 p31 p32 p33 p34 p35 p36 p37 p38 p39 p40 p41 => N (sh jn59_0 [.ptr 1 0, .ptr 2 0, .ptr 3 0] [zr9 c2 c3 c4 c5 c6 c7, zr6 c8 c9 c10 c11 c12 c13 c14, zr1 p13 p14 p15 p16 p17 p18 p19 p20 p21 p22 p23 p24 p25 p26 p27 p28 p29 p30 p31 p32 p33 p34 p35 p36 p37 p38 p39, zr2 p40, zr2 p41])) c0 c2 c3 c4 c5 c6 c7 c8 c9 c10 c11 c12 c13 c14 m c1 c15 c16 c17 c18 c19 c20 c21 c22 c23 c24 c25 c26 c27 c28 c29 c30 c31 c32 c33 c34 c35 c36 c37 c38 c39 c40 c41 c42 c43 := by
  induction m with
  | zero => intros; rfl
  | succ m ih =>
    intro c1 c15 c16 c17 c18 c19 c20 c21 c22 c23 c24 c25 c26 c27 c28 c29 c30 c31 c32 c33 c34 c35 c36 c37 c38 c39 c40 c41 c42 c43
    simp only [iter]
    rw [← execS_eq T an59 (modesOf F) 0 k 110 (S59 k) (L59 k K) bd59_0 (cuts_of _ _ _ _ _ _ _ _ bd59_0 (l := []) (by kernel_rfl) trivial)]
    have h := fx30 ih
    simp only [f59_0d]
    rw [← h]
    show _ = _
    kernel_rfl
theorem l59_0 : L59 k K 0 ws rs N X = I59_0 k K ws rs N X := by
  show L59_0 k K ws rs N X = _
  unfold L59_0
  rw [f59_0_def]
  exact onShape_eq (a := aa59_0) (b := ab59_0) (G := fun ws rs => I59_0 k K ws rs N X) (fun x y => Eq.trans (by kernel_rfl) (Eq.trans (i59_0 k K N X x.2.2.2.1 y.1.1 y.1.2.1 y.1.2.2.1 y.1.2.2.2.2.1 y.1.2.2.2.2.2.2.1 y.1.2.2.2.2.2.2.2.1 y.2.1.1 y.2.1.2.1 y.2.1.2.2.1 y.2.1.2.2.2.2.2.1 y.2.1.2.2.2.2.2.2.1 y.2.1.2.2.2.2.2.2.2.1 y.2.1.2.2.2.2.2.2.2.2.1 k x.2.2.2.2.1 y.2.2.1.1 y.2.2.1.2.1 y.2.2.1.2.2.1 y.2.2.1.2.2.2.1 y.2.2.1.2.2.2.2.1 y.2.2.1.2.2.2.2.2.1 y.2.2.1.2.2.2.2.2.2.1 y.2.2.1.2.2.2.2.2.2.2.1 y.2.2.1.2.2.2.2.2.2.2.2.1 y.2.2.1.2.2.2.2.2.2.2.2.2.1 y.2.2.1.2.2.2.2.2.2.2.2.2.2.1 y.2.2.1.2.2.2.2.2.2.2.2.2.2.2.1 y.2.2.1.2.2.2.2.2.2.2.2.2.2.2.2.1 y.2.2.1.2.2.2.2.2.2.2.2.2.2.2.2.2.1 y.2.2.1.2.2.2.2.2.2.2.2.2.2.2.2.2.2.1 y.2.2.1.2.2.2.2.2.2.2.2.2.2.2.2.2.2.2.1 y.2.2.1.2.2.2.2.2.2.2.2.2.2.2.2.2.2.2.2.1 y.2.2.1.2.2.2.2.2.2.2.2.2.2.2.2.2.2.2.2.2.1 y.2.2.1.2.2.2.2.2.2.2.2.2.2.2.2.2.2.2.2.2.2.1 y.2.2.1.2.2.2.2.2.2.2.2.2.2.2.2.2.2.2.2.2.2.2.1 y.2.2.1.2.2.2.2.2.2.2.2.2.2.2.2.2.2.2.2.2.2.2.2.1 y.2.2.1.2.2.2.2.2.2.2.2.2.2.2.2.2.2.2.2.2.2.2.2.2.1 y.2.2.1.2.2.2.2.2.2.2.2.2.2.2.2.2.2.2.2.2.2.2.2.2.2.1 y.2.2.1.2.2.2.2.2.2.2.2.2.2.2.2.2.2.2.2.2.2.2.2.2.2.2.1 y.2.2.1.2.2.2.2.2.2.2.2.2.2.2.2.2.2.2.2.2.2.2.2.2.2.2.2.2.1 y.2.2.1.2.2.2.2.2.2.2.2.2.2.2.2.2.2.2.2.2.2.2.2.2.2.2.2.2.2.1 y.2.2.1.2.2.2.2.2.2.2.2.2.2.2.2.2.2.2.2.2.2.2.2.2.2.2.2.2.2.2.2.1 y.2.2.2.1 y.2.2.2.2.1).symm (by kernel_rfl))) ws rs
theorem tu59 : tOk (R := R) 59 aa59 ab59 g59 := by
  intro k x y K
  unfold g59
  rw [f59_def]
  cases k with
  | zero => rfl
  | succ k => exact eS Try.f59 an59 0 110 (L59 k K) [(0, sp59_0, cd59_0)] (by kernel_rfl) (S59_eq k) (by kernel_rfl) ⟨l59_0 k K, trivial⟩ (by kernel_rfl)
noncomputable def s59 := onS (R := R) aa59 ab59 g59 (fun k => callC T F k 59)
theorem s59_eq : sOk (R := R) s59 59 := onS_eq (fun _ _ _ _ => rfl) tu59
noncomputable abbrev kt14 : Bool → Option R := (fun z0 => K [.val [] .bool z0] [])
abbrev aa14 : List Sh := [.agg [zv, zv, zv, zv, zv], zv, .val [] .str, .val [(0, 0)] zT2, .val [(0, 0)] zT3, .val [(0, 0)] zT3]
abbrev ab14 : List RSh := []
noncomputable def g14 (k : Nat) (v : Sh.D.DL aa14 × RSh.DL ab14) (K : KT R) : Option R := f14 k v.1.1.1 v.1.1.2.1 v.1.1.2.2.1 v.1.1.2.2.2.1 v.1.1.2.2.2.2.1 v.1.2.1 v.1.2.2.1 v.1.2.2.2.1 v.1.2.2.2.2.1 v.1.2.2.2.2.2.1 (kt14 K)
noncomputable abbrev E14 := ending T Try.f14 an14 0 K
noncomputable def S14 := pickS (R := R) [(24, s24), (59, s59)]
theorem S14_eq : ∀ k, S14 (R := R) k = callC T F k := pickS_eq ⟨s24_eq, s59_eq, trivial⟩
theorem e14 (k : Nat) (a0 a1 a2 a3 a4 a5 : Int) (a6 : ByteArray) (a7 : List Int) (a8 a9 : List Bool) (K : KT R) : callC T F k 14 [.agg [zi a0, zi a1, zi a2, zi a3, zi a4], zi a5, .val [] .str a6, .val [(0, 0)] zT2 a7, .val [(0, 0)] zT3 a8, .val [(0, 0)] zT3 a9] [] K = f14 k a0 a1 a2 a3 a4 a5 a6 a7 a8 a9 (kt14 K) := by
  rw [f14_def]
  cases k with
  | zero => rfl
  | succ k => exact eS Try.f14 an14 0 82 L0 [] (by kernel_rfl) (S14_eq k) (by kernel_rfl) trivial (by kernel_rfl)
end Go.Proofs.Ytlcklflbhhnnhaa.PM
