/- The small machine's run is the typed form (printed by a program of this work). -/
import Derived.Test.YtoepnomdklhhlaaGreatPW0
set_option linter.unusedVariables false
set_option linter.unusedSimpArgs false
set_option maxRecDepth 100000
namespace Go.Proofs.YtoepnomdklhhlaaGreat.PM
open Go
variable {R : Type} (k : Nat) (K : KT R) (id : Nat) (ws : List PV) (rs : List RowS) (N : St → Option R) (X : Nat → St → Option R)
noncomputable abbrev kt60v1 : zK1 R := (fun z0 z1 z2 z3 z4 z5 z6 z7 z8 z9 z10 z11 z12 z13 z14 z15 z16 z17 z18 z19 z20 z21 z22 z23 z24 z25 z26 z27 z28 z29 => K [.rw 6] [zr1 z0 z1 z2 z3 z4 z5 z6 z7 z8 z9 z10 z11 z12 z13 z14 z15 z16 z17 z18 z19 z20 z21 z22 z23 z24 z25 z26, ⟨0, .gone⟩, ⟨0, .gone⟩, zr2 z27, zr2 z28, zr3 z29])
abbrev aa60v1 : List Sh := [.ptr 1 25, zv]
abbrev ab60v1 : List RSh := [zs0, .arr [(0, 0)] zP2, .arr [(0, 0)] zP2]
noncomputable def g60v1 (k : Nat) (v : Sh.D.DL aa60v1 × RSh.DL ab60v1) (K : KT R) : Option R := let u0 := v.2.1.2.2.2.2.2.2.2; let u1 := u0.2.2.2.2.2.2.2; let u2 := u1.2.2.2.2.2.2.2; f60v1 k v.1.2.1 v.2.1.1 v.2.1.2.1 v.2.1.2.2.1 v.2.1.2.2.2.1 v.2.1.2.2.2.2.1 v.2.1.2.2.2.2.2.1 v.2.1.2.2.2.2.2.2.1 v.2.1.2.2.2.2.2.2.2.1 u0.2.1 u0.2.2.1 u0.2.2.2.1 u0.2.2.2.2.1 u0.2.2.2.2.2.1 u0.2.2.2.2.2.2.1 u0.2.2.2.2.2.2.2.1 u1.2.1 u1.2.2.1 u1.2.2.2.1 u1.2.2.2.2.1 u1.2.2.2.2.2.1 u1.2.2.2.2.2.2.1 u1.2.2.2.2.2.2.2.1 u2.2.1 u2.2.2.1 u2.2.2.2.2.1 u2.2.2.2.2.2.1 u2.2.2.2.2.2.2.2.1 v.2.2.1 v.2.2.2.1 (kt60v1 K)
noncomputable abbrev E60v1 := ending T Tryz.f60 an60 3 K
noncomputable def S60v1 := pickS (R := R) []
theorem S60v1_eq : ∀ k, S60v1 (R := R) k = callC T F k := pickS_eq trivial
noncomputable abbrev I60v1_0 : Option R := inner T an60 (modesOf F) 3 k 42 (S60v1 k) (E60v1 K) cd60_0 (sh sp60_0 ws rs) N X
abbrev aa60v1_0 : List Sh := [.ptr 1 25, zv, .rw 6]
abbrev ab60v1_0 : List RSh := [zs1, .gone, .gone, .arr [(0, 0)] zP2, .arr [(0, 0)] zP2, .arr [(0, 0)] zP0]
noncomputable def L60v1_0 : Option R :=
  onShape aa60v1_0 ab60v1_0 (fun v => let u0 := v.2.1.2.2.2.2.2.2.2; let u1 := u0.2.2.2.2.2.2.2; let u2 := u1.2.2.2.2.2.2.2; f60v1_0 k (fun p28 p29 => N (sh jn60_0 [.rw 6] [zr1 v.2.1.1 v.2.1.2.1 v.2.1.2.2.1 v.2.1.2.2.2.1 v.2.1.2.2.2.2.1 v.2.1.2.2.2.2.2.1 v.2.1.2.2.2.2.2.2.1 v.2.1.2.2.2.2.2.2.2.1 u0.2.1 u0.2.2.1 u0.2.2.2.1 u0.2.2.2.2.1 u0.2.2.2.2.2.1 u0.2.2.2.2.2.2.1 u0.2.2.2.2.2.2.2.1 u1.2.1 u1.2.2.1 u1.2.2.2.1 u1.2.2.2.2.1 u1.2.2.2.2.2.1 u1.2.2.2.2.2.2.1 u1.2.2.2.2.2.2.2.1 u2.2.1 u2.2.2.1 u2.2.2.2.2.1 u2.2.2.2.2.2.1 u2.2.2.2.2.2.2.2.1, ⟨0, .gone⟩, ⟨0, .gone⟩, zr2 v.2.2.2.2.1, zr2 p28, zr3 p29])) v.1.2.1 v.2.1.1 v.2.1.2.1 v.2.1.2.2.1 v.2.1.2.2.2.1 v.2.1.2.2.2.2.1 v.2.1.2.2.2.2.2.1 v.2.1.2.2.2.2.2.2.1 v.2.1.2.2.2.2.2.2.2.1 u0.2.1 u0.2.2.1 u0.2.2.2.1 u0.2.2.2.2.1 u0.2.2.2.2.2.1 u0.2.2.2.2.2.2.1 u0.2.2.2.2.2.2.2.1 u1.2.1 u1.2.2.1 u1.2.2.2.1 u1.2.2.2.2.1 u1.2.2.2.2.2.1 u1.2.2.2.2.2.2.1 u1.2.2.2.2.2.2.2.1 u2.2.1 u2.2.2.1 u2.2.2.2.2.1 u2.2.2.2.2.2.1 u2.2.2.2.2.2.2.2.1 v.2.2.2.2.1 k v.2.2.2.2.2.1 v.2.2.2.2.2.2.1) (I60v1_0 k K ws rs N X) ws rs
noncomputable def L60v1 : Option R := bif id == 0 then L60v1_0 k K ws rs N X else none
theorem i60v1_0 (c0 c1 c2 c3 c4 c5 c6 c7 : Int) (c8 : ByteArray) (c9 : List Int) (c10 : Int) (c11 : zL5) (c12 c13 c14 c15 : Int) (c16 : ByteArray) (c17 : List Int) (c18 : zL5) (c19 c20 c21 c22 : Int) (c23 : List Bool) (c24 : Int) (c25 : List Bool) (c26 c27 : Int) (c28 : zL1) (m : Nat) : ∀ (c29 : zL1) (c30 : zL3),
    iter (atHead an60 3 bd60_0) m (fun st N' => exec T an60 (modesOf F) 3 k 42 (S60v1 k) (E60v1 K) bd60_0 st N' (outX an60 3 0 N X)) (sh sp60_0 [.ptr 1 25, zi c0, .rw 6] [zr1 c1 c2 c3 c4 c5 c6 c7 c8 c9 c10 c11 c12 c13 c14 c15 c16 c17 c18 c19 c20 c21 c22 c23 c24 c25 c26 c27, ⟨0, .gone⟩, ⟨0, .gone⟩, zr2 c28, zr2 c29, zr3 c30]) = f60v1_0d k (fun p28 p29 => N (sh jn60_0 [.rw 6] [zr1 c1 c2 c3 c4 c5 c6 c7 c8 c9 c10 c11 c12 c13 c14 c15 c16 c17 c18 c19 c20 c21 c22 c23 c24 c25 c26 c27, ⟨0, .gone⟩, ⟨0, .gone⟩, zr2 c28, zr2 p28, zr3 p29])) c0 c1 c2 c3 c4 c5 c6 c7 c8 c9 c10 c11 c12 c13 c14 c15 c16 c17 c18 c19 c20 c21 c22 c23 c24 c25 c26 c27 c28 m c29 c30 := by
  induction m with
  | zero => intros; rfl
  | succ m ih =>
    intro c29 c30
    simp only [iter]
    rw [← execS_eq T an60 (modesOf F) 3 k 42 (S60v1 k) (L60v1 k K) bd60_0 (cuts_of _ _ _ _ _ _ _ _ bd60_0 (l := []) (by kernel_rfl) trivial)]
    have h := fx2 ih
    simp only [f60v1_0d]
    rw [← h]
    show _ = _
    kernel_rfl
theorem l60v1_0 : L60v1 k K 0 ws rs N X = I60v1_0 k K ws rs N X := by
  show L60v1_0 k K ws rs N X = _
  unfold L60v1_0
  rw [f60v1_0_def]
  exact onShape_eq (a := aa60v1_0) (b := ab60v1_0) (G := fun ws rs => I60v1_0 k K ws rs N X) (fun x y => Eq.trans (by kernel_rfl) (Eq.trans (i60v1_0 k K N X x.2.1 y.1.1 y.1.2.1 y.1.2.2.1 y.1.2.2.2.1 y.1.2.2.2.2.1 y.1.2.2.2.2.2.1 y.1.2.2.2.2.2.2.1 y.1.2.2.2.2.2.2.2.1 y.1.2.2.2.2.2.2.2.2.1 y.1.2.2.2.2.2.2.2.2.2.1 y.1.2.2.2.2.2.2.2.2.2.2.1 y.1.2.2.2.2.2.2.2.2.2.2.2.1 y.1.2.2.2.2.2.2.2.2.2.2.2.2.1 y.1.2.2.2.2.2.2.2.2.2.2.2.2.2.1 y.1.2.2.2.2.2.2.2.2.2.2.2.2.2.2.1 y.1.2.2.2.2.2.2.2.2.2.2.2.2.2.2.2.1 y.1.2.2.2.2.2.2.2.2.2.2.2.2.2.2.2.2.1 y.1.2.2.2.2.2.2.2.2.2.2.2.2.2.2.2.2.2.1 y.1.2.2.2.2.2.2.2.2.2.2.2.2.2.2.2.2.2.2.1 y.1.2.2.2.2.2.2.2.2.2.2.2.2.2.2.2.2.2.2.2.1 y.1.2.2.2.2.2.2.2.2.2.2.2.2.2.2.2.2.2.2.2.2.1 y.1.2.2.2.2.2.2.2.2.2.2.2.2.2.2.2.2.2.2.2.2.2.1 y.1.2.2.2.2.2.2.2.2.2.2.2.2.2.2.2.2.2.2.2.2.2.2.1 y.1.2.2.2.2.2.2.2.2.2.2.2.2.2.2.2.2.2.2.2.2.2.2.2.1 y.1.2.2.2.2.2.2.2.2.2.2.2.2.2.2.2.2.2.2.2.2.2.2.2.2.2.1 y.1.2.2.2.2.2.2.2.2.2.2.2.2.2.2.2.2.2.2.2.2.2.2.2.2.2.2.1 y.1.2.2.2.2.2.2.2.2.2.2.2.2.2.2.2.2.2.2.2.2.2.2.2.2.2.2.2.2.1 y.2.2.2.1 k y.2.2.2.2.1 y.2.2.2.2.2.1).symm (by kernel_rfl))) ws rs
theorem tu60v1 : tOk (R := R) 60 aa60v1 ab60v1 g60v1 := by
  intro k x y K
  unfold g60v1
  rw [f60v1_def]
  cases k with
  | zero => rfl
  | succ k => exact eS Tryz.f60 an60 3 42 (L60v1 k K) [(0, sp60_0, cd60_0)] (by kernel_rfl) (S60v1_eq k) (by kernel_rfl) ⟨l60v1_0 k K, trivial⟩ (by kernel_rfl)
noncomputable def s60v1 := onS (R := R) aa60v1 ab60v1 g60v1 s60
theorem s60v1_eq : sOk (R := R) s60v1 60 := onS_eq s60_eq tu60v1
noncomputable abbrev kt129 : zL5 → Bool → Option R := (fun z0 z1 => K [.val [(0, 0)] zT1 z0, .val [] .bool z1] [])
abbrev aa129 : List Sh := [.val [(0, 0)] zT1]
abbrev ab129 : List RSh := []
noncomputable def g129 (k : Nat) (v : Sh.D.DL aa129 × RSh.DL ab129) (K : KT R) : Option R := f129 k v.1.1 (kt129 K)
noncomputable abbrev E129 := ending T Tryz.f129 an129 0 K
noncomputable def S129 := pickS (R := R) [(130, s130)]
theorem S129_eq : ∀ k, S129 (R := R) k = callC T F k := pickS_eq ⟨s130_eq, trivial⟩
theorem tu129 : tOk (R := R) 129 aa129 ab129 g129 := by
  intro k x y K
  unfold g129
  rw [f129_def]
  cases k with
  | zero => rfl
  | succ k => exact eS Tryz.f129 an129 0 17 L0 [] (by kernel_rfl) (S129_eq k) (by kernel_rfl) trivial (by kernel_rfl)
noncomputable def s129 := onS (R := R) aa129 ab129 g129 (fun k => callC T F k 129)
theorem s129_eq : sOk (R := R) s129 129 := onS_eq (fun _ _ _ _ => rfl) tu129
noncomputable abbrev kt98 : zK4 R := (fun z0 z1 z2 z3 z4 z5 z6 z7 z8 => K [.agg [zi z0, zi z1, .val [] .str z2, .val [(0, 0)] zT2 z3, zi z4, .val [(0, 0)] zT1 z5, zi z6, zi z7], zi z8] [])
abbrev aa98 : List Sh := [.agg [zv, zv, .val [] .str, .val [(0, 0)] zT2, zv, .val [(0, 0)] zT1, zv, zv], .val [(0, 0)] zT1]
abbrev ab98 : List RSh := []
noncomputable def g98 (k : Nat) (v : Sh.D.DL aa98 × RSh.DL ab98) (K : KT R) : Option R := f98 k v.1.1.1 v.1.1.2.1 v.1.1.2.2.1 v.1.1.2.2.2.1 v.1.1.2.2.2.2.1 v.1.1.2.2.2.2.2.1 v.1.1.2.2.2.2.2.2.1 v.1.1.2.2.2.2.2.2.2.1 v.1.2.1 (kt98 K)
noncomputable abbrev E98 := ending T Tryz.f98 an98 0 K
noncomputable def S98 := pickS (R := R) [(127, s127), (128, s128), (129, s129)]
theorem S98_eq : ∀ k, S98 (R := R) k = callC T F k := pickS_eq ⟨s127_eq, s128_eq, s129_eq, trivial⟩
noncomputable abbrev I98_1000008 : Option R := inner T an98 (modesOf F) 0 k 67 (S98 k) (E98 K) cd98_1000008 (sh sp98_1000008 ws rs) N X
abbrev aa98_1000008 : List Sh := [.ptr 1 0, .ptr 2 0, .val [] .bool, .val [(0, 0)] zT1, .val [] .bool, .rw 3, .ptr 4 0, .val [(0, 0)] zT1, zv, zv, .val [] .bool]
abbrev ab98_1000008 : List RSh := [zs6, zs7, .arr [] zP1, .vars [zv, zv]]
noncomputable def L98_1000008 : Option R :=
  onShape aa98_1000008 ab98_1000008 (fun v => let u0 := v.1.2.2.2.2.2.2.2; f98_1000008 k (fun p20 => N (sh fi98_8 [.ptr 1 0, .ptr 2 0, .val [] .bool v.1.2.2.1, .val [(0, 0)] zT1 v.1.2.2.2.1, .val [] .bool v.1.2.2.2.2.1, .rw 3, .val [(0, 0)] zT1 v.1.2.2.2.2.2.2.2.1, zi u0.2.1, zi u0.2.2.1] [zr9 v.2.1.1 v.2.1.2.1 v.2.1.2.2.1 v.2.1.2.2.2.1 v.2.1.2.2.2.2.1 v.2.1.2.2.2.2.2.1 v.2.1.2.2.2.2.2.2.1 v.2.1.2.2.2.2.2.2.2.1, zr10 v.2.2.1.1 v.2.2.1.2.1 v.2.2.1.2.2.1 v.2.2.1.2.2.2.2.1 v.2.2.1.2.2.2.2.2.2.1 v.2.2.1.2.2.2.2.2.2.2.1, zr4 p20])) u0.2.2.2.1 v.2.2.2.1 v.2.2.2.2.1.1 v.2.2.2.2.1.2.1) (I98_1000008 k K ws rs N X) ws rs
noncomputable abbrev I98_0 : Option R := inner T an98 (modesOf F) 0 k 67 (S98 k) (E98 K) cd98_0 (sh sp98_0 ws rs) N X
abbrev aa98_0 : List Sh := [.ptr 1 0, .ptr 2 0, .val [] .bool, .val [(0, 0)] zT1, .val [] .bool, .rw 3, .val [(0, 0)] zT1, zv, zv]
abbrev ab98_0 : List RSh := [zs6, zs7, .arr [] zP1]
noncomputable def L98_0 : Option R :=
  onShape aa98_0 ab98_0 (fun v => let u0 := v.1.2.2.2.2.2.2.2; f98_0 k (fun p17 => N (sh jn98_0 [.ptr 1 0, .ptr 2 0, .val [] .bool v.1.2.2.1, .val [(0, 0)] zT1 v.1.2.2.2.1, .val [] .bool v.1.2.2.2.2.1, .rw 3] [zr9 v.2.1.1 v.2.1.2.1 v.2.1.2.2.1 v.2.1.2.2.2.1 v.2.1.2.2.2.2.1 v.2.1.2.2.2.2.2.1 v.2.1.2.2.2.2.2.2.1 v.2.1.2.2.2.2.2.2.2.1, zr10 v.2.2.1.1 v.2.2.1.2.1 v.2.2.1.2.2.1 v.2.2.1.2.2.2.2.1 v.2.2.1.2.2.2.2.2.2.1 v.2.2.1.2.2.2.2.2.2.2.1, zr4 p17])) v.1.2.2.1 v.1.2.2.2.1 v.1.2.2.2.2.1 v.1.2.2.2.2.2.2.1 v.1.2.2.2.2.2.2.2.1 v.2.1.1 v.2.1.2.1 v.2.1.2.2.1 v.2.1.2.2.2.1 v.2.1.2.2.2.2.1 v.2.1.2.2.2.2.2.1 v.2.1.2.2.2.2.2.2.1 v.2.1.2.2.2.2.2.2.2.1 v.2.2.1.1 v.2.2.1.2.1 v.2.2.1.2.2.1 v.2.2.1.2.2.2.2.1 v.2.2.1.2.2.2.2.2.2.1 v.2.2.1.2.2.2.2.2.2.2.1 k u0.2.1 v.2.2.2.1) (I98_0 k K ws rs N X) ws rs
noncomputable abbrev I98_1000016 : Option R := inner T an98 (modesOf F) 0 k 67 (S98 k) (E98 K) cd98_1000016 (sh sp98_1000016 ws rs) N X
abbrev aa98_1000016 : List Sh := [.ptr 1 0, .ptr 2 0, .val [] .bool]
abbrev ab98_1000016 : List RSh := [zs6, zs7]
noncomputable def L98_1000016 : Option R :=
  onShape aa98_1000016 ab98_1000016 (fun v => f98_1000016 k (fun p0 p6 => N (sh fi98_16 [.ptr 1 0, .ptr 2 0] [zr9 p0 v.2.1.2.1 v.2.1.2.2.1 v.2.1.2.2.2.1 v.2.1.2.2.2.2.1 v.2.1.2.2.2.2.2.1 p6 v.2.1.2.2.2.2.2.2.2.1, zr10 v.2.2.1.1 v.2.2.1.2.1 v.2.2.1.2.2.1 v.2.2.1.2.2.2.2.1 v.2.2.1.2.2.2.2.2.2.1 v.2.2.1.2.2.2.2.2.2.2.1])) v.1.2.2.1 v.2.1.1 v.2.1.2.2.2.2.2.2.1) (I98_1000016 k K ws rs N X) ws rs
noncomputable def L98 : Option R := bif id == 1000008 then L98_1000008 k K ws rs N X else bif id == 0 then L98_0 k K ws rs N X else bif id == 1000016 then L98_1000016 k K ws rs N X else none
theorem l98_1000008 : L98 k K 1000008 ws rs N X = I98_1000008 k K ws rs N X := by
  show L98_1000008 k K ws rs N X = _
  unfold L98_1000008
  rw [f98_1000008_def]
  exact lC (L98 k K) [] (by kernel_rfl) trivial fun x y => by kernel_rfl
theorem i98_0 (c0 : Bool) (c1 : zL5) (c2 : Bool) (c3 : zL5) (c4 c6 c7 : Int) (c8 : ByteArray) (c9 : List Int) (c10 : Int) (c11 : zL5) (c12 c13 c14 c15 : Int) (c16 : ByteArray) (c17 c18 c19 : Int) (m : Nat) : ∀ (c5 : Int) (c20 : zL6),
    iter (atHead an98 0 bd98_0) m (fun st N' => exec T an98 (modesOf F) 0 k 67 (S98 k) (E98 K) bd98_0 st N' (outX an98 0 0 N X)) (sh sp98_0 [.ptr 1 0, .ptr 2 0, .val [] .bool c0, .val [(0, 0)] zT1 c1, .val [] .bool c2, .rw 3, .val [(0, 0)] zT1 c3, zi c4, zi c5] [zr9 c6 c7 c8 c9 c10 c11 c12 c13, zr10 c14 c15 c16 c17 c18 c19, zr4 c20]) = f98_0d k (fun p17 => N (sh jn98_0 [.ptr 1 0, .ptr 2 0, .val [] .bool c0, .val [(0, 0)] zT1 c1, .val [] .bool c2, .rw 3] [zr9 c6 c7 c8 c9 c10 c11 c12 c13, zr10 c14 c15 c16 c17 c18 c19, zr4 p17])) c0 c1 c2 c3 c4 c6 c7 c8 c9 c10 c11 c12 c13 c14 c15 c16 c17 c18 c19 m c5 c20 := by
  induction m with
  | zero => intros; rfl
  | succ m ih =>
    intro c5 c20
    simp only [iter]
    rw [← execS_eq T an98 (modesOf F) 0 k 67 (S98 k) (L98 k K) bd98_0 (cuts_of _ _ _ _ _ _ _ _ bd98_0 (l := [(1000008, sp98_1000008, cd98_1000008)]) (by kernel_rfl) ⟨l98_1000008 k K, trivial⟩)]
    have h := fx2 ih
    simp only [f98_0d]
    rw [← h]
    show _ = _
    kernel_rfl
theorem l98_0 : L98 k K 0 ws rs N X = I98_0 k K ws rs N X := by
  show L98_0 k K ws rs N X = _
  unfold L98_0
  rw [f98_0_def]
  exact onShape_eq (a := aa98_0) (b := ab98_0) (G := fun ws rs => I98_0 k K ws rs N X) (fun x y => Eq.trans (by kernel_rfl) (Eq.trans (i98_0 k K N X x.2.2.1 x.2.2.2.1 x.2.2.2.2.1 x.2.2.2.2.2.2.1 x.2.2.2.2.2.2.2.1 y.1.1 y.1.2.1 y.1.2.2.1 y.1.2.2.2.1 y.1.2.2.2.2.1 y.1.2.2.2.2.2.1 y.1.2.2.2.2.2.2.1 y.1.2.2.2.2.2.2.2.1 y.2.1.1 y.2.1.2.1 y.2.1.2.2.1 y.2.1.2.2.2.2.1 y.2.1.2.2.2.2.2.2.1 y.2.1.2.2.2.2.2.2.2.1 k x.2.2.2.2.2.2.2.2.1 y.2.2.1).symm (by kernel_rfl))) ws rs
theorem l98_1000016 : L98 k K 1000016 ws rs N X = I98_1000016 k K ws rs N X := by
  show L98_1000016 k K ws rs N X = _
  unfold L98_1000016
  rw [f98_1000016_def]
  exact lC (L98 k K) [] (by kernel_rfl) trivial fun x y => by kernel_rfl
theorem tu98 : tOk (R := R) 98 aa98 ab98 g98 := by
  intro k x y K
  unfold g98
  rw [f98_def]
  cases k with
  | zero => rfl
  | succ k => exact eS Tryz.f98 an98 0 67 (L98 k K) [(0, sp98_0, cd98_0), (1000016, sp98_1000016, cd98_1000016)] (by kernel_rfl) (S98_eq k) (by kernel_rfl) ⟨l98_0 k K, l98_1000016 k K, trivial⟩ (by kernel_rfl)
noncomputable def s98 := onS (R := R) aa98 ab98 g98 (fun k => callC T F k 98)
theorem s98_eq : sOk (R := R) s98 98 := onS_eq (fun _ _ _ _ => rfl) tu98
noncomputable abbrev kt63 : zK4 R := (fun z0 z1 z2 z3 z4 z5 z6 z7 z8 => K [.agg [zi z0, zi z1, .val [] .str z2, .val [(0, 0)] zT2 z3, zi z4, .val [(0, 0)] zT1 z5, zi z6, zi z7], zi z8] [])
abbrev aa63 : List Sh := [.agg [zv, zv, .val [] .str, .val [(0, 0)] zT2, zv, .val [(0, 0)] zT1, zv, zv], .agg [zv, zv, .val [] .str, zv, zv, zv, .val [(0, 0)] zT2, .val [(0, 0)] zT1, .val [] .bool]]
abbrev ab63 : List RSh := []
noncomputable def g63 (k : Nat) (v : Sh.D.DL aa63 × RSh.DL ab63) (K : KT R) : Option R := let u0 := v.1.2.1.2.2.2.2.2.2.2; f63 k v.1.1.1 v.1.1.2.1 v.1.1.2.2.1 v.1.1.2.2.2.1 v.1.1.2.2.2.2.1 v.1.1.2.2.2.2.2.1 v.1.1.2.2.2.2.2.2.1 v.1.1.2.2.2.2.2.2.2.1 v.1.2.1.1 v.1.2.1.2.1 v.1.2.1.2.2.1 v.1.2.1.2.2.2.1 v.1.2.1.2.2.2.2.1 v.1.2.1.2.2.2.2.2.1 v.1.2.1.2.2.2.2.2.2.1 v.1.2.1.2.2.2.2.2.2.2.1 u0.2.1 (kt63 K)
noncomputable abbrev E63 := ending T Tryz.f63 an63 0 K
noncomputable def S63 := pickS (R := R) [(98, s98)]
theorem S63_eq : ∀ k, S63 (R := R) k = callC T F k := pickS_eq ⟨s98_eq, trivial⟩
noncomputable abbrev I63_1000008 : Option R := inner T an63 (modesOf F) 0 k 56 (S63 k) (E63 K) cd63_1000008 (sh sp63_1000008 ws rs) N X
abbrev aa63_1000008 : List Sh := [.ptr 1 0, .ptr 2 0, .val [] .bool]
abbrev ab63_1000008 : List RSh := [zs6, zs7]
noncomputable def L63_1000008 : Option R :=
  onShape aa63_1000008 ab63_1000008 (fun v => f63_1000008 k (fun p0 p5 p6 => N (sh fi63_8 [.ptr 1 0, .ptr 2 0] [zr9 p0 v.2.1.2.1 v.2.1.2.2.1 v.2.1.2.2.2.1 v.2.1.2.2.2.2.1 p5 p6 v.2.1.2.2.2.2.2.2.2.1, zr10 v.2.2.1.1 v.2.2.1.2.1 v.2.2.1.2.2.1 v.2.2.1.2.2.2.2.1 v.2.2.1.2.2.2.2.2.2.1 v.2.2.1.2.2.2.2.2.2.2.1])) v.1.2.2.1 v.2.1.1 v.2.1.2.2.2.2.2.1 v.2.1.2.2.2.2.2.2.1) (I63_1000008 k K ws rs N X) ws rs
noncomputable abbrev I63_1000006 : Option R := inner T an63 (modesOf F) 0 k 56 (S63 k) (E63 K) cd63_1000006 (sh sp63_1000006 ws rs) N X
abbrev aa63_1000006 : List Sh := [.ptr 1 0, .ptr 2 0, .ptr 3 0, .val [] .bool]
abbrev ab63_1000006 : List RSh := [zs6, zs3, zs7]
noncomputable def L63_1000006 : Option R :=
  onShape aa63_1000006 ab63_1000006 (fun v => let u0 := v.2.2.1.2.2.2.2.2.2.2; f63_1000006 k (fun p0 p5 p6 => N (sh fi63_6 [.ptr 1 0, .ptr 2 0] [zr9 p0 v.2.1.2.1 v.2.1.2.2.1 v.2.1.2.2.2.1 v.2.1.2.2.2.2.1 p5 p6 v.2.1.2.2.2.2.2.2.2.1, zr10 v.2.2.2.1.1 v.2.2.2.1.2.1 v.2.2.2.1.2.2.1 v.2.2.2.1.2.2.2.2.1 v.2.2.2.1.2.2.2.2.2.2.1 v.2.2.2.1.2.2.2.2.2.2.2.1])) v.1.2.2.2.1 v.2.1.1 v.2.1.2.2.2.2.2.1 v.2.1.2.2.2.2.2.2.1 v.2.2.1.1) (I63_1000006 k K ws rs N X) ws rs
noncomputable def L63 : Option R := bif id == 1000008 then L63_1000008 k K ws rs N X else bif id == 1000006 then L63_1000006 k K ws rs N X else none
theorem l63_1000008 : L63 k K 1000008 ws rs N X = I63_1000008 k K ws rs N X := by
  show L63_1000008 k K ws rs N X = _
  unfold L63_1000008
  rw [f63_1000008_def]
  exact lC (L63 k K) [] (by kernel_rfl) trivial fun x y => by kernel_rfl
theorem l63_1000006 : L63 k K 1000006 ws rs N X = I63_1000006 k K ws rs N X := by
  show L63_1000006 k K ws rs N X = _
  unfold L63_1000006
  rw [f63_1000006_def]
  exact lC (L63 k K) [(1000008, sp63_1000008, cd63_1000008)] (by kernel_rfl) ⟨l63_1000008 k K, trivial⟩ fun x y => by kernel_rfl
theorem tu63 : tOk (R := R) 63 aa63 ab63 g63 := by
  intro k x y K
  unfold g63
  rw [f63_def]
  cases k with
  | zero => rfl
  | succ k => exact eS Tryz.f63 an63 0 56 (L63 k K) [(1000006, sp63_1000006, cd63_1000006)] (by kernel_rfl) (S63_eq k) (by kernel_rfl) ⟨l63_1000006 k K, trivial⟩ (by kernel_rfl)
noncomputable def s63 := onS (R := R) aa63 ab63 g63 (fun k => callC T F k 63)
theorem s63_eq : sOk (R := R) s63 63 := onS_eq (fun _ _ _ _ => rfl) tu63
noncomputable abbrev kt99 : Int → Int → ByteArray → Int → Int → Int → Bool → Option R := (fun z0 z1 z2 z3 z4 z5 z6 => K [.agg [zi z0, zi z1, .val [] .str z2, zi z3, zi z4, zi z5, .nils, .nils, .val [] .bool z6]] [])
abbrev aa99 : List Sh := [.agg [zv, zv, .val [] .str, .val [(0, 0)] zT2, zv, .val [(0, 0)] zT1, zv, zv]]
abbrev ab99 : List RSh := []
noncomputable def g99 (k : Nat) (v : Sh.D.DL aa99 × RSh.DL ab99) (K : KT R) : Option R := f99 k v.1.1.1 v.1.1.2.1 v.1.1.2.2.1 v.1.1.2.2.2.1 v.1.1.2.2.2.2.1 v.1.1.2.2.2.2.2.1 v.1.1.2.2.2.2.2.2.1 v.1.1.2.2.2.2.2.2.2.1 (kt99 K)
noncomputable abbrev E99 := ending T Tryz.f99 an99 0 K
noncomputable def S99 := pickS (R := R) [(96, s96)]
theorem S99_eq : ∀ k, S99 (R := R) k = callC T F k := pickS_eq ⟨s96_eq, trivial⟩
theorem tu99 : tOk (R := R) 99 aa99 ab99 g99 := by
  intro k x y K
  unfold g99
  rw [f99_def]
  cases k with
  | zero => rfl
  | succ k => exact eS Tryz.f99 an99 0 12 L0 [] (by kernel_rfl) (S99_eq k) (by kernel_rfl) trivial (by kernel_rfl)
noncomputable def s99 := onS (R := R) aa99 ab99 g99 (fun k => callC T F k 99)
theorem s99_eq : sOk (R := R) s99 99 := onS_eq (fun _ _ _ _ => rfl) tu99
noncomputable abbrev kt131 : zL6 → Option R := (fun z0 => K [.rw 1] [zr4 z0])
abbrev aa131 : List Sh := [.val [(0, 0)] zT1]
abbrev ab131 : List RSh := []
noncomputable def g131 (k : Nat) (v : Sh.D.DL aa131 × RSh.DL ab131) (K : KT R) : Option R := f131 k v.1.1 (kt131 K)
theorem e131 (k : Nat) (a0 : zL5) (K : KT R) : callC T F k 131 [.val [(0, 0)] zT1 a0] [] K = f131 k a0 (kt131 K) := by
  rw [f131_def]
  cases k with
  | zero => rfl
  | succ k => exact clone_call (m := [.lend zP1]) (ty := zP1) (bytes := 16) (by kernel_rfl) a0 K
theorem tu131 : tOk (R := R) 131 aa131 ab131 g131 := fun k x y K => e131 k x.1 K
noncomputable def s131 := onS (R := R) aa131 ab131 g131 (fun k => callC T F k 131)
theorem s131_eq : sOk (R := R) s131 131 := onS_eq (fun _ _ _ _ => rfl) tu131
noncomputable abbrev kt132 : zK5 R := (fun z0 z1 z2 z3 z4 z5 z6 z7 => K [.agg [zi z0, zi z1, .val [] .str z2, zi z3, zi z4, zi z5, .rw 1, .nils, .val [] .bool z6]] [zr0 z7])
abbrev aa132 : List Sh := [.agg [zv, zv, .val [] .str, .val [(0, 0)] zT2, zv, .val [(0, 0)] zT1, zv, zv], zv, zv]
abbrev ab132 : List RSh := []
noncomputable def g132 (k : Nat) (v : Sh.D.DL aa132 × RSh.DL ab132) (K : KT R) : Option R := f132 k v.1.1.1 v.1.1.2.1 v.1.1.2.2.1 v.1.1.2.2.2.1 v.1.1.2.2.2.2.1 v.1.1.2.2.2.2.2.1 v.1.1.2.2.2.2.2.2.1 v.1.1.2.2.2.2.2.2.2.1 v.1.2.1 v.1.2.2.1 (kt132 K)
noncomputable abbrev E132 := ending T Tryz.f132 an132 0 K
noncomputable def S132 := pickS (R := R) [(43, s43)]
theorem S132_eq : ∀ k, S132 (R := R) k = callC T F k := pickS_eq ⟨s43_eq, trivial⟩
theorem tu132 : tOk (R := R) 132 aa132 ab132 g132 := by
  intro k x y K
  unfold g132
  rw [f132_def]
  cases k with
  | zero => rfl
  | succ k => exact eS Tryz.f132 an132 0 19 L0 [] (by kernel_rfl) (S132_eq k) (by kernel_rfl) trivial (by kernel_rfl)
noncomputable def s132 := onS (R := R) aa132 ab132 g132 (fun k => callC T F k 132)
theorem s132_eq : sOk (R := R) s132 132 := onS_eq (fun _ _ _ _ => rfl) tu132
noncomputable abbrev kt100 : zK6 R := (fun z0 z1 z2 z3 z4 z5 z6 z7 z8 z9 z10 z11 z12 z13 z14 z15 => K [.agg [zi z0, zi z1, .val [] .str z2, .val [(0, 0)] zT2 z3, zi z4, .val [(0, 0)] zT1 z5, zi z6, zi z7], .agg [zi z8, zi z9, .val [] .str z10, zi z11, zi z12, zi z13, .rw 1, .nils, .val [] .bool z14]] [zr0 z15])
abbrev aa100 : List Sh := [.agg [zv, zv, zv, zv, zv], .agg [zv, zv, .val [] .str, .val [(0, 0)] zT2, zv, .val [(0, 0)] zT1, zv, zv]]
abbrev ab100 : List RSh := []
noncomputable def g100 (k : Nat) (v : Sh.D.DL aa100 × RSh.DL ab100) (K : KT R) : Option R := f100 k v.1.1.1 v.1.1.2.1 v.1.1.2.2.1 v.1.1.2.2.2.1 v.1.1.2.2.2.2.1 v.1.2.1.1 v.1.2.1.2.1 v.1.2.1.2.2.1 v.1.2.1.2.2.2.1 v.1.2.1.2.2.2.2.1 v.1.2.1.2.2.2.2.2.1 v.1.2.1.2.2.2.2.2.2.1 v.1.2.1.2.2.2.2.2.2.2.1 (kt100 K)
noncomputable abbrev E100 := ending T Tryz.f100 an100 0 K
noncomputable def S100 := pickS (R := R) [(96, s96), (99, s99), (130, s130), (131, s131), (132, s132)]
theorem S100_eq : ∀ k, S100 (R := R) k = callC T F k := pickS_eq ⟨s96_eq, s99_eq, s130_eq, s131_eq, s132_eq, trivial⟩
noncomputable abbrev I100_1000018 : Option R := inner T an100 (modesOf F) 0 k 138 (S100 k) (E100 K) cd100_1000018 (sh sp100_1000018 ws rs) N X
abbrev aa100_1000018 : List Sh := [.ptr 1 0, .ptr 3 0, .ptr 4 0, .ptr 5 0, .val [] .bool]
abbrev ab100_1000018 : List RSh := [.vars [zv, zv, .val [] .str, .val [(0, 0)] zT2, zv, .rw 2, zv, zv], .arr [] zP1, zs7, .vars [zv, zv, .val [] .str, zv, zv, zv, .nils, .nils, .val [] .bool], .vars [zv, zv, .val [] .str, zv, zv, zv, .rw 6, .nils, .val [] .bool], .arr [] (.int .u8)]
noncomputable def L100_1000018 : Option R :=
  onShape aa100_1000018 ab100_1000018 (fun v => let u0 := v.2.2.2.2.1.2.2.2.2.2.2.2; let u1 := v.2.2.2.2.2.1.2.2.2.2.2.2.2; f100_1000018 k (fun p7 => N (sh fi100_18 [.ptr 1 0, .ptr 3 0, .ptr 4 0, .ptr 5 0] [⟨0, .vars [zi v.2.1.1, zi v.2.1.2.1, .val [] .str v.2.1.2.2.1, .val [(0, 0)] zT2 v.2.1.2.2.2.1, zi v.2.1.2.2.2.2.1, .rw 2, zi v.2.1.2.2.2.2.2.2.1, zi v.2.1.2.2.2.2.2.2.2.1]⟩, zr4 p7, zr10 v.2.2.2.1.1 v.2.2.2.1.2.1 v.2.2.2.1.2.2.1 v.2.2.2.1.2.2.2.2.1 v.2.2.2.1.2.2.2.2.2.2.1 v.2.2.2.1.2.2.2.2.2.2.2.1, ⟨0, .vars [zi v.2.2.2.2.1.1, zi v.2.2.2.2.1.2.1, .val [] .str v.2.2.2.2.1.2.2.1, zi v.2.2.2.2.1.2.2.2.1, zi v.2.2.2.2.1.2.2.2.2.1, zi v.2.2.2.2.1.2.2.2.2.2.1, .nils, .nils, .val [] .bool u0.2.1]⟩, ⟨0, .vars [zi v.2.2.2.2.2.1.1, zi v.2.2.2.2.2.1.2.1, .val [] .str v.2.2.2.2.2.1.2.2.1, zi v.2.2.2.2.2.1.2.2.2.1, zi v.2.2.2.2.2.1.2.2.2.2.1, zi v.2.2.2.2.2.1.2.2.2.2.2.1, .rw 6, .nils, .val [] .bool u1.2.1]⟩, zr0 v.2.2.2.2.2.2.1])) v.1.2.2.2.2.1 v.2.2.1) (I100_1000018 k K ws rs N X) ws rs
noncomputable def L100 : Option R := bif id == 1000018 then L100_1000018 k K ws rs N X else none
theorem l100_1000018 : L100 k K 1000018 ws rs N X = I100_1000018 k K ws rs N X := by
  show L100_1000018 k K ws rs N X = _
  unfold L100_1000018
  rw [f100_1000018_def]
  exact lC (L100 k K) [] (by kernel_rfl) trivial fun x y => by kernel_rfl
theorem tu100 : tOk (R := R) 100 aa100 ab100 g100 := by
  intro k x y K
  unfold g100
  rw [f100_def]
  cases k with
  | zero => rfl
  | succ k => exact eS Tryz.f100 an100 0 138 (L100 k K) [(1000018, sp100_1000018, cd100_1000018)] (by kernel_rfl) (S100_eq k) (by kernel_rfl) ⟨l100_1000018 k K, trivial⟩ (by kernel_rfl)
noncomputable def s100 := onS (R := R) aa100 ab100 g100 (fun k => callC T F k 100)
theorem s100_eq : sOk (R := R) s100 100 := onS_eq (fun _ _ _ _ => rfl) tu100
noncomputable abbrev kt64 : zK7 R := (fun z0 z1 z2 z3 z4 z5 z6 z7 z8 => K [.agg [zi z0, zi z1, .val [] .str z2, .val [(0, 0)] zT2 z3, zi z4, .val [(0, 0)] zT1 z5, zi z6, zi z7], .rw 1] [⟨0, .arr [] zP0 z8⟩])
abbrev aa64 : List Sh := [.agg [zv, zv, zv, zv, zv], .agg [zv, zv, .val [] .str, .val [(0, 0)] zT2, zv, .val [(0, 0)] zT1, zv, zv]]
abbrev ab64 : List RSh := []
noncomputable def g64 (k : Nat) (v : Sh.D.DL aa64 × RSh.DL ab64) (K : KT R) : Option R := f64 k v.1.1.1 v.1.1.2.1 v.1.1.2.2.1 v.1.1.2.2.2.1 v.1.1.2.2.2.2.1 v.1.2.1.1 v.1.2.1.2.1 v.1.2.1.2.2.1 v.1.2.1.2.2.2.1 v.1.2.1.2.2.2.2.1 v.1.2.1.2.2.2.2.2.1 v.1.2.1.2.2.2.2.2.2.1 v.1.2.1.2.2.2.2.2.2.2.1 (kt64 K)
noncomputable abbrev E64 := ending T Tryz.f64 an64 0 K
noncomputable def S64 := pickS (R := R) [(99, s99), (100, s100)]
theorem S64_eq : ∀ k, S64 (R := R) k = callC T F k := pickS_eq ⟨s99_eq, s100_eq, trivial⟩
noncomputable abbrev I64_0 : Option R := inner T an64 (modesOf F) 0 k 63 (S64 k) (E64 K) cd64_0 (sh sp64_0 ws rs) N X
abbrev aa64_0 : List Sh := [.ptr 1 0, .ptr 2 0, .ptr 3 0, .rw 4]
abbrev ab64_0 : List RSh := [zs2, zs6, zs7, .arr [] zP0]
noncomputable def L64_0 : Option R :=
  onShape aa64_0 ab64_0 (fun v => f64_0 k (fun p0 p1 p2 p3 p4 p5 p6 p7 p14 => N (sh jn64_0 [.ptr 1 0, .ptr 2 0, .rw 3] [zr9 p0 p1 p2 p3 p4 p5 p6 p7, zr10 v.2.2.2.1.1 v.2.2.2.1.2.1 v.2.2.2.1.2.2.1 v.2.2.2.1.2.2.2.2.1 v.2.2.2.1.2.2.2.2.2.2.1 v.2.2.2.1.2.2.2.2.2.2.2.1, ⟨0, .arr [] zP0 p14⟩])) v.2.1.1 v.2.1.2.1 v.2.1.2.2.1 v.2.1.2.2.2.1 v.2.1.2.2.2.2.1 v.2.2.2.1.1 v.2.2.2.1.2.1 v.2.2.2.1.2.2.1 v.2.2.2.1.2.2.2.2.1 v.2.2.2.1.2.2.2.2.2.2.1 v.2.2.2.1.2.2.2.2.2.2.2.1 k v.2.2.1.1 v.2.2.1.2.1 v.2.2.1.2.2.1 v.2.2.1.2.2.2.1 v.2.2.1.2.2.2.2.1 v.2.2.1.2.2.2.2.2.1 v.2.2.1.2.2.2.2.2.2.1 v.2.2.1.2.2.2.2.2.2.2.1 v.2.2.2.2.1) (I64_0 k K ws rs N X) ws rs
noncomputable def L64 : Option R := bif id == 0 then L64_0 k K ws rs N X else none
theorem i64_0 (c0 c1 c2 c3 c4 c13 c14 : Int) (c15 : ByteArray) (c16 c17 c18 : Int) (m : Nat) : ∀ (c5 c6 : Int) (c7 : ByteArray) (c8 : List Int) (c9 : Int) (c10 : zL5) (c11 c12 : Int) (c19 : zL3),
    iter (atHead an64 0 bd64_0) m (fun st N' => exec T an64 (modesOf F) 0 k 63 (S64 k) (E64 K) bd64_0 st N' (outX an64 0 0 N X)) (sh sp64_0 [.ptr 1 0, .ptr 2 0, .ptr 3 0, .rw 4] [zr5 c0 c1 c2 c3 c4, zr9 c5 c6 c7 c8 c9 c10 c11 c12, zr10 c13 c14 c15 c16 c17 c18, ⟨0, .arr [] zP0 c19⟩]) = f64_0d k (fun p0 p1 p2 p3 p4 p5 p6 p7 p14 => N (sh jn64_0 [.ptr 1 0, .ptr 2 0, .rw 3] [zr9 p0 p1 p2 p3 p4 p5 p6 p7, zr10 c13 c14 c15 c16 c17 c18, ⟨0, .arr [] zP0 p14⟩])) c0 c1 c2 c3 c4 c13 c14 c15 c16 c17 c18 m c5 c6 c7 c8 c9 c10 c11 c12 c19 := by
  induction m with
  | zero => intros; rfl
  | succ m ih =>
    intro c5 c6 c7 c8 c9 c10 c11 c12 c19
    simp only [iter]
    rw [← execS_eq T an64 (modesOf F) 0 k 63 (S64 k) (L64 k K) bd64_0 (cuts_of _ _ _ _ _ _ _ _ bd64_0 (l := []) (by kernel_rfl) trivial)]
    have h := fx9 ih
    simp only [f64_0d]
    rw [← h]
    show _ = _
    kernel_rfl
theorem l64_0 : L64 k K 0 ws rs N X = I64_0 k K ws rs N X := by
  show L64_0 k K ws rs N X = _
  unfold L64_0
  rw [f64_0_def]
  exact onShape_eq (a := aa64_0) (b := ab64_0) (G := fun ws rs => I64_0 k K ws rs N X) (fun x y => Eq.trans (by kernel_rfl) (Eq.trans (i64_0 k K N X y.1.1 y.1.2.1 y.1.2.2.1 y.1.2.2.2.1 y.1.2.2.2.2.1 y.2.2.1.1 y.2.2.1.2.1 y.2.2.1.2.2.1 y.2.2.1.2.2.2.2.1 y.2.2.1.2.2.2.2.2.2.1 y.2.2.1.2.2.2.2.2.2.2.1 k y.2.1.1 y.2.1.2.1 y.2.1.2.2.1 y.2.1.2.2.2.1 y.2.1.2.2.2.2.1 y.2.1.2.2.2.2.2.1 y.2.1.2.2.2.2.2.2.1 y.2.1.2.2.2.2.2.2.2.1 y.2.2.2.1).symm (by kernel_rfl))) ws rs
theorem tu64 : tOk (R := R) 64 aa64 ab64 g64 := by
  intro k x y K
  unfold g64
  rw [f64_def]
  cases k with
  | zero => rfl
  | succ k => exact eS Tryz.f64 an64 0 63 (L64 k K) [(0, sp64_0, cd64_0)] (by kernel_rfl) (S64_eq k) (by kernel_rfl) ⟨l64_0 k K, trivial⟩ (by kernel_rfl)
noncomputable def s64 := onS (R := R) aa64 ab64 g64 (fun k => callC T F k 64)
theorem s64_eq : sOk (R := R) s64 64 := onS_eq (fun _ _ _ _ => rfl) tu64
noncomputable abbrev kt62v1 : zK3 R := (fun z0 z1 z2 z3 z4 z5 z6 z7 z8 z9 z10 z11 z12 z13 z14 z15 z16 z17 z18 z19 z20 z21 z22 z23 z24 z25 z26 z27 z28 => K [] [zr1 z0 z1 z2 z3 z4 z5 z6 z7 z8 z9 z10 z11 z12 z13 z14 z15 z16 z17 z18 z19 z20 z21 z22 z23 z24 z25 z26, ⟨0, .gone⟩, ⟨0, .gone⟩, zr2 z27, zr2 z28])
abbrev aa62v1 : List Sh := [.ptr 1 22, zv, .val [(0, 0)] (.slice zP0)]
abbrev ab62v1 : List RSh := [zs0, .arr [(0, 0)] zP2, .arr [(0, 0)] zP2]
noncomputable def g62v1 (k : Nat) (v : Sh.D.DL aa62v1 × RSh.DL ab62v1) (K : KT R) : Option R := let u0 := v.2.1.2.2.2.2.2.2.2; let u1 := u0.2.2.2.2.2.2.2; let u2 := u1.2.2.2.2.2.2.2; f62v1 k v.1.2.1 v.1.2.2.1 v.2.1.1 v.2.1.2.1 v.2.1.2.2.1 v.2.1.2.2.2.1 v.2.1.2.2.2.2.1 v.2.1.2.2.2.2.2.1 v.2.1.2.2.2.2.2.2.1 v.2.1.2.2.2.2.2.2.2.1 u0.2.1 u0.2.2.1 u0.2.2.2.1 u0.2.2.2.2.1 u0.2.2.2.2.2.1 u0.2.2.2.2.2.2.1 u0.2.2.2.2.2.2.2.1 u1.2.1 u1.2.2.1 u1.2.2.2.1 u1.2.2.2.2.1 u1.2.2.2.2.2.1 u1.2.2.2.2.2.2.1 u1.2.2.2.2.2.2.2.1 u2.2.1 u2.2.2.1 u2.2.2.2.2.1 u2.2.2.2.2.2.1 u2.2.2.2.2.2.2.2.1 v.2.2.1 v.2.2.2.1 (kt62v1 K)
noncomputable abbrev E62v1 := ending T Tryz.f62 an62 3 K
noncomputable def S62v1 := pickS (R := R) []
theorem S62v1_eq : ∀ k, S62v1 (R := R) k = callC T F k := pickS_eq trivial
noncomputable abbrev I62v1_1000004 : Option R := inner T an62 (modesOf F) 3 k 57 (S62v1 k) (E62v1 K) cd62_1000004 (sh sp62_1000004 ws rs) N X
abbrev aa62v1_1000004 : List Sh := [.ptr 1 22, zv, .ptr 6 0, .val [(0, 0)] (.slice zP0), zv, zv, .val [] .bool]
abbrev ab62v1_1000004 : List RSh := [zs1, .gone, .gone, .arr [(0, 0)] zP2, .arr [(0, 0)] zP2, zs3]
noncomputable def L62v1_1000004 : Option R :=
  onShape aa62v1_1000004 ab62v1_1000004 (fun v => let u0 := v.2.1.2.2.2.2.2.2.2; let u1 := u0.2.2.2.2.2.2.2; let u2 := u1.2.2.2.2.2.2.2; let u3 := v.2.2.2.2.2.2.1.2.2.2.2.2.2.2; f62v1_1000004 k (fun p31 => N (sh fi62_4 [.ptr 1 22, zi v.1.2.1, .val [(0, 0)] (.slice zP0) v.1.2.2.2.1, zi v.1.2.2.2.2.1, zi v.1.2.2.2.2.2.1] [zr1 v.2.1.1 v.2.1.2.1 v.2.1.2.2.1 v.2.1.2.2.2.1 v.2.1.2.2.2.2.1 v.2.1.2.2.2.2.2.1 v.2.1.2.2.2.2.2.2.1 v.2.1.2.2.2.2.2.2.2.1 u0.2.1 u0.2.2.1 u0.2.2.2.1 u0.2.2.2.2.1 u0.2.2.2.2.2.1 u0.2.2.2.2.2.2.1 u0.2.2.2.2.2.2.2.1 u1.2.1 u1.2.2.1 u1.2.2.2.1 u1.2.2.2.2.1 u1.2.2.2.2.2.1 u1.2.2.2.2.2.2.1 u1.2.2.2.2.2.2.2.1 u2.2.1 u2.2.2.1 u2.2.2.2.2.1 u2.2.2.2.2.2.1 u2.2.2.2.2.2.2.2.1, ⟨0, .gone⟩, ⟨0, .gone⟩, zr2 p31, zr2 v.2.2.2.2.2.1])) v.1.2.1 v.1.2.2.2.2.2.2.1 v.2.2.2.2.1 v.2.2.2.2.2.2.1.1 v.2.2.2.2.2.2.1.2.1 v.2.2.2.2.2.2.1.2.2.1 v.2.2.2.2.2.2.1.2.2.2.1 v.2.2.2.2.2.2.1.2.2.2.2.1 v.2.2.2.2.2.2.1.2.2.2.2.2.1 v.2.2.2.2.2.2.1.2.2.2.2.2.2.1 v.2.2.2.2.2.2.1.2.2.2.2.2.2.2.1 u3.2.1) (I62v1_1000004 k K ws rs N X) ws rs
noncomputable abbrev I62v1_0 : Option R := inner T an62 (modesOf F) 3 k 57 (S62v1 k) (E62v1 K) cd62_0 (sh sp62_0 ws rs) N X
abbrev aa62v1_0 : List Sh := [.ptr 1 22, zv, .val [(0, 0)] (.slice zP0), zv, zv]
abbrev ab62v1_0 : List RSh := [zs1, .gone, .gone, .arr [(0, 0)] zP2, .arr [(0, 0)] zP2]
noncomputable def L62v1_0 : Option R :=
  onShape aa62v1_0 ab62v1_0 (fun v => let u0 := v.2.1.2.2.2.2.2.2.2; let u1 := u0.2.2.2.2.2.2.2; let u2 := u1.2.2.2.2.2.2.2; f62v1_0 k (fun p23 p27 => N (sh jn62_0 [] [zr1 v.2.1.1 v.2.1.2.1 v.2.1.2.2.1 v.2.1.2.2.2.1 v.2.1.2.2.2.2.1 v.2.1.2.2.2.2.2.1 v.2.1.2.2.2.2.2.2.1 v.2.1.2.2.2.2.2.2.2.1 u0.2.1 u0.2.2.1 u0.2.2.2.1 u0.2.2.2.2.1 u0.2.2.2.2.2.1 u0.2.2.2.2.2.2.1 u0.2.2.2.2.2.2.2.1 u1.2.1 u1.2.2.1 u1.2.2.2.1 u1.2.2.2.2.1 u1.2.2.2.2.2.1 u1.2.2.2.2.2.2.1 u1.2.2.2.2.2.2.2.1 u2.2.1 p23 u2.2.2.2.2.1 u2.2.2.2.2.2.1 u2.2.2.2.2.2.2.2.1, ⟨0, .gone⟩, ⟨0, .gone⟩, zr2 p27, zr2 v.2.2.2.2.2.1])) v.1.2.1 v.1.2.2.1 v.1.2.2.2.1 v.2.1.1 v.2.1.2.1 v.2.1.2.2.1 v.2.1.2.2.2.1 v.2.1.2.2.2.2.1 v.2.1.2.2.2.2.2.1 v.2.1.2.2.2.2.2.2.1 v.2.1.2.2.2.2.2.2.2.1 u0.2.1 u0.2.2.1 u0.2.2.2.1 u0.2.2.2.2.1 u0.2.2.2.2.2.1 u0.2.2.2.2.2.2.1 u0.2.2.2.2.2.2.2.1 u1.2.1 u1.2.2.1 u1.2.2.2.1 u1.2.2.2.2.1 u1.2.2.2.2.2.1 u1.2.2.2.2.2.2.1 u1.2.2.2.2.2.2.2.1 u2.2.1 u2.2.2.2.2.1 u2.2.2.2.2.2.1 u2.2.2.2.2.2.2.2.1 v.2.2.2.2.2.1 k v.1.2.2.2.2.1 u2.2.2.1 v.2.2.2.2.1) (I62v1_0 k K ws rs N X) ws rs
noncomputable def L62v1 : Option R := bif id == 1000004 then L62v1_1000004 k K ws rs N X else bif id == 0 then L62v1_0 k K ws rs N X else none
theorem l62v1_1000004 : L62v1 k K 1000004 ws rs N X = I62v1_1000004 k K ws rs N X := by
  show L62v1_1000004 k K ws rs N X = _
  unfold L62v1_1000004
  rw [f62v1_1000004_def]
  exact lC (L62v1 k K) [] (by kernel_rfl) trivial fun x y => by kernel_rfl
theorem i62v1_0 (c0 : Int) (c1 : zL2) (c2 c4 c5 c6 c7 c8 c9 c10 : Int) (c11 : ByteArray) (c12 : List Int) (c13 : Int) (c14 : zL5) (c15 c16 c17 c18 : Int) (c19 : ByteArray) (c20 : List Int) (c21 : zL5) (c22 c23 c24 c25 : Int) (c26 c28 : List Bool) (c29 c30 : Int) (c32 : zL1) (m : Nat) : ∀ (c3 c27 : Int) (c31 : zL1),
    iter (atHead an62 3 bd62_0) m (fun st N' => exec T an62 (modesOf F) 3 k 57 (S62v1 k) (E62v1 K) bd62_0 st N' (outX an62 3 0 N X)) (sh sp62_0 [.ptr 1 22, zi c0, .val [(0, 0)] (.slice zP0) c1, zi c2, zi c3] [zr1 c4 c5 c6 c7 c8 c9 c10 c11 c12 c13 c14 c15 c16 c17 c18 c19 c20 c21 c22 c23 c24 c25 c26 c27 c28 c29 c30, ⟨0, .gone⟩, ⟨0, .gone⟩, zr2 c31, zr2 c32]) = f62v1_0d k (fun p23 p27 => N (sh jn62_0 [] [zr1 c4 c5 c6 c7 c8 c9 c10 c11 c12 c13 c14 c15 c16 c17 c18 c19 c20 c21 c22 c23 c24 c25 c26 p23 c28 c29 c30, ⟨0, .gone⟩, ⟨0, .gone⟩, zr2 p27, zr2 c32])) c0 c1 c2 c4 c5 c6 c7 c8 c9 c10 c11 c12 c13 c14 c15 c16 c17 c18 c19 c20 c21 c22 c23 c24 c25 c26 c28 c29 c30 c32 m c3 c27 c31 := by
  induction m with
  | zero => intros; rfl
  | succ m ih =>
    intro c3 c27 c31
    simp only [iter]
    rw [← execS_eq T an62 (modesOf F) 3 k 57 (S62v1 k) (L62v1 k K) bd62_0 (cuts_of _ _ _ _ _ _ _ _ bd62_0 (l := [(1000004, sp62_1000004, cd62_1000004)]) (by kernel_rfl) ⟨l62v1_1000004 k K, trivial⟩)]
    have h := fx3 ih
    simp only [f62v1_0d]
    rw [← h]
    show _ = _
    kernel_rfl
theorem l62v1_0 : L62v1 k K 0 ws rs N X = I62v1_0 k K ws rs N X := by
  show L62v1_0 k K ws rs N X = _
  unfold L62v1_0
  rw [f62v1_0_def]
  exact onShape_eq (a := aa62v1_0) (b := ab62v1_0) (G := fun ws rs => I62v1_0 k K ws rs N X) (fun x y => Eq.trans (by kernel_rfl) (Eq.trans (i62v1_0 k K N X x.2.1 x.2.2.1 x.2.2.2.1 y.1.1 y.1.2.1 y.1.2.2.1 y.1.2.2.2.1 y.1.2.2.2.2.1 y.1.2.2.2.2.2.1 y.1.2.2.2.2.2.2.1 y.1.2.2.2.2.2.2.2.1 y.1.2.2.2.2.2.2.2.2.1 y.1.2.2.2.2.2.2.2.2.2.1 y.1.2.2.2.2.2.2.2.2.2.2.1 y.1.2.2.2.2.2.2.2.2.2.2.2.1 y.1.2.2.2.2.2.2.2.2.2.2.2.2.1 y.1.2.2.2.2.2.2.2.2.2.2.2.2.2.1 y.1.2.2.2.2.2.2.2.2.2.2.2.2.2.2.1 y.1.2.2.2.2.2.2.2.2.2.2.2.2.2.2.2.1 y.1.2.2.2.2.2.2.2.2.2.2.2.2.2.2.2.2.1 y.1.2.2.2.2.2.2.2.2.2.2.2.2.2.2.2.2.2.1 y.1.2.2.2.2.2.2.2.2.2.2.2.2.2.2.2.2.2.2.1 y.1.2.2.2.2.2.2.2.2.2.2.2.2.2.2.2.2.2.2.2.1 y.1.2.2.2.2.2.2.2.2.2.2.2.2.2.2.2.2.2.2.2.2.1 y.1.2.2.2.2.2.2.2.2.2.2.2.2.2.2.2.2.2.2.2.2.2.1 y.1.2.2.2.2.2.2.2.2.2.2.2.2.2.2.2.2.2.2.2.2.2.2.1 y.1.2.2.2.2.2.2.2.2.2.2.2.2.2.2.2.2.2.2.2.2.2.2.2.2.2.1 y.1.2.2.2.2.2.2.2.2.2.2.2.2.2.2.2.2.2.2.2.2.2.2.2.2.2.2.1 y.1.2.2.2.2.2.2.2.2.2.2.2.2.2.2.2.2.2.2.2.2.2.2.2.2.2.2.2.2.1 y.2.2.2.2.1 k x.2.2.2.2.1 y.1.2.2.2.2.2.2.2.2.2.2.2.2.2.2.2.2.2.2.2.2.2.2.2.1 y.2.2.2.1).symm (by kernel_rfl))) ws rs
theorem tu62v1 : tOk (R := R) 62 aa62v1 ab62v1 g62v1 := by
  intro k x y K
  unfold g62v1
  rw [f62v1_def]
  cases k with
  | zero => rfl
  | succ k => exact eS Tryz.f62 an62 3 57 (L62v1 k K) [(0, sp62_0, cd62_0)] (by kernel_rfl) (S62v1_eq k) (by kernel_rfl) ⟨l62v1_0 k K, trivial⟩ (by kernel_rfl)
noncomputable def s62v1 := onS (R := R) aa62v1 ab62v1 g62v1 s62
theorem s62v1_eq : sOk (R := R) s62v1 62 := onS_eq s62_eq tu62v1
noncomputable abbrev kt65 : zK2 R := (fun z0 z1 z2 z3 z4 z5 z6 z7 z8 z9 z10 => K [.agg [zi z0, zi z1, .val [] .str z2, .val [(0, 0)] zT2 z3, .val [(0, 0)] zT1 z4, zi z5, zi z6, zi z7, zi z8], .rw 1, zi z9] [zr3 z10])
abbrev aa65 : List Sh := [.agg [zv, zv, zv, zv, zv], .agg [zv, zv, .val [] .str, .val [(0, 0)] zT2, .val [(0, 0)] zT1, zv, zv, zv, zv]]
abbrev ab65 : List RSh := []
noncomputable def g65 (k : Nat) (v : Sh.D.DL aa65 × RSh.DL ab65) (K : KT R) : Option R := let u0 := v.1.2.1.2.2.2.2.2.2.2; f65 k v.1.1.1 v.1.1.2.1 v.1.1.2.2.1 v.1.1.2.2.2.1 v.1.1.2.2.2.2.1 v.1.2.1.1 v.1.2.1.2.1 v.1.2.1.2.2.1 v.1.2.1.2.2.2.1 v.1.2.1.2.2.2.2.1 v.1.2.1.2.2.2.2.2.1 v.1.2.1.2.2.2.2.2.2.1 v.1.2.1.2.2.2.2.2.2.2.1 u0.2.1 (kt65 K)
noncomputable abbrev E65 := ending T Tryz.f65 an65 0 K
noncomputable def S65 := pickS (R := R) [(97, s97)]
theorem S65_eq : ∀ k, S65 (R := R) k = callC T F k := pickS_eq ⟨s97_eq, trivial⟩
theorem tu65 : tOk (R := R) 65 aa65 ab65 g65 := by
  intro k x y K
  unfold g65
  rw [f65_def]
  cases k with
  | zero => rfl
  | succ k => exact eS Tryz.f65 an65 0 54 L0 [] (by kernel_rfl) (S65_eq k) (by kernel_rfl) trivial (by kernel_rfl)
noncomputable def s65 := onS (R := R) aa65 ab65 g65 (fun k => callC T F k 65)
theorem s65_eq : sOk (R := R) s65 65 := onS_eq (fun _ _ _ _ => rfl) tu65
noncomputable abbrev kt28 : zK8 R := (fun z0 z1 z2 z3 z4 z5 z6 z7 z8 z9 z10 z11 z12 z13 z14 z15 z16 z17 z18 z19 z20 z21 z22 z23 z24 z25 z26 z27 z28 z29 => K [zi z0] [zr1 z1 z2 z3 z4 z5 z6 z7 z8 z9 z10 z11 z12 z13 z14 z15 z16 z17 z18 z19 z20 z21 z22 z23 z24 z25 z26 z27, ⟨0, .gone⟩, ⟨0, .gone⟩, zr2 z28, zr2 z29])
abbrev aa28 : List Sh := [.ptr 1 0, zv]
abbrev ab28 : List RSh := [zs0, .arr [(0, 0)] zP2, .arr [(0, 0)] zP2]
noncomputable def g28 (k : Nat) (v : Sh.D.DL aa28 × RSh.DL ab28) (K : KT R) : Option R := let u0 := v.2.1.2.2.2.2.2.2.2; let u1 := u0.2.2.2.2.2.2.2; let u2 := u1.2.2.2.2.2.2.2; f28 k v.1.2.1 v.2.1.1 v.2.1.2.1 v.2.1.2.2.1 v.2.1.2.2.2.1 v.2.1.2.2.2.2.1 v.2.1.2.2.2.2.2.1 v.2.1.2.2.2.2.2.2.1 v.2.1.2.2.2.2.2.2.2.1 u0.2.1 u0.2.2.1 u0.2.2.2.1 u0.2.2.2.2.1 u0.2.2.2.2.2.1 u0.2.2.2.2.2.2.1 u0.2.2.2.2.2.2.2.1 u1.2.1 u1.2.2.1 u1.2.2.2.1 u1.2.2.2.2.1 u1.2.2.2.2.2.1 u1.2.2.2.2.2.2.1 u1.2.2.2.2.2.2.2.1 u2.2.1 u2.2.2.1 u2.2.2.2.2.1 u2.2.2.2.2.2.1 u2.2.2.2.2.2.2.2.1 v.2.2.1 v.2.2.2.1 (kt28 K)
noncomputable abbrev E28 := ending T Tryz.f28 an28 3 K
noncomputable def S28 := pickS (R := R) [(60, s60v1), (61, s61), (62, s62v1), (63, s63), (64, s64), (65, s65)]
theorem S28_eq : ∀ k, S28 (R := R) k = callC T F k := pickS_eq ⟨s60v1_eq, s61_eq, s62v1_eq, s63_eq, s64_eq, s65_eq, trivial⟩
noncomputable abbrev I28_0 : Option R := inner T an28 (modesOf F) 3 k 167 (S28 k) (E28 K) cd28_0 (sh sp28_0 ws rs) N X
abbrev aa28_0 : List Sh := [.ptr 1 0, zv, .rw 6, zv, zv]
abbrev ab28_0 : List RSh := [zs1, .gone, .gone, .arr [(0, 0)] zP2, .arr [(0, 0)] zP2, .arr [(0, 0)] zP0]
noncomputable def L28_0 : Option R :=
  onShape aa28_0 ab28_0 (fun v => let u0 := v.2.1.2.2.2.2.2.2.2; let u1 := u0.2.2.2.2.2.2.2; let u2 := u1.2.2.2.2.2.2.2; f28_0 k (kt28 K) (fun p1 p2 p3 p4 p5 p6 p7 p8 p9 p10 p11 p12 p13 p14 p15 p16 p17 p18 p19 p20 p21 p22 p23 p24 p25 p26 p27 p28 p29 => N (sh jn28_0 [.ptr 1 0, zi v.1.2.1] [zr1 p1 p2 p3 p4 p5 p6 p7 p8 p9 p10 p11 p12 p13 p14 p15 p16 p17 p18 p19 p20 p21 p22 p23 p24 p25 p26 p27, ⟨0, .gone⟩, ⟨0, .gone⟩, zr2 p28, zr2 p29])) v.1.2.1 v.1.2.2.2.1 v.2.2.2.2.2.2.1 k v.1.2.2.2.2.1 v.2.1.1 v.2.1.2.1 v.2.1.2.2.1 v.2.1.2.2.2.1 v.2.1.2.2.2.2.1 v.2.1.2.2.2.2.2.1 v.2.1.2.2.2.2.2.2.1 v.2.1.2.2.2.2.2.2.2.1 u0.2.1 u0.2.2.1 u0.2.2.2.1 u0.2.2.2.2.1 u0.2.2.2.2.2.1 u0.2.2.2.2.2.2.1 u0.2.2.2.2.2.2.2.1 u1.2.1 u1.2.2.1 u1.2.2.2.1 u1.2.2.2.2.1 u1.2.2.2.2.2.1 u1.2.2.2.2.2.2.1 u1.2.2.2.2.2.2.2.1 u2.2.1 u2.2.2.1 u2.2.2.2.2.1 u2.2.2.2.2.2.1 u2.2.2.2.2.2.2.2.1 v.2.2.2.2.1 v.2.2.2.2.2.1) (I28_0 k K ws rs N X) ws rs
noncomputable abbrev I28_2 : Option R := inner T an28 (modesOf F) 3 k 167 (S28 k) (E28 K) cd28_2 (sh sp28_2 ws rs) N X
abbrev aa28_2 : List Sh := [.ptr 1 0, zv, .rw 6, zv, zv]
abbrev ab28_2 : List RSh := [zs1, .gone, .gone, .arr [(0, 0)] zP2, .arr [(0, 0)] zP2, .arr [(0, 0)] zP0]
noncomputable def L28_2 : Option R :=
  onShape aa28_2 ab28_2 (fun v => let u0 := v.2.1.2.2.2.2.2.2.2; let u1 := u0.2.2.2.2.2.2.2; let u2 := u1.2.2.2.2.2.2.2; f28_2 k (kt28 K) (fun p6 p7 p8 p9 p10 p11 p12 p13 => N (sh jn28_2 [.ptr 1 0, zi v.1.2.1] [zr1 v.2.1.1 v.2.1.2.1 v.2.1.2.2.1 v.2.1.2.2.2.1 v.2.1.2.2.2.2.1 p6 p7 p8 p9 p10 p11 p12 p13 u0.2.2.2.2.2.2.1 u0.2.2.2.2.2.2.2.1 u1.2.1 u1.2.2.1 u1.2.2.2.1 u1.2.2.2.2.1 u1.2.2.2.2.2.1 u1.2.2.2.2.2.2.1 u1.2.2.2.2.2.2.2.1 u2.2.1 u2.2.2.1 u2.2.2.2.2.1 u2.2.2.2.2.2.1 u2.2.2.2.2.2.2.2.1, ⟨0, .gone⟩, ⟨0, .gone⟩, zr2 v.2.2.2.2.1, zr2 v.2.2.2.2.2.1])) v.1.2.1 v.1.2.2.2.1 v.2.1.1 v.2.1.2.1 v.2.1.2.2.1 v.2.1.2.2.2.1 v.2.1.2.2.2.2.1 u0.2.2.2.2.2.2.1 u0.2.2.2.2.2.2.2.1 u1.2.1 u1.2.2.1 u1.2.2.2.1 u1.2.2.2.2.1 u1.2.2.2.2.2.1 u1.2.2.2.2.2.2.1 u1.2.2.2.2.2.2.2.1 u2.2.1 u2.2.2.1 u2.2.2.2.2.1 u2.2.2.2.2.2.1 u2.2.2.2.2.2.2.2.1 v.2.2.2.2.1 v.2.2.2.2.2.1 v.2.2.2.2.2.2.1 k v.1.2.2.2.2.1 v.2.1.2.2.2.2.2.1 v.2.1.2.2.2.2.2.2.1 v.2.1.2.2.2.2.2.2.2.1 u0.2.1 u0.2.2.1 u0.2.2.2.1 u0.2.2.2.2.1 u0.2.2.2.2.2.1) (I28_2 k K ws rs N X) ws rs
noncomputable abbrev I28_1000019 : Option R := inner T an28 (modesOf F) 3 k 167 (S28 k) (E28 K) cd28_1000019 (sh sp28_1000019 ws rs) N X
abbrev aa28_1000019 : List Sh := [.ptr 1 0, zv, .val [] .bool]
abbrev ab28_1000019 : List RSh := [zs1, .gone, .gone, .arr [(0, 0)] zP2, .arr [(0, 0)] zP2]
noncomputable def L28_1000019 : Option R :=
  onShape aa28_1000019 ab28_1000019 (fun v => let u0 := v.2.1.2.2.2.2.2.2.2; let u1 := u0.2.2.2.2.2.2.2; let u2 := u1.2.2.2.2.2.2.2; f28_1000019 k (fun p27 => N (sh fi28_19 [.ptr 1 0, zi v.1.2.1] [zr1 v.2.1.1 v.2.1.2.1 v.2.1.2.2.1 v.2.1.2.2.2.1 v.2.1.2.2.2.2.1 v.2.1.2.2.2.2.2.1 v.2.1.2.2.2.2.2.2.1 v.2.1.2.2.2.2.2.2.2.1 u0.2.1 u0.2.2.1 u0.2.2.2.1 u0.2.2.2.2.1 u0.2.2.2.2.2.1 u0.2.2.2.2.2.2.1 u0.2.2.2.2.2.2.2.1 u1.2.1 u1.2.2.1 u1.2.2.2.1 u1.2.2.2.2.1 u1.2.2.2.2.2.1 u1.2.2.2.2.2.2.1 u1.2.2.2.2.2.2.2.1 u2.2.1 u2.2.2.1 u2.2.2.2.2.1 u2.2.2.2.2.2.1 p27, ⟨0, .gone⟩, ⟨0, .gone⟩, zr2 v.2.2.2.2.1, zr2 v.2.2.2.2.2.1])) v.1.2.1 v.1.2.2.1 u2.2.2.2.2.2.2.2.1) (I28_1000019 k K ws rs N X) ws rs
noncomputable def L28 : Option R := bif id == 0 then L28_0 k K ws rs N X else bif id == 2 then L28_2 k K ws rs N X else bif id == 1000019 then L28_1000019 k K ws rs N X else none
theorem i28_0 (c0 c1 : Int) (c32 : zL3) (m : Nat) : ∀ (c2 c3 c4 c5 c6 c7 c8 c9 : Int) (c10 : ByteArray) (c11 : List Int) (c12 : Int) (c13 : zL5) (c14 c15 c16 c17 : Int) (c18 : ByteArray) (c19 : List Int) (c20 : zL5) (c21 c22 c23 c24 : Int) (c25 : List Bool) (c26 : Int) (c27 : List Bool) (c28 c29 : Int) (c30 c31 : zL1),
    iter (atHead an28 3 bd28_0) m (fun st N' => exec T an28 (modesOf F) 3 k 167 (S28 k) (E28 K) bd28_0 st N' (outX an28 3 0 N X)) (sh sp28_0 [.ptr 1 0, zi c0, .rw 6, zi c1, zi c2] [zr1 c3 c4 c5 c6 c7 c8 c9 c10 c11 c12 c13 c14 c15 c16 c17 c18 c19 c20 c21 c22 c23 c24 c25 c26 c27 c28 c29, ⟨0, .gone⟩, ⟨0, .gone⟩, zr2 c30, zr2 c31, zr3 c32]) = f28_0d k (kt28 K) (fun p1 p2 p3 p4 p5 p6 p7 p8 p9 p10 p11 p12 p13 p14 p15 p16 p17 p18 p19 p20 p21 p22 p23 p24 p25 p26 p27 p28 p29 => N (sh jn28_0 [.ptr 1 0, zi c0] [zr1 p1 p2 p3 p4 p5 p6 p7 p8 p9 p10 p11 p12 p13 p14 p15 p16 p17 p18 p19 p20 p21 p22 p23 p24 p25 p26 p27, ⟨0, .gone⟩, ⟨0, .gone⟩, zr2 p28, zr2 p29])) c0 c1 c32 m c2 c3 c4 c5 c6 c7 c8 c9 c10 c11 c12 c13 c14 c15 c16 c17 c18 c19 c20 c21 c22 c23 c24 c25 c26 c27 c28 c29 c30 c31 := by
  induction m with
  | zero => intros; rfl
  | succ m ih =>
    intro c2 c3 c4 c5 c6 c7 c8 c9 c10 c11 c12 c13 c14 c15 c16 c17 c18 c19 c20 c21 c22 c23 c24 c25 c26 c27 c28 c29 c30 c31
    simp only [iter]
    rw [← execS_eq T an28 (modesOf F) 3 k 167 (S28 k) (L28 k K) bd28_0 (cuts_of _ _ _ _ _ _ _ _ bd28_0 (l := []) (by kernel_rfl) trivial)]
    have h := fx30 ih
    simp only [f28_0d]
    rw [← h]
    show _ = _
    kernel_rfl
theorem l28_0 : L28 k K 0 ws rs N X = I28_0 k K ws rs N X := by
  show L28_0 k K ws rs N X = _
  unfold L28_0
  rw [f28_0_def]
  exact onShape_eq (a := aa28_0) (b := ab28_0) (G := fun ws rs => I28_0 k K ws rs N X) (fun x y => Eq.trans (by kernel_rfl) (Eq.trans (i28_0 k K N X x.2.1 x.2.2.2.1 y.2.2.2.2.2.1 k x.2.2.2.2.1 y.1.1 y.1.2.1 y.1.2.2.1 y.1.2.2.2.1 y.1.2.2.2.2.1 y.1.2.2.2.2.2.1 y.1.2.2.2.2.2.2.1 y.1.2.2.2.2.2.2.2.1 y.1.2.2.2.2.2.2.2.2.1 y.1.2.2.2.2.2.2.2.2.2.1 y.1.2.2.2.2.2.2.2.2.2.2.1 y.1.2.2.2.2.2.2.2.2.2.2.2.1 y.1.2.2.2.2.2.2.2.2.2.2.2.2.1 y.1.2.2.2.2.2.2.2.2.2.2.2.2.2.1 y.1.2.2.2.2.2.2.2.2.2.2.2.2.2.2.1 y.1.2.2.2.2.2.2.2.2.2.2.2.2.2.2.2.1 y.1.2.2.2.2.2.2.2.2.2.2.2.2.2.2.2.2.1 y.1.2.2.2.2.2.2.2.2.2.2.2.2.2.2.2.2.2.1 y.1.2.2.2.2.2.2.2.2.2.2.2.2.2.2.2.2.2.2.1 y.1.2.2.2.2.2.2.2.2.2.2.2.2.2.2.2.2.2.2.2.1 y.1.2.2.2.2.2.2.2.2.2.2.2.2.2.2.2.2.2.2.2.2.1 y.1.2.2.2.2.2.2.2.2.2.2.2.2.2.2.2.2.2.2.2.2.2.1 y.1.2.2.2.2.2.2.2.2.2.2.2.2.2.2.2.2.2.2.2.2.2.2.1 y.1.2.2.2.2.2.2.2.2.2.2.2.2.2.2.2.2.2.2.2.2.2.2.2.1 y.1.2.2.2.2.2.2.2.2.2.2.2.2.2.2.2.2.2.2.2.2.2.2.2.2.2.1 y.1.2.2.2.2.2.2.2.2.2.2.2.2.2.2.2.2.2.2.2.2.2.2.2.2.2.2.1 y.1.2.2.2.2.2.2.2.2.2.2.2.2.2.2.2.2.2.2.2.2.2.2.2.2.2.2.2.2.1 y.2.2.2.1 y.2.2.2.2.1).symm (by kernel_rfl))) ws rs
theorem i28_2 (c0 c1 c3 c4 c5 c6 c7 c16 c17 : Int) (c18 : ByteArray) (c19 : List Int) (c20 : zL5) (c21 c22 c23 c24 : Int) (c25 : List Bool) (c26 : Int) (c27 : List Bool) (c28 c29 : Int) (c30 c31 : zL1) (c32 : zL3) (m : Nat) : ∀ (c2 c8 c9 : Int) (c10 : ByteArray) (c11 : List Int) (c12 : Int) (c13 : zL5) (c14 c15 : Int),
    iter (atHead an28 3 bd28_2) m (fun st N' => exec T an28 (modesOf F) 3 k 167 (S28 k) (E28 K) bd28_2 st N' (outX an28 3 2 N X)) (sh sp28_2 [.ptr 1 0, zi c0, .rw 6, zi c1, zi c2] [zr1 c3 c4 c5 c6 c7 c8 c9 c10 c11 c12 c13 c14 c15 c16 c17 c18 c19 c20 c21 c22 c23 c24 c25 c26 c27 c28 c29, ⟨0, .gone⟩, ⟨0, .gone⟩, zr2 c30, zr2 c31, zr3 c32]) = f28_2d k (kt28 K) (fun p6 p7 p8 p9 p10 p11 p12 p13 => N (sh jn28_2 [.ptr 1 0, zi c0] [zr1 c3 c4 c5 c6 c7 p6 p7 p8 p9 p10 p11 p12 p13 c16 c17 c18 c19 c20 c21 c22 c23 c24 c25 c26 c27 c28 c29, ⟨0, .gone⟩, ⟨0, .gone⟩, zr2 c30, zr2 c31])) c0 c1 c3 c4 c5 c6 c7 c16 c17 c18 c19 c20 c21 c22 c23 c24 c25 c26 c27 c28 c29 c30 c31 c32 m c2 c8 c9 c10 c11 c12 c13 c14 c15 := by
  induction m with
  | zero => intros; rfl
  | succ m ih =>
    intro c2 c8 c9 c10 c11 c12 c13 c14 c15
    simp only [iter]
    rw [← execS_eq T an28 (modesOf F) 3 k 167 (S28 k) (L28 k K) bd28_2 (cuts_of _ _ _ _ _ _ _ _ bd28_2 (l := []) (by kernel_rfl) trivial)]
    have h := fx9 ih
    simp only [f28_2d]
    rw [← h]
    show _ = _
    kernel_rfl
theorem l28_2 : L28 k K 2 ws rs N X = I28_2 k K ws rs N X := by
  show L28_2 k K ws rs N X = _
  unfold L28_2
  rw [f28_2_def]
  exact onShape_eq (a := aa28_2) (b := ab28_2) (G := fun ws rs => I28_2 k K ws rs N X) (fun x y => Eq.trans (by kernel_rfl) (Eq.trans (i28_2 k K N X x.2.1 x.2.2.2.1 y.1.1 y.1.2.1 y.1.2.2.1 y.1.2.2.2.1 y.1.2.2.2.2.1 y.1.2.2.2.2.2.2.2.2.2.2.2.2.2.1 y.1.2.2.2.2.2.2.2.2.2.2.2.2.2.2.1 y.1.2.2.2.2.2.2.2.2.2.2.2.2.2.2.2.1 y.1.2.2.2.2.2.2.2.2.2.2.2.2.2.2.2.2.1 y.1.2.2.2.2.2.2.2.2.2.2.2.2.2.2.2.2.2.1 y.1.2.2.2.2.2.2.2.2.2.2.2.2.2.2.2.2.2.2.1 y.1.2.2.2.2.2.2.2.2.2.2.2.2.2.2.2.2.2.2.2.1 y.1.2.2.2.2.2.2.2.2.2.2.2.2.2.2.2.2.2.2.2.2.1 y.1.2.2.2.2.2.2.2.2.2.2.2.2.2.2.2.2.2.2.2.2.2.1 y.1.2.2.2.2.2.2.2.2.2.2.2.2.2.2.2.2.2.2.2.2.2.2.1 y.1.2.2.2.2.2.2.2.2.2.2.2.2.2.2.2.2.2.2.2.2.2.2.2.1 y.1.2.2.2.2.2.2.2.2.2.2.2.2.2.2.2.2.2.2.2.2.2.2.2.2.2.1 y.1.2.2.2.2.2.2.2.2.2.2.2.2.2.2.2.2.2.2.2.2.2.2.2.2.2.2.1 y.1.2.2.2.2.2.2.2.2.2.2.2.2.2.2.2.2.2.2.2.2.2.2.2.2.2.2.2.2.1 y.2.2.2.1 y.2.2.2.2.1 y.2.2.2.2.2.1 k x.2.2.2.2.1 y.1.2.2.2.2.2.1 y.1.2.2.2.2.2.2.1 y.1.2.2.2.2.2.2.2.1 y.1.2.2.2.2.2.2.2.2.1 y.1.2.2.2.2.2.2.2.2.2.1 y.1.2.2.2.2.2.2.2.2.2.2.1 y.1.2.2.2.2.2.2.2.2.2.2.2.1 y.1.2.2.2.2.2.2.2.2.2.2.2.2.1).symm (by kernel_rfl))) ws rs
theorem l28_1000019 : L28 k K 1000019 ws rs N X = I28_1000019 k K ws rs N X := by
  show L28_1000019 k K ws rs N X = _
  unfold L28_1000019
  rw [f28_1000019_def]
  exact lC (L28 k K) [] (by kernel_rfl) trivial fun x y => by kernel_rfl
theorem tu28 : tOk (R := R) 28 aa28 ab28 g28 := by
  intro k x y K
  unfold g28
  rw [f28_def]
  cases k with
  | zero => rfl
  | succ k => exact eS Tryz.f28 an28 3 167 (L28 k K) [(0, sp28_0, cd28_0), (2, sp28_2, cd28_2), (1000019, sp28_1000019, cd28_1000019)] (by kernel_rfl) (S28_eq k) (by kernel_rfl) ⟨l28_0 k K, l28_2 k K, l28_1000019 k K, trivial⟩ (by kernel_rfl)
noncomputable def s28 := onS (R := R) aa28 ab28 g28 (fun k => callC T F k 28)
theorem s28_eq : sOk (R := R) s28 28 := onS_eq (fun _ _ _ _ => rfl) tu28
noncomputable abbrev kt8 : zK10 R := (fun z0 z1 z2 z3 z4 z5 z6 z7 z8 z9 z10 z11 z12 z13 z14 z15 z16 z17 z18 => K [.agg [zi z0, zi z1, .val [] .str z2, .val [(0, 0)] zT2 z3, zi z4, .val [(0, 0)] zT1 z5, zi z6, zi z7], .agg [zi z8, zi z9, .val [] .str z10, .val [(0, 0)] zT2 z11, .val [(0, 0)] zT1 z12, zi z13, zi z14, zi z15, zi z16], .rw 1, zi z17] [zr11 z18])
abbrev aa8 : List Sh := [.agg [zv, zv, zv, zv, zv], zv, .val [] .str, .val [(0, 0)] zT2, .val [(0, 0)] zT3, .val [(0, 0)] zT3, zv]
abbrev ab8 : List RSh := []
noncomputable def g8 (k : Nat) (v : Sh.D.DL aa8 × RSh.DL ab8) (K : KT R) : Option R := f8 k v.1.1.1 v.1.1.2.1 v.1.1.2.2.1 v.1.1.2.2.2.1 v.1.1.2.2.2.2.1 v.1.2.1 v.1.2.2.1 v.1.2.2.2.1 v.1.2.2.2.2.1 v.1.2.2.2.2.2.1 v.1.2.2.2.2.2.2.1 (kt8 K)
noncomputable abbrev E8 := ending T Tryz.f8 an8 0 K
noncomputable def S8 := pickS (R := R) [(24, s24), (25, s25), (26, s26), (27, s27), (28, s28)]
theorem S8_eq : ∀ k, S8 (R := R) k = callC T F k := pickS_eq ⟨s24_eq, s25_eq, s26_eq, s27_eq, s28_eq, trivial⟩
noncomputable abbrev I8_0 : Option R := inner T an8 (modesOf F) 0 k 110 (S8 k) (E8 K) cd8_0 (sh sp8_0 ws rs) N X
abbrev aa8_0 : List Sh := [.ptr 1 0, .ptr 2 0, .ptr 3 0, zv, zv]
abbrev ab8_0 : List RSh := [zs7, zs4, zs1, .arr [(0, 0)] zP2, .arr [(0, 0)] zP2]
noncomputable def L8_0 : Option R :=
  onShape aa8_0 ab8_0 (fun v => let u0 := v.2.2.1.2.2.2.2.2.2.2; let u1 := v.2.2.2.1.2.2.2.2.2.2.2; let u2 := u1.2.2.2.2.2.2.2; let u3 := u2.2.2.2.2.2.2.2; f8_0 k (kt8 K) (fun p13 p14 p15 p16 p17 p18 p19 p20 p21 p22 p23 p24 p25 p26 p27 p28 p29 p30 p31 p32 p33 p34 p35 p36 p37 p38 p39 p40 p41 => N (sh jn8_0 [.ptr 1 0, .ptr 2 0, .ptr 3 0] [zr10 v.2.1.1 v.2.1.2.1 v.2.1.2.2.1 v.2.1.2.2.2.2.1 v.2.1.2.2.2.2.2.2.1 v.2.1.2.2.2.2.2.2.2.1, zr7 v.2.2.1.1 v.2.2.1.2.1 v.2.2.1.2.2.1 v.2.2.1.2.2.2.2.2.1 v.2.2.1.2.2.2.2.2.2.1 v.2.2.1.2.2.2.2.2.2.2.1 u0.2.1, zr1 p13 p14 p15 p16 p17 p18 p19 p20 p21 p22 p23 p24 p25 p26 p27 p28 p29 p30 p31 p32 p33 p34 p35 p36 p37 p38 p39, zr2 p40, zr2 p41])) v.1.2.2.2.1 v.2.1.1 v.2.1.2.1 v.2.1.2.2.1 v.2.1.2.2.2.2.1 v.2.1.2.2.2.2.2.2.1 v.2.1.2.2.2.2.2.2.2.1 v.2.2.1.1 v.2.2.1.2.1 v.2.2.1.2.2.1 v.2.2.1.2.2.2.2.2.1 v.2.2.1.2.2.2.2.2.2.1 v.2.2.1.2.2.2.2.2.2.2.1 u0.2.1 k v.1.2.2.2.2.1 v.2.2.2.1.1 v.2.2.2.1.2.1 v.2.2.2.1.2.2.1 v.2.2.2.1.2.2.2.1 v.2.2.2.1.2.2.2.2.1 v.2.2.2.1.2.2.2.2.2.1 v.2.2.2.1.2.2.2.2.2.2.1 v.2.2.2.1.2.2.2.2.2.2.2.1 u1.2.1 u1.2.2.1 u1.2.2.2.1 u1.2.2.2.2.1 u1.2.2.2.2.2.1 u1.2.2.2.2.2.2.1 u1.2.2.2.2.2.2.2.1 u2.2.1 u2.2.2.1 u2.2.2.2.1 u2.2.2.2.2.1 u2.2.2.2.2.2.1 u2.2.2.2.2.2.2.1 u2.2.2.2.2.2.2.2.1 u3.2.1 u3.2.2.1 u3.2.2.2.2.1 u3.2.2.2.2.2.1 u3.2.2.2.2.2.2.2.1 v.2.2.2.2.1 v.2.2.2.2.2.1) (I8_0 k K ws rs N X) ws rs
noncomputable def L8 : Option R := bif id == 0 then L8_0 k K ws rs N X else none
theorem i8_0 (c0 c2 c3 : Int) (c4 : ByteArray) (c5 c6 c7 c8 c9 : Int) (c10 : ByteArray) (c11 c12 c13 c14 : Int) (m : Nat) : ∀ (c1 c15 c16 c17 c18 c19 c20 c21 : Int) (c22 : ByteArray) (c23 : List Int) (c24 : Int) (c25 : zL5) (c26 c27 c28 c29 : Int) (c30 : ByteArray) (c31 : List Int) (c32 : zL5) (c33 c34 c35 c36 : Int) (c37 : List Bool) (c38 : Int) (c39 : List Bool) (c40 c41 : Int) (c42 c43 : zL1),
    iter (atHead an8 0 bd8_0) m (fun st N' => exec T an8 (modesOf F) 0 k 110 (S8 k) (E8 K) bd8_0 st N' (outX an8 0 0 N X)) (sh sp8_0 [.ptr 1 0, .ptr 2 0, .ptr 3 0, zi c0, zi c1] [zr10 c2 c3 c4 c5 c6 c7, zr7 c8 c9 c10 c11 c12 c13 c14, zr1 c15 c16 c17 c18 c19 c20 c21 c22 c23 c24 c25 c26 c27 c28 c29 c30 c31 c32 c33 c34 c35 c36 c37 c38 c39 c40 c41, zr2 c42, zr2 c43]) = f8_0d k (kt8 K) (fun p13 p14 p15 p16 p17 p18 p19 p20 p21 p22 p23 p24 p25 p26 p27 p28 p29 p30 p31 p32 p33 p34 p35 p36 p37 p38 p39 p40 p41 => N (sh jn8_0 [.ptr 1 0, .ptr 2 0, .ptr 3 0] [zr10 c2 c3 c4 c5 c6 c7, zr7 c8 c9 c10 c11 c12 c13 c14, zr1 p13 p14 p15 p16 p17 p18 p19 p20 p21 p22 p23 p24 p25 p26 p27 p28 p29 p30 p31 p32 p33 p34 p35 p36 p37 p38 p39, zr2 p40, zr2 p41])) c0 c2 c3 c4 c5 c6 c7 c8 c9 c10 c11 c12 c13 c14 m c1 c15 c16 c17 c18 c19 c20 c21 c22 c23 c24 c25 c26 c27 c28 c29 c30 c31 c32 c33 c34 c35 c36 c37 c38 c39 c40 c41 c42 c43 := by
  induction m with
  | zero => intros; rfl
  | succ m ih =>
    intro c1 c15 c16 c17 c18 c19 c20 c21 c22 c23 c24 c25 c26 c27 c28 c29 c30 c31 c32 c33 c34 c35 c36 c37 c38 c39 c40 c41 c42 c43
    simp only [iter]
    rw [← execS_eq T an8 (modesOf F) 0 k 110 (S8 k) (L8 k K) bd8_0 (cuts_of _ _ _ _ _ _ _ _ bd8_0 (l := []) (by kernel_rfl) trivial)]
    have h := fx30 ih
    simp only [f8_0d]
    rw [← h]
    show _ = _
    kernel_rfl
theorem l8_0 : L8 k K 0 ws rs N X = I8_0 k K ws rs N X := by
  show L8_0 k K ws rs N X = _
  unfold L8_0
  rw [f8_0_def]
  exact onShape_eq (a := aa8_0) (b := ab8_0) (G := fun ws rs => I8_0 k K ws rs N X) (fun x y => Eq.trans (by kernel_rfl) (Eq.trans (i8_0 k K N X x.2.2.2.1 y.1.1 y.1.2.1 y.1.2.2.1 y.1.2.2.2.2.1 y.1.2.2.2.2.2.2.1 y.1.2.2.2.2.2.2.2.1 y.2.1.1 y.2.1.2.1 y.2.1.2.2.1 y.2.1.2.2.2.2.2.1 y.2.1.2.2.2.2.2.2.1 y.2.1.2.2.2.2.2.2.2.1 y.2.1.2.2.2.2.2.2.2.2.1 k x.2.2.2.2.1 y.2.2.1.1 y.2.2.1.2.1 y.2.2.1.2.2.1 y.2.2.1.2.2.2.1 y.2.2.1.2.2.2.2.1 y.2.2.1.2.2.2.2.2.1 y.2.2.1.2.2.2.2.2.2.1 y.2.2.1.2.2.2.2.2.2.2.1 y.2.2.1.2.2.2.2.2.2.2.2.1 y.2.2.1.2.2.2.2.2.2.2.2.2.1 y.2.2.1.2.2.2.2.2.2.2.2.2.2.1 y.2.2.1.2.2.2.2.2.2.2.2.2.2.2.1 y.2.2.1.2.2.2.2.2.2.2.2.2.2.2.2.1 y.2.2.1.2.2.2.2.2.2.2.2.2.2.2.2.2.1 y.2.2.1.2.2.2.2.2.2.2.2.2.2.2.2.2.2.1 y.2.2.1.2.2.2.2.2.2.2.2.2.2.2.2.2.2.2.1 y.2.2.1.2.2.2.2.2.2.2.2.2.2.2.2.2.2.2.2.1 y.2.2.1.2.2.2.2.2.2.2.2.2.2.2.2.2.2.2.2.2.1 y.2.2.1.2.2.2.2.2.2.2.2.2.2.2.2.2.2.2.2.2.2.1 y.2.2.1.2.2.2.2.2.2.2.2.2.2.2.2.2.2.2.2.2.2.2.1 y.2.2.1.2.2.2.2.2.2.2.2.2.2.2.2.2.2.2.2.2.2.2.2.1 y.2.2.1.2.2.2.2.2.2.2.2.2.2.2.2.2.2.2.2.2.2.2.2.2.1 y.2.2.1.2.2.2.2.2.2.2.2.2.2.2.2.2.2.2.2.2.2.2.2.2.2.1 y.2.2.1.2.2.2.2.2.2.2.2.2.2.2.2.2.2.2.2.2.2.2.2.2.2.2.1 y.2.2.1.2.2.2.2.2.2.2.2.2.2.2.2.2.2.2.2.2.2.2.2.2.2.2.2.2.1 y.2.2.1.2.2.2.2.2.2.2.2.2.2.2.2.2.2.2.2.2.2.2.2.2.2.2.2.2.2.1 y.2.2.1.2.2.2.2.2.2.2.2.2.2.2.2.2.2.2.2.2.2.2.2.2.2.2.2.2.2.2.2.1 y.2.2.2.1 y.2.2.2.2.1).symm (by kernel_rfl))) ws rs
theorem tu8 : tOk (R := R) 8 aa8 ab8 g8 := by
  intro k x y K
  unfold g8
  rw [f8_def]
  cases k with
  | zero => rfl
  | succ k => exact eS Tryz.f8 an8 0 110 (L8 k K) [(0, sp8_0, cd8_0)] (by kernel_rfl) (S8_eq k) (by kernel_rfl) ⟨l8_0 k K, trivial⟩ (by kernel_rfl)
noncomputable def s8 := onS (R := R) aa8 ab8 g8 (fun k => callC T F k 8)
theorem s8_eq : sOk (R := R) s8 8 := onS_eq (fun _ _ _ _ => rfl) tu8
noncomputable abbrev kt71 : Bool → Option R := (fun z0 => K [.val [] .bool z0] [])
abbrev aa71 : List Sh := [zv]
abbrev ab71 : List RSh := []
noncomputable def g71 (k : Nat) (v : Sh.D.DL aa71 × RSh.DL ab71) (K : KT R) : Option R := f71 k v.1.1 (kt71 K)
noncomputable abbrev E71 := ending T Tryz.f71 an71 0 K
noncomputable def S71 := pickS (R := R) []
theorem S71_eq : ∀ k, S71 (R := R) k = callC T F k := pickS_eq trivial
theorem tu71 : tOk (R := R) 71 aa71 ab71 g71 := by
  intro k x y K
  unfold g71
  rw [f71_def]
  cases k with
  | zero => rfl
  | succ k => exact eS Tryz.f71 an71 0 12 L0 [] (by kernel_rfl) (S71_eq k) (by kernel_rfl) trivial (by kernel_rfl)
noncomputable def s71 := onS (R := R) aa71 ab71 g71 (fun k => callC T F k 71)
theorem s71_eq : sOk (R := R) s71 71 := onS_eq (fun _ _ _ _ => rfl) tu71
noncomputable abbrev kt72 : Int → Option R := (fun z0 => K [zi z0] [])
abbrev aa72 : List Sh := [zv]
abbrev ab72 : List RSh := []
noncomputable def g72 (k : Nat) (v : Sh.D.DL aa72 × RSh.DL ab72) (K : KT R) : Option R := f72 k v.1.1 (kt72 K)
noncomputable abbrev E72 := ending T Tryz.f72 an72 0 K
noncomputable def S72 := pickS (R := R) []
theorem S72_eq : ∀ k, S72 (R := R) k = callC T F k := pickS_eq trivial
theorem tu72 : tOk (R := R) 72 aa72 ab72 g72 := by
  intro k x y K
  unfold g72
  rw [f72_def]
  cases k with
  | zero => rfl
  | succ k => exact eS Tryz.f72 an72 0 6 L0 [] (by kernel_rfl) (S72_eq k) (by kernel_rfl) trivial (by kernel_rfl)
noncomputable def s72 := onS (R := R) aa72 ab72 g72 (fun k => callC T F k 72)
theorem s72_eq : sOk (R := R) s72 72 := onS_eq (fun _ _ _ _ => rfl) tu72
noncomputable abbrev kt73 : Int → Option R := (fun z0 => K [zi z0] [])
abbrev aa73 : List Sh := [zv]
abbrev ab73 : List RSh := []
noncomputable def g73 (k : Nat) (v : Sh.D.DL aa73 × RSh.DL ab73) (K : KT R) : Option R := f73 k v.1.1 (kt73 K)
noncomputable abbrev E73 := ending T Tryz.f73 an73 0 K
noncomputable def S73 := pickS (R := R) [(72, s72)]
theorem S73_eq : ∀ k, S73 (R := R) k = callC T F k := pickS_eq ⟨s72_eq, trivial⟩
noncomputable abbrev I73_1000006 : Option R := inner T an73 (modesOf F) 0 k 18 (S73 k) (E73 K) cd73_1000006 (sh sp73_1000006 ws rs) N X
abbrev aa73_1000006 : List Sh := [zv, zv, zv, .val [] .bool]
abbrev ab73_1000006 : List RSh := []
noncomputable def L73_1000006 : Option R :=
  onShape aa73_1000006 ab73_1000006 (fun v => f73_1000006 k (fun p1 => N (sh fi73_6 [zi v.1.1, zi p1, zi v.1.2.2.1] [])) v.1.2.1 v.1.2.2.1 v.1.2.2.2.1) (I73_1000006 k K ws rs N X) ws rs
noncomputable abbrev I73_0 : Option R := inner T an73 (modesOf F) 0 k 18 (S73 k) (E73 K) cd73_0 (sh sp73_0 ws rs) N X
abbrev aa73_0 : List Sh := [zv, zv, zv]
abbrev ab73_0 : List RSh := []
noncomputable def L73_0 : Option R :=
  onShape aa73_0 ab73_0 (fun v => f73_0 k (fun p0 => N (sh jn73_0 [zi p0] [])) v.1.1 k v.1.2.1 v.1.2.2.1) (I73_0 k K ws rs N X) ws rs
noncomputable def L73 : Option R := bif id == 1000006 then L73_1000006 k K ws rs N X else bif id == 0 then L73_0 k K ws rs N X else none
theorem l73_1000006 : L73 k K 1000006 ws rs N X = I73_1000006 k K ws rs N X := by
  show L73_1000006 k K ws rs N X = _
  unfold L73_1000006
  rw [f73_1000006_def]
  exact lC (L73 k K) [] (by kernel_rfl) trivial fun x y => by kernel_rfl
theorem i73_0 (c0 : Int) (m : Nat) : ∀ (c1 c2 : Int),
    iter (atHead an73 0 bd73_0) m (fun st N' => exec T an73 (modesOf F) 0 k 18 (S73 k) (E73 K) bd73_0 st N' (outX an73 0 0 N X)) (sh sp73_0 [zi c0, zi c1, zi c2] []) = f73_0d k (fun p0 => N (sh jn73_0 [zi p0] [])) c0 m c1 c2 := by
  induction m with
  | zero => intros; rfl
  | succ m ih =>
    intro c1 c2
    simp only [iter]
    rw [← execS_eq T an73 (modesOf F) 0 k 18 (S73 k) (L73 k K) bd73_0 (cuts_of _ _ _ _ _ _ _ _ bd73_0 (l := [(1000006, sp73_1000006, cd73_1000006)]) (by kernel_rfl) ⟨l73_1000006 k K, trivial⟩)]
    have h := fx2 ih
    simp only [f73_0d]
    rw [← h]
    show _ = _
    kernel_rfl
theorem l73_0 : L73 k K 0 ws rs N X = I73_0 k K ws rs N X := by
  show L73_0 k K ws rs N X = _
  unfold L73_0
  rw [f73_0_def]
  exact onShape_eq (a := aa73_0) (b := ab73_0) (G := fun ws rs => I73_0 k K ws rs N X) (fun x y => Eq.trans (by kernel_rfl) (Eq.trans (i73_0 k K N X x.1 k x.2.1 x.2.2.1).symm (by kernel_rfl))) ws rs
theorem tu73 : tOk (R := R) 73 aa73 ab73 g73 := by
  intro k x y K
  unfold g73
  rw [f73_def]
  cases k with
  | zero => rfl
  | succ k => exact eS Tryz.f73 an73 0 18 (L73 k K) [(0, sp73_0, cd73_0)] (by kernel_rfl) (S73_eq k) (by kernel_rfl) ⟨l73_0 k K, trivial⟩ (by kernel_rfl)
noncomputable def s73 := onS (R := R) aa73 ab73 g73 (fun k => callC T F k 73)
theorem s73_eq : sOk (R := R) s73 73 := onS_eq (fun _ _ _ _ => rfl) tu73
noncomputable abbrev kt137 : Int → Option R := (fun z0 => K [zi z0] [])
abbrev aa137 : List Sh := [.val [] (.int .u64)]
abbrev ab137 : List RSh := []
noncomputable def g137 (k : Nat) (v : Sh.D.DL aa137 × RSh.DL ab137) (K : KT R) : Option R := f137 k v.1.1 (kt137 K)
noncomputable abbrev E137 := ending T Tryz.f137 an137 0 K
noncomputable def S137 := pickS (R := R) []
theorem S137_eq : ∀ k, S137 (R := R) k = callC T F k := pickS_eq trivial
theorem tu137 : tOk (R := R) 137 aa137 ab137 g137 := by
  intro k x y K
  unfold g137
  rw [f137_def]
  cases k with
  | zero => rfl
  | succ k => exact eS Tryz.f137 an137 0 35 L0 [] (by kernel_rfl) (S137_eq k) (by kernel_rfl) trivial (by kernel_rfl)
noncomputable def s137 := onS (R := R) aa137 ab137 g137 (fun k => callC T F k 137)
theorem s137_eq : sOk (R := R) s137 137 := onS_eq (fun _ _ _ _ => rfl) tu137
noncomputable abbrev kt107 : Int → Option R := (fun z0 => K [zi z0] [])
abbrev aa107 : List Sh := [.val [] (.int .u64)]
abbrev ab107 : List RSh := []
noncomputable def g107 (k : Nat) (v : Sh.D.DL aa107 × RSh.DL ab107) (K : KT R) : Option R := f107 k v.1.1 (kt107 K)
noncomputable abbrev E107 := ending T Tryz.f107 an107 0 K
noncomputable def S107 := pickS (R := R) [(137, s137)]
theorem S107_eq : ∀ k, S107 (R := R) k = callC T F k := pickS_eq ⟨s137_eq, trivial⟩
theorem tu107 : tOk (R := R) 107 aa107 ab107 g107 := by
  intro k x y K
  unfold g107
  rw [f107_def]
  cases k with
  | zero => rfl
  | succ k => exact eS Tryz.f107 an107 0 8 L0 [] (by kernel_rfl) (S107_eq k) (by kernel_rfl) trivial (by kernel_rfl)
noncomputable def s107 := onS (R := R) aa107 ab107 g107 (fun k => callC T F k 107)
theorem s107_eq : sOk (R := R) s107 107 := onS_eq (fun _ _ _ _ => rfl) tu107
noncomputable abbrev kt74 : Bool → Option R := (fun z0 => K [.val [] .bool z0] [])
abbrev aa74 : List Sh := [zv]
abbrev ab74 : List RSh := []
noncomputable def g74 (k : Nat) (v : Sh.D.DL aa74 × RSh.DL ab74) (K : KT R) : Option R := f74 k v.1.1 (kt74 K)
noncomputable abbrev E74 := ending T Tryz.f74 an74 0 K
noncomputable def S74 := pickS (R := R) [(107, s107)]
theorem S74_eq : ∀ k, S74 (R := R) k = callC T F k := pickS_eq ⟨s107_eq, trivial⟩
theorem tu74 : tOk (R := R) 74 aa74 ab74 g74 := by
  intro k x y K
  unfold g74
  rw [f74_def]
  cases k with
  | zero => rfl
  | succ k => exact eS Tryz.f74 an74 0 8 L0 [] (by kernel_rfl) (S74_eq k) (by kernel_rfl) trivial (by kernel_rfl)
noncomputable def s74 := onS (R := R) aa74 ab74 g74 (fun k => callC T F k 74)
theorem s74_eq : sOk (R := R) s74 74 := onS_eq (fun _ _ _ _ => rfl) tu74
noncomputable abbrev kt36 : Int → Int → Option R := (fun z0 z1 => K [zi z0, zi z1] [])
abbrev aa36 : List Sh := [zv]
abbrev ab36 : List RSh := []
noncomputable def g36 (k : Nat) (v : Sh.D.DL aa36 × RSh.DL ab36) (K : KT R) : Option R := f36 k v.1.1 (kt36 K)
noncomputable abbrev E36 := ending T Tryz.f36 an36 0 K
noncomputable def S36 := pickS (R := R) [(26, s26), (71, s71), (72, s72), (73, s73), (74, s74)]
theorem S36_eq : ∀ k, S36 (R := R) k = callC T F k := pickS_eq ⟨s26_eq, s71_eq, s72_eq, s73_eq, s74_eq, trivial⟩
noncomputable abbrev I36_1000009 : Option R := inner T an36 (modesOf F) 0 k 47 (S36 k) (E36 K) cd36_1000009 (sh sp36_1000009 ws rs) N X
abbrev aa36_1000009 : List Sh := [zv, zv, zv, .val [] .bool]
abbrev ab36_1000009 : List RSh := []
noncomputable def L36_1000009 : Option R :=
  onShape aa36_1000009 ab36_1000009 (fun v => f36_1000009 k (fun p1 => N (sh fi36_9 [zi v.1.1, zi p1, zi v.1.2.2.1] [])) v.1.2.1 v.1.2.2.1 v.1.2.2.2.1) (I36_1000009 k K ws rs N X) ws rs
noncomputable abbrev I36_1000008 : Option R := inner T an36 (modesOf F) 0 k 47 (S36 k) (E36 K) cd36_1000008 (sh sp36_1000008 ws rs) N X
abbrev aa36_1000008 : List Sh := [zv, zv, zv, .val [] .bool]
abbrev ab36_1000008 : List RSh := []
noncomputable def L36_1000008 : Option R :=
  onShape aa36_1000008 ab36_1000008 (fun v => f36_1000008 k (fun p0 p1 => N (sh fi36_8 [zi p0, zi p1, zi v.1.2.2.1] [])) v.1.1 v.1.2.1 v.1.2.2.1 v.1.2.2.2.1) (I36_1000008 k K ws rs N X) ws rs
noncomputable abbrev I36_0 : Option R := inner T an36 (modesOf F) 0 k 47 (S36 k) (E36 K) cd36_0 (sh sp36_0 ws rs) N X
abbrev aa36_0 : List Sh := [zv, zv, zv]
abbrev ab36_0 : List RSh := []
noncomputable def L36_0 : Option R :=
  onShape aa36_0 ab36_0 (fun v => f36_0 k (fun p0 => N (sh jn36_0 [zi p0] [])) k v.1.1 v.1.2.1 v.1.2.2.1) (I36_0 k K ws rs N X) ws rs
noncomputable abbrev I36_1000016 : Option R := inner T an36 (modesOf F) 0 k 47 (S36 k) (E36 K) cd36_1000016 (sh sp36_1000016 ws rs) N X
abbrev aa36_1000016 : List Sh := [zv, zv, zv, .val [] .bool]
abbrev ab36_1000016 : List RSh := []
noncomputable def L36_1000016 : Option R :=
  onShape aa36_1000016 ab36_1000016 (fun v => f36_1000016 k (fun p0 => N (sh fi36_16 [zi p0, zi v.1.2.1, zi v.1.2.2.1] [])) v.1.1 v.1.2.2.1 v.1.2.2.2.1) (I36_1000016 k K ws rs N X) ws rs
noncomputable abbrev I36_2 : Option R := inner T an36 (modesOf F) 0 k 47 (S36 k) (E36 K) cd36_2 (sh sp36_2 ws rs) N X
abbrev aa36_2 : List Sh := [zv, zv, zv]
abbrev ab36_2 : List RSh := []
noncomputable def L36_2 : Option R :=
  onShape aa36_2 ab36_2 (fun v => f36_2 k (fun p0 => N (sh jn36_2 [zi p0] [])) v.1.2.1 k v.1.1 v.1.2.2.1) (I36_2 k K ws rs N X) ws rs
noncomputable abbrev I36_1000018 : Option R := inner T an36 (modesOf F) 0 k 47 (S36 k) (E36 K) cd36_1000018 (sh sp36_1000018 ws rs) N X
abbrev aa36_1000018 : List Sh := [zv, .val [] .bool]
abbrev ab36_1000018 : List RSh := []
noncomputable def L36_1000018 : Option R :=
  onShape aa36_1000018 ab36_1000018 (fun v => f36_1000018 k (fun p0 => N (sh fi36_18 [zi p0] [])) v.1.1 v.1.2.1) (I36_1000018 k K ws rs N X) ws rs
noncomputable def L36 : Option R := bif id == 1000009 then L36_1000009 k K ws rs N X else bif id == 1000008 then L36_1000008 k K ws rs N X else bif id == 0 then L36_0 k K ws rs N X else bif id == 1000016 then L36_1000016 k K ws rs N X else bif id == 2 then L36_2 k K ws rs N X else bif id == 1000018 then L36_1000018 k K ws rs N X else none
theorem l36_1000009 : L36 k K 1000009 ws rs N X = I36_1000009 k K ws rs N X := by
  show L36_1000009 k K ws rs N X = _
  unfold L36_1000009
  rw [f36_1000009_def]
  exact lC (L36 k K) [] (by kernel_rfl) trivial fun x y => by kernel_rfl
theorem l36_1000008 : L36 k K 1000008 ws rs N X = I36_1000008 k K ws rs N X := by
  show L36_1000008 k K ws rs N X = _
  unfold L36_1000008
  rw [f36_1000008_def]
  exact lC (L36 k K) [(1000009, sp36_1000009, cd36_1000009)] (by kernel_rfl) ⟨l36_1000009 k K, trivial⟩ fun x y => by kernel_rfl
theorem i36_0 (m : Nat) : ∀ (c0 c1 c2 : Int),
    iter (atHead an36 0 bd36_0) m (fun st N' => exec T an36 (modesOf F) 0 k 47 (S36 k) (E36 K) bd36_0 st N' (outX an36 0 0 N X)) (sh sp36_0 [zi c0, zi c1, zi c2] []) = f36_0d k (fun p0 => N (sh jn36_0 [zi p0] [])) m c0 c1 c2 := by
  induction m with
  | zero => intros; rfl
  | succ m ih =>
    intro c0 c1 c2
    simp only [iter]
    rw [← execS_eq T an36 (modesOf F) 0 k 47 (S36 k) (L36 k K) bd36_0 (cuts_of _ _ _ _ _ _ _ _ bd36_0 (l := [(1000008, sp36_1000008, cd36_1000008)]) (by kernel_rfl) ⟨l36_1000008 k K, trivial⟩)]
    have h := fx3 ih
    simp only [f36_0d]
    rw [← h]
    show _ = _
    kernel_rfl
theorem l36_0 : L36 k K 0 ws rs N X = I36_0 k K ws rs N X := by
  show L36_0 k K ws rs N X = _
  unfold L36_0
  rw [f36_0_def]
  exact onShape_eq (a := aa36_0) (b := ab36_0) (G := fun ws rs => I36_0 k K ws rs N X) (fun x y => Eq.trans (by kernel_rfl) (Eq.trans (i36_0 k K N X k x.1 x.2.1 x.2.2.1).symm (by kernel_rfl))) ws rs
theorem l36_1000016 : L36 k K 1000016 ws rs N X = I36_1000016 k K ws rs N X := by
  show L36_1000016 k K ws rs N X = _
  unfold L36_1000016
  rw [f36_1000016_def]
  exact lC (L36 k K) [] (by kernel_rfl) trivial fun x y => by kernel_rfl
theorem i36_2 (c1 : Int) (m : Nat) : ∀ (c0 c2 : Int),
    iter (atHead an36 0 bd36_2) m (fun st N' => exec T an36 (modesOf F) 0 k 47 (S36 k) (E36 K) bd36_2 st N' (outX an36 0 2 N X)) (sh sp36_2 [zi c0, zi c1, zi c2] []) = f36_2d k (fun p0 => N (sh jn36_2 [zi p0] [])) c1 m c0 c2 := by
  induction m with
  | zero => intros; rfl
  | succ m ih =>
    intro c0 c2
    simp only [iter]
    rw [← execS_eq T an36 (modesOf F) 0 k 47 (S36 k) (L36 k K) bd36_2 (cuts_of _ _ _ _ _ _ _ _ bd36_2 (l := [(1000016, sp36_1000016, cd36_1000016)]) (by kernel_rfl) ⟨l36_1000016 k K, trivial⟩)]
    have h := fx2 ih
    simp only [f36_2d]
    rw [← h]
    show _ = _
    kernel_rfl
theorem l36_2 : L36 k K 2 ws rs N X = I36_2 k K ws rs N X := by
  show L36_2 k K ws rs N X = _
  unfold L36_2
  rw [f36_2_def]
  exact onShape_eq (a := aa36_2) (b := ab36_2) (G := fun ws rs => I36_2 k K ws rs N X) (fun x y => Eq.trans (by kernel_rfl) (Eq.trans (i36_2 k K N X x.2.1 k x.1 x.2.2.1).symm (by kernel_rfl))) ws rs
theorem l36_1000018 : L36 k K 1000018 ws rs N X = I36_1000018 k K ws rs N X := by
  show L36_1000018 k K ws rs N X = _
  unfold L36_1000018
  rw [f36_1000018_def]
  exact lC (L36 k K) [] (by kernel_rfl) trivial fun x y => by kernel_rfl
theorem tu36 : tOk (R := R) 36 aa36 ab36 g36 := by
  intro k x y K
  unfold g36
  rw [f36_def]
  cases k with
  | zero => rfl
  | succ k => exact eS Tryz.f36 an36 0 47 (L36 k K) [(0, sp36_0, cd36_0), (2, sp36_2, cd36_2), (1000018, sp36_1000018, cd36_1000018)] (by kernel_rfl) (S36_eq k) (by kernel_rfl) ⟨l36_0 k K, l36_2 k K, l36_1000018 k K, trivial⟩ (by kernel_rfl)
noncomputable def s36 := onS (R := R) aa36 ab36 g36 (fun k => callC T F k 36)
theorem s36_eq : sOk (R := R) s36 36 := onS_eq (fun _ _ _ _ => rfl) tu36
noncomputable abbrev kt75 : Int → Option R := (fun z0 => K [zi z0] [])
abbrev aa75 : List Sh := [.val [(0, 0)] zT2]
abbrev ab75 : List RSh := []
noncomputable def g75 (k : Nat) (v : Sh.D.DL aa75 × RSh.DL ab75) (K : KT R) : Option R := f75 k v.1.1 (kt75 K)
noncomputable abbrev E75 := ending T Tryz.f75 an75 0 K
noncomputable def S75 := pickS (R := R) []
theorem S75_eq : ∀ k, S75 (R := R) k = callC T F k := pickS_eq trivial
noncomputable abbrev I75_1000011 : Option R := inner T an75 (modesOf F) 0 k 31 (S75 k) (E75 K) cd75_1000011 (sh sp75_1000011 ws rs) N X
abbrev aa75_1000011 : List Sh := [zv, .val [(0, 0)] zT2, zv, zv, zv, .val [] .bool]
abbrev ab75_1000011 : List RSh := []
noncomputable def L75_1000011 : Option R :=
  onShape aa75_1000011 ab75_1000011 (fun v => f75_1000011 k (fun p0 => N (sh fi75_11 [zi p0, .val [(0, 0)] zT2 v.1.2.1, zi v.1.2.2.1, zi v.1.2.2.2.1, zi v.1.2.2.2.2.1] [])) v.1.1 v.1.2.2.2.2.2.1) (I75_1000011 k K ws rs N X) ws rs
noncomputable abbrev I75_2 : Option R := inner T an75 (modesOf F) 0 k 31 (S75 k) (E75 K) cd75_2 (sh sp75_2 ws rs) N X
abbrev aa75_2 : List Sh := [zv, .val [(0, 0)] zT2, zv, zv, zv]
abbrev ab75_2 : List RSh := []
noncomputable def L75_2 : Option R :=
  onShape aa75_2 ab75_2 (fun v => f75_2 k (fun p0 => N (sh jn75_2 [zi p0, .val [(0, 0)] zT2 v.1.2.1, zi v.1.2.2.1, zi v.1.2.2.2.1] [])) v.1.2.1 v.1.2.2.1 v.1.2.2.2.1 k v.1.1 v.1.2.2.2.2.1) (I75_2 k K ws rs N X) ws rs
noncomputable abbrev I75_0 : Option R := inner T an75 (modesOf F) 0 k 31 (S75 k) (E75 K) cd75_0 (sh sp75_0 ws rs) N X
abbrev aa75_0 : List Sh := [zv, .val [(0, 0)] zT2, zv, zv]
abbrev ab75_0 : List RSh := []
noncomputable def L75_0 : Option R :=
  onShape aa75_0 ab75_0 (fun v => f75_0 k (fun p0 => N (sh jn75_0 [zi p0] [])) v.1.2.1 v.1.2.2.1 k v.1.1 v.1.2.2.2.1) (I75_0 k K ws rs N X) ws rs
noncomputable def L75 : Option R := bif id == 1000011 then L75_1000011 k K ws rs N X else bif id == 2 then L75_2 k K ws rs N X else bif id == 0 then L75_0 k K ws rs N X else none
theorem l75_1000011 : L75 k K 1000011 ws rs N X = I75_1000011 k K ws rs N X := by
  show L75_1000011 k K ws rs N X = _
  unfold L75_1000011
  rw [f75_1000011_def]
  exact lC (L75 k K) [] (by kernel_rfl) trivial fun x y => by kernel_rfl
theorem i75_2 (c1 : List Int) (c2 c3 : Int) (m : Nat) : ∀ (c0 c4 : Int),
    iter (atHead an75 0 bd75_2) m (fun st N' => exec T an75 (modesOf F) 0 k 31 (S75 k) (E75 K) bd75_2 st N' (outX an75 0 2 N X)) (sh sp75_2 [zi c0, .val [(0, 0)] zT2 c1, zi c2, zi c3, zi c4] []) = f75_2d k (fun p0 => N (sh jn75_2 [zi p0, .val [(0, 0)] zT2 c1, zi c2, zi c3] [])) c1 c2 c3 m c0 c4 := by
  induction m with
  | zero => intros; rfl
  | succ m ih =>
    intro c0 c4
    simp only [iter]
    rw [← execS_eq T an75 (modesOf F) 0 k 31 (S75 k) (L75 k K) bd75_2 (cuts_of _ _ _ _ _ _ _ _ bd75_2 (l := [(1000011, sp75_1000011, cd75_1000011)]) (by kernel_rfl) ⟨l75_1000011 k K, trivial⟩)]
    have h := fx2 ih
    simp only [f75_2d]
    rw [← h]
    show _ = _
    kernel_rfl
theorem l75_2 : L75 k K 2 ws rs N X = I75_2 k K ws rs N X := by
  show L75_2 k K ws rs N X = _
  unfold L75_2
  rw [f75_2_def]
  exact onShape_eq (a := aa75_2) (b := ab75_2) (G := fun ws rs => I75_2 k K ws rs N X) (fun x y => Eq.trans (by kernel_rfl) (Eq.trans (i75_2 k K N X x.2.1 x.2.2.1 x.2.2.2.1 k x.1 x.2.2.2.2.1).symm (by kernel_rfl))) ws rs
theorem i75_0 (c1 : List Int) (c2 : Int) (m : Nat) : ∀ (c0 c3 : Int),
    iter (atHead an75 0 bd75_0) m (fun st N' => exec T an75 (modesOf F) 0 k 31 (S75 k) (E75 K) bd75_0 st N' (outX an75 0 0 N X)) (sh sp75_0 [zi c0, .val [(0, 0)] zT2 c1, zi c2, zi c3] []) = f75_0d k (fun p0 => N (sh jn75_0 [zi p0] [])) c1 c2 m c0 c3 := by
  induction m with
  | zero => intros; rfl
  | succ m ih =>
    intro c0 c3
    simp only [iter]
    rw [← execS_eq T an75 (modesOf F) 0 k 31 (S75 k) (L75 k K) bd75_0 (cuts_of _ _ _ _ _ _ _ _ bd75_0 (l := [(2, sp75_2, cd75_2)]) (by kernel_rfl) ⟨l75_2 k K, trivial⟩)]
    have h := fx2 ih
    simp only [f75_0d]
    rw [← h]
    show _ = _
    kernel_rfl
theorem l75_0 : L75 k K 0 ws rs N X = I75_0 k K ws rs N X := by
  show L75_0 k K ws rs N X = _
  unfold L75_0
  rw [f75_0_def]
  exact onShape_eq (a := aa75_0) (b := ab75_0) (G := fun ws rs => I75_0 k K ws rs N X) (fun x y => Eq.trans (by kernel_rfl) (Eq.trans (i75_0 k K N X x.2.1 x.2.2.1 k x.1 x.2.2.2.1).symm (by kernel_rfl))) ws rs
theorem tu75 : tOk (R := R) 75 aa75 ab75 g75 := by
  intro k x y K
  unfold g75
  rw [f75_def]
  cases k with
  | zero => rfl
  | succ k => exact eS Tryz.f75 an75 0 31 (L75 k K) [(0, sp75_0, cd75_0)] (by kernel_rfl) (S75_eq k) (by kernel_rfl) ⟨l75_0 k K, trivial⟩ (by kernel_rfl)
noncomputable def s75 := onS (R := R) aa75 ab75 g75 (fun k => callC T F k 75)
theorem s75_eq : sOk (R := R) s75 75 := onS_eq (fun _ _ _ _ => rfl) tu75
noncomputable abbrev kt37 : Int → Int → Option R := (fun z0 z1 => K [zi z0, zi z1] [])
abbrev aa37 : List Sh := [.val [(0, 0)] zT2]
abbrev ab37 : List RSh := []
noncomputable def g37 (k : Nat) (v : Sh.D.DL aa37 × RSh.DL ab37) (K : KT R) : Option R := f37 k v.1.1 (kt37 K)
noncomputable abbrev E37 := ending T Tryz.f37 an37 0 K
noncomputable def S37 := pickS (R := R) [(75, s75)]
theorem S37_eq : ∀ k, S37 (R := R) k = callC T F k := pickS_eq ⟨s75_eq, trivial⟩
theorem tu37 : tOk (R := R) 37 aa37 ab37 g37 := by
  intro k x y K
  unfold g37
  rw [f37_def]
  cases k with
  | zero => rfl
  | succ k => exact eS Tryz.f37 an37 0 9 L0 [] (by kernel_rfl) (S37_eq k) (by kernel_rfl) trivial (by kernel_rfl)
noncomputable def s37 := onS (R := R) aa37 ab37 g37 (fun k => callC T F k 37)
theorem s37_eq : sOk (R := R) s37 37 := onS_eq (fun _ _ _ _ => rfl) tu37
noncomputable abbrev kt38 : Int → Option R := (fun z0 => K [zi z0] [])
abbrev aa38 : List Sh := [.val [(0, 0)] zT2]
abbrev ab38 : List RSh := []
noncomputable def g38 (k : Nat) (v : Sh.D.DL aa38 × RSh.DL ab38) (K : KT R) : Option R := f38 k v.1.1 (kt38 K)
noncomputable abbrev E38 := ending T Tryz.f38 an38 0 K
noncomputable def S38 := pickS (R := R) []
theorem S38_eq : ∀ k, S38 (R := R) k = callC T F k := pickS_eq trivial
noncomputable abbrev I38_1000010 : Option R := inner T an38 (modesOf F) 0 k 29 (S38 k) (E38 K) cd38_1000010 (sh sp38_1000010 ws rs) N X
abbrev aa38_1000010 : List Sh := [zv, .val [(0, 0)] zT2, zv, zv, zv, .val [] .bool]
abbrev ab38_1000010 : List RSh := []
noncomputable def L38_1000010 : Option R :=
  onShape aa38_1000010 ab38_1000010 (fun v => f38_1000010 k (fun p0 => N (sh fi38_10 [zi p0, .val [(0, 0)] zT2 v.1.2.1, zi v.1.2.2.1, zi v.1.2.2.2.1, zi v.1.2.2.2.2.1] [])) v.1.1 v.1.2.2.2.2.2.1) (I38_1000010 k K ws rs N X) ws rs
noncomputable abbrev I38_2 : Option R := inner T an38 (modesOf F) 0 k 29 (S38 k) (E38 K) cd38_2 (sh sp38_2 ws rs) N X
abbrev aa38_2 : List Sh := [zv, .val [(0, 0)] zT2, zv, zv, zv]
abbrev ab38_2 : List RSh := []
noncomputable def L38_2 : Option R :=
  onShape aa38_2 ab38_2 (fun v => f38_2 k (fun p0 => N (sh jn38_2 [zi p0, .val [(0, 0)] zT2 v.1.2.1, zi v.1.2.2.1, zi v.1.2.2.2.1] [])) v.1.2.1 v.1.2.2.1 v.1.2.2.2.1 k v.1.1 v.1.2.2.2.2.1) (I38_2 k K ws rs N X) ws rs
noncomputable abbrev I38_0 : Option R := inner T an38 (modesOf F) 0 k 29 (S38 k) (E38 K) cd38_0 (sh sp38_0 ws rs) N X
abbrev aa38_0 : List Sh := [zv, .val [(0, 0)] zT2, zv, zv]
abbrev ab38_0 : List RSh := []
noncomputable def L38_0 : Option R :=
  onShape aa38_0 ab38_0 (fun v => f38_0 k (fun p0 => N (sh jn38_0 [zi p0] [])) v.1.2.1 v.1.2.2.1 k v.1.1 v.1.2.2.2.1) (I38_0 k K ws rs N X) ws rs
noncomputable def L38 : Option R := bif id == 1000010 then L38_1000010 k K ws rs N X else bif id == 2 then L38_2 k K ws rs N X else bif id == 0 then L38_0 k K ws rs N X else none
theorem l38_1000010 : L38 k K 1000010 ws rs N X = I38_1000010 k K ws rs N X := by
  show L38_1000010 k K ws rs N X = _
  unfold L38_1000010
  rw [f38_1000010_def]
  exact lC (L38 k K) [] (by kernel_rfl) trivial fun x y => by kernel_rfl
theorem i38_2 (c1 : List Int) (c2 c3 : Int) (m : Nat) : ∀ (c0 c4 : Int),
    iter (atHead an38 0 bd38_2) m (fun st N' => exec T an38 (modesOf F) 0 k 29 (S38 k) (E38 K) bd38_2 st N' (outX an38 0 2 N X)) (sh sp38_2 [zi c0, .val [(0, 0)] zT2 c1, zi c2, zi c3, zi c4] []) = f38_2d k (fun p0 => N (sh jn38_2 [zi p0, .val [(0, 0)] zT2 c1, zi c2, zi c3] [])) c1 c2 c3 m c0 c4 := by
  induction m with
  | zero => intros; rfl
  | succ m ih =>
    intro c0 c4
    simp only [iter]
    rw [← execS_eq T an38 (modesOf F) 0 k 29 (S38 k) (L38 k K) bd38_2 (cuts_of _ _ _ _ _ _ _ _ bd38_2 (l := [(1000010, sp38_1000010, cd38_1000010)]) (by kernel_rfl) ⟨l38_1000010 k K, trivial⟩)]
    have h := fx2 ih
    simp only [f38_2d]
    rw [← h]
    show _ = _
    kernel_rfl
theorem l38_2 : L38 k K 2 ws rs N X = I38_2 k K ws rs N X := by
  show L38_2 k K ws rs N X = _
  unfold L38_2
  rw [f38_2_def]
  exact onShape_eq (a := aa38_2) (b := ab38_2) (G := fun ws rs => I38_2 k K ws rs N X) (fun x y => Eq.trans (by kernel_rfl) (Eq.trans (i38_2 k K N X x.2.1 x.2.2.1 x.2.2.2.1 k x.1 x.2.2.2.2.1).symm (by kernel_rfl))) ws rs
theorem i38_0 (c1 : List Int) (c2 : Int) (m : Nat) : ∀ (c0 c3 : Int),
    iter (atHead an38 0 bd38_0) m (fun st N' => exec T an38 (modesOf F) 0 k 29 (S38 k) (E38 K) bd38_0 st N' (outX an38 0 0 N X)) (sh sp38_0 [zi c0, .val [(0, 0)] zT2 c1, zi c2, zi c3] []) = f38_0d k (fun p0 => N (sh jn38_0 [zi p0] [])) c1 c2 m c0 c3 := by
  induction m with
  | zero => intros; rfl
  | succ m ih =>
    intro c0 c3
    simp only [iter]
    rw [← execS_eq T an38 (modesOf F) 0 k 29 (S38 k) (L38 k K) bd38_0 (cuts_of _ _ _ _ _ _ _ _ bd38_0 (l := [(2, sp38_2, cd38_2)]) (by kernel_rfl) ⟨l38_2 k K, trivial⟩)]
    have h := fx2 ih
    simp only [f38_0d]
    rw [← h]
    show _ = _
    kernel_rfl
theorem l38_0 : L38 k K 0 ws rs N X = I38_0 k K ws rs N X := by
  show L38_0 k K ws rs N X = _
  unfold L38_0
  rw [f38_0_def]
  exact onShape_eq (a := aa38_0) (b := ab38_0) (G := fun ws rs => I38_0 k K ws rs N X) (fun x y => Eq.trans (by kernel_rfl) (Eq.trans (i38_0 k K N X x.2.1 x.2.2.1 k x.1 x.2.2.2.1).symm (by kernel_rfl))) ws rs
theorem tu38 : tOk (R := R) 38 aa38 ab38 g38 := by
  intro k x y K
  unfold g38
  rw [f38_def]
  cases k with
  | zero => rfl
  | succ k => exact eS Tryz.f38 an38 0 29 (L38 k K) [(0, sp38_0, cd38_0)] (by kernel_rfl) (S38_eq k) (by kernel_rfl) ⟨l38_0 k K, trivial⟩ (by kernel_rfl)
noncomputable def s38 := onS (R := R) aa38 ab38 g38 (fun k => callC T F k 38)
theorem s38_eq : sOk (R := R) s38 38 := onS_eq (fun _ _ _ _ => rfl) tu38
noncomputable abbrev kt13 : Bool → Option R := (fun z0 => K [.val [] .bool z0] [])
abbrev aa13 : List Sh := []
abbrev ab13 : List RSh := []
noncomputable def g13 (k : Nat) (v : Sh.D.DL aa13 × RSh.DL ab13) (K : KT R) : Option R := f13 k (kt13 K)
noncomputable abbrev E13 := ending T Tryz.f13 an13 0 K
noncomputable def S13 := pickS (R := R) [(36, s36), (37, s37), (38, s38)]
theorem S13_eq : ∀ k, S13 (R := R) k = callC T F k := pickS_eq ⟨s36_eq, s37_eq, s38_eq, trivial⟩
theorem tu13 : tOk (R := R) 13 aa13 ab13 g13 := by
  intro k x y K
  unfold g13
  rw [f13_def]
  cases k with
  | zero => rfl
  | succ k => exact eS Tryz.f13 an13 0 32 L0 [] (by kernel_rfl) (S13_eq k) (by kernel_rfl) trivial (by kernel_rfl)
noncomputable def s13 := onS (R := R) aa13 ab13 g13 (fun k => callC T F k 13)
theorem s13_eq : sOk (R := R) s13 13 := onS_eq (fun _ _ _ _ => rfl) tu13
end Go.Proofs.YtoepnomdklhhlaaGreat.PM
