/- The small machine's run is the typed form (printed by a program of this work). -/
import Derived.Test.YtoepnomdklhhlaaPW0
set_option linter.unusedVariables false
set_option linter.unusedSimpArgs false
set_option maxRecDepth 100000
namespace Go.Proofs.Ytoepnomdklhhlaa.PM
open Go
variable {R : Type} (k : Nat) (K : KT R) (id : Nat) (ws : List PV) (rs : List RowS) (N : St → Option R) (X : Nat → St → Option R)
noncomputable abbrev kt30 : zK3 R := (fun z0 z1 z2 z3 z4 z5 z6 z7 z8 z9 z10 z11 z12 z13 z14 z15 z16 z17 z18 z19 z20 z21 z22 z23 z24 z25 z26 z27 z28 => K [] [zr1 z0 z1 z2 z3 z4 z5 z6 z7 z8 z9 z10 z11 z12 z13 z14 z15 z16 z17 z18 z19 z20 z21 z22 z23 z24 z25 z26, ⟨0, .gone⟩, ⟨0, .gone⟩, zr2 z27, zr2 z28])
abbrev aa30 : List Sh := [.ptr 1 25, zv, .val [(0, 0)] (.slice zP0)]
abbrev ab30 : List RSh := [zs0, .arr [(0, 0)] zP2, .arr [(0, 0)] zP2]
noncomputable def g30 (k : Nat) (v : Sh.D.DL aa30 × RSh.DL ab30) (K : KT R) : Option R := let u0 := v.2.1.2.2.2.2.2.2.2; let u1 := u0.2.2.2.2.2.2.2; let u2 := u1.2.2.2.2.2.2.2; f30 k v.1.2.1 v.1.2.2.1 v.2.1.1 v.2.1.2.1 v.2.1.2.2.1 v.2.1.2.2.2.1 v.2.1.2.2.2.2.1 v.2.1.2.2.2.2.2.1 v.2.1.2.2.2.2.2.2.1 v.2.1.2.2.2.2.2.2.2.1 u0.2.1 u0.2.2.1 u0.2.2.2.1 u0.2.2.2.2.1 u0.2.2.2.2.2.1 u0.2.2.2.2.2.2.1 u0.2.2.2.2.2.2.2.1 u1.2.1 u1.2.2.1 u1.2.2.2.1 u1.2.2.2.2.1 u1.2.2.2.2.2.1 u1.2.2.2.2.2.2.1 u1.2.2.2.2.2.2.2.1 u2.2.1 u2.2.2.1 u2.2.2.2.2.1 u2.2.2.2.2.2.1 u2.2.2.2.2.2.2.2.1 v.2.2.1 v.2.2.2.1 (kt30 K)
noncomputable abbrev E30 := ending T Try.f30 an30 3 K
noncomputable def S30 := pickS (R := R) []
theorem S30_eq : ∀ k, S30 (R := R) k = callC T F k := pickS_eq trivial
noncomputable abbrev I30_1000004 : Option R := inner T an30 (modesOf F) 3 k 57 (S30 k) (E30 K) cd30_1000004 (sh sp30_1000004 ws rs) N X
abbrev aa30_1000004 : List Sh := [.ptr 1 25, zv, .ptr 6 0, .val [(0, 0)] (.slice zP0), zv, zv, .val [] .bool]
abbrev ab30_1000004 : List RSh := [zs1, .gone, .gone, .arr [(0, 0)] zP2, .arr [(0, 0)] zP2, zs3]
noncomputable def L30_1000004 : Option R :=
 onShape aa30_1000004 ab30_1000004 (fun v => let u0 := v.2.1.2.2.2.2.2.2.2; let u1 := u0.2.2.2.2.2.2.2; let u2 := u1.2.2.2.2.2.2.2; let u3 := v.2.2.2.2.2.2.1.2.2.2.2.2.2.2; f30_1000004 k (fun p32 => N (sh fi30_4 [.ptr 1 25, zi v.1.2.1, .val [(0, 0)] (.slice zP0) v.1.2.2.2.1, zi v.1.2.2.2.2.1, zi v.1.2.2.2.2.2.1] [zr1 v.2.1.1 v.2.1.2.1 v.2.1.2.2.1 v.2.1.2.2.2.1 v.2.1.2.2.2.2.1 v.2.1.2.2.2.2.2.1 v.2.1.2.2.2.2.2.2.1 v.2.1.2.2.2.2.2.2.2.1 u0.2.1 u0.2.2.1 u0.2.2.2.1 u0.2.2.2.2.1 u0.2.2.2.2.2.1 u0.2.2.2.2.2.2.1 u0.2.2.2.2.2.2.2.1 u1.2.1 u1.2.2.1 u1.2.2.2.1 u1.2.2.2.2.1 u1.2.2.2.2.2.1 u1.2.2.2.2.2.2.1 u1.2.2.2.2.2.2.2.1 u2.2.1 u2.2.2.1 u2.2.2.2.2.1 u2.2.2.2.2.2.1 u2.2.2.2.2.2.2.2.1, ⟨0, .gone⟩, ⟨0, .gone⟩, zr2 v.2.2.2.2.1, zr2 p32])) v.1.2.1 v.1.2.2.2.2.2.2.1 v.2.2.2.2.2.1 v.2.2.2.2.2.2.1.1 v.2.2.2.2.2.2.1.2.1 v.2.2.2.2.2.2.1.2.2.1 v.2.2.2.2.2.2.1.2.2.2.1 v.2.2.2.2.2.2.1.2.2.2.2.1 v.2.2.2.2.2.2.1.2.2.2.2.2.1 v.2.2.2.2.2.2.1.2.2.2.2.2.2.1 v.2.2.2.2.2.2.1.2.2.2.2.2.2.2.1 u3.2.1) (I30_1000004 k K ws rs N X) ws rs
noncomputable abbrev I30_0 : Option R := inner T an30 (modesOf F) 3 k 57 (S30 k) (E30 K) cd30_0 (sh sp30_0 ws rs) N X
abbrev aa30_0 : List Sh := [.ptr 1 25, zv, .val [(0, 0)] (.slice zP0), zv, zv]
abbrev ab30_0 : List RSh := [zs1, .gone, .gone, .arr [(0, 0)] zP2, .arr [(0, 0)] zP2]
noncomputable def L30_0 : Option R :=
 onShape aa30_0 ab30_0 (fun v => let u0 := v.2.1.2.2.2.2.2.2.2; let u1 := u0.2.2.2.2.2.2.2; let u2 := u1.2.2.2.2.2.2.2; f30_0 k (fun p25 p28 => N (sh jn30_0 [] [zr1 v.2.1.1 v.2.1.2.1 v.2.1.2.2.1 v.2.1.2.2.2.1 v.2.1.2.2.2.2.1 v.2.1.2.2.2.2.2.1 v.2.1.2.2.2.2.2.2.1 v.2.1.2.2.2.2.2.2.2.1 u0.2.1 u0.2.2.1 u0.2.2.2.1 u0.2.2.2.2.1 u0.2.2.2.2.2.1 u0.2.2.2.2.2.2.1 u0.2.2.2.2.2.2.2.1 u1.2.1 u1.2.2.1 u1.2.2.2.1 u1.2.2.2.2.1 u1.2.2.2.2.2.1 u1.2.2.2.2.2.2.1 u1.2.2.2.2.2.2.2.1 u2.2.1 u2.2.2.1 u2.2.2.2.2.1 p25 u2.2.2.2.2.2.2.2.1, ⟨0, .gone⟩, ⟨0, .gone⟩, zr2 v.2.2.2.2.1, zr2 p28])) v.1.2.1 v.1.2.2.1 v.1.2.2.2.1 v.2.1.1 v.2.1.2.1 v.2.1.2.2.1 v.2.1.2.2.2.1 v.2.1.2.2.2.2.1 v.2.1.2.2.2.2.2.1 v.2.1.2.2.2.2.2.2.1 v.2.1.2.2.2.2.2.2.2.1 u0.2.1 u0.2.2.1 u0.2.2.2.1 u0.2.2.2.2.1 u0.2.2.2.2.2.1 u0.2.2.2.2.2.2.1 u0.2.2.2.2.2.2.2.1 u1.2.1 u1.2.2.1 u1.2.2.2.1 u1.2.2.2.2.1 u1.2.2.2.2.2.1 u1.2.2.2.2.2.2.1 u1.2.2.2.2.2.2.2.1 u2.2.1 u2.2.2.1 u2.2.2.2.2.1 u2.2.2.2.2.2.2.2.1 v.2.2.2.2.1 k v.1.2.2.2.2.1 u2.2.2.2.2.2.1 v.2.2.2.2.2.1) (I30_0 k K ws rs N X) ws rs
noncomputable def L30 : Option R := bif id == 1000004 then L30_1000004 k K ws rs N X else bif id == 0 then L30_0 k K ws rs N X else none
theorem l30_1000004 : L30 k K 1000004 ws rs N X = I30_1000004 k K ws rs N X := by
 show L30_1000004 k K ws rs N X = _
 unfold L30_1000004
 rw [f30_1000004_def]
 exact lC (L30 k K) [] (by kernel_rfl) trivial fun x y => by kernel_rfl
theorem i30_0 (c0 : Int) (c1 : zL2) (c2 c4 c5 c6 c7 c8 c9 c10 : Int) (c11 : ByteArray) (c12 : List Int) (c13 : Int) (c14 : zL5) (c15 c16 c17 c18 : Int) (c19 : ByteArray) (c20 : List Int) (c21 : zL5) (c22 c23 c24 c25 : Int) (c26 : List Bool) (c27 : Int) (c28 : List Bool) (c30 : Int) (c31 : zL1) (m : Nat) : ∀ (c3 c29 : Int) (c32 : zL1),
  iter (atHead an30 3 bd30_0) m (fun st N' => exec T an30 (modesOf F) 3 k 57 (S30 k) (E30 K) bd30_0 st N' (outX an30 3 0 N X)) (sh sp30_0 [.ptr 1 25, zi c0, .val [(0, 0)] (.slice zP0) c1, zi c2, zi c3] [zr1 c4 c5 c6 c7 c8 c9 c10 c11 c12 c13 c14 c15 c16 c17 c18 c19 c20 c21 c22 c23 c24 c25 c26 c27 c28 c29 c30, ⟨0, .gone⟩, ⟨0, .gone⟩, zr2 c31, zr2 c32]) = f30_0d k (fun p25 p28 => N (sh jn30_0 [] [zr1 c4 c5 c6 c7 c8 c9 c10 c11 c12 c13 c14 c15 c16 c17 c18 c19 c20 c21 c22 c23 c24 c25 c26 c27 c28 p25 c30, ⟨0, .gone⟩, ⟨0, .gone⟩, zr2 c31, zr2 p28])) c0 c1 c2 c4 c5 c6 c7 c8 c9 c10 c11 c12 c13 c14 c15 c16 c17 c18 c19 c20 c21 c22 c23 c24 c25 c26 c27 c28 c30 c31 m c3 c29 c32 := by
 induction m with
 | zero => intros; rfl
 | succ m ih =>
   intro c3 c29 c32
   simp only [iter]
   rw [← execS_eq T an30 (modesOf F) 3 k 57 (S30 k) (L30 k K) bd30_0 (cuts_of _ _ _ _ _ _ _ _ bd30_0 (l := [(1000004, sp30_1000004, cd30_1000004)]) (by kernel_rfl) ⟨l30_1000004 k K, trivial⟩)]
   have h := fx3 ih
   simp only [f30_0d]
   rw [← h]
   show _ = _
   kernel_rfl
theorem l30_0 : L30 k K 0 ws rs N X = I30_0 k K ws rs N X := by
 show L30_0 k K ws rs N X = _
 unfold L30_0
 rw [f30_0_def]
 exact onShape_eq (a := aa30_0) (b := ab30_0) (G := fun ws rs => I30_0 k K ws rs N X) (fun x y => Eq.trans (by kernel_rfl) (Eq.trans (i30_0 k K N X x.2.1 x.2.2.1 x.2.2.2.1 y.1.1 y.1.2.1 y.1.2.2.1 y.1.2.2.2.1 y.1.2.2.2.2.1 y.1.2.2.2.2.2.1 y.1.2.2.2.2.2.2.1 y.1.2.2.2.2.2.2.2.1 y.1.2.2.2.2.2.2.2.2.1 y.1.2.2.2.2.2.2.2.2.2.1 y.1.2.2.2.2.2.2.2.2.2.2.1 y.1.2.2.2.2.2.2.2.2.2.2.2.1 y.1.2.2.2.2.2.2.2.2.2.2.2.2.1 y.1.2.2.2.2.2.2.2.2.2.2.2.2.2.1 y.1.2.2.2.2.2.2.2.2.2.2.2.2.2.2.1 y.1.2.2.2.2.2.2.2.2.2.2.2.2.2.2.2.1 y.1.2.2.2.2.2.2.2.2.2.2.2.2.2.2.2.2.1 y.1.2.2.2.2.2.2.2.2.2.2.2.2.2.2.2.2.2.1 y.1.2.2.2.2.2.2.2.2.2.2.2.2.2.2.2.2.2.2.1 y.1.2.2.2.2.2.2.2.2.2.2.2.2.2.2.2.2.2.2.2.1 y.1.2.2.2.2.2.2.2.2.2.2.2.2.2.2.2.2.2.2.2.2.1 y.1.2.2.2.2.2.2.2.2.2.2.2.2.2.2.2.2.2.2.2.2.2.1 y.1.2.2.2.2.2.2.2.2.2.2.2.2.2.2.2.2.2.2.2.2.2.2.1 y.1.2.2.2.2.2.2.2.2.2.2.2.2.2.2.2.2.2.2.2.2.2.2.2.1 y.1.2.2.2.2.2.2.2.2.2.2.2.2.2.2.2.2.2.2.2.2.2.2.2.2.2.1 y.1.2.2.2.2.2.2.2.2.2.2.2.2.2.2.2.2.2.2.2.2.2.2.2.2.2.2.2.2.1 y.2.2.2.1 k x.2.2.2.2.1 y.1.2.2.2.2.2.2.2.2.2.2.2.2.2.2.2.2.2.2.2.2.2.2.2.2.2.2.1 y.2.2.2.2.1).symm (by kernel_rfl))) ws rs
theorem tu30 : tOk (R := R) 30 aa30 ab30 g30 := by
 intro k x y K
 unfold g30
 rw [f30_def]
 cases k with
 | zero => rfl
 | succ k => exact eS Try.f30 an30 3 57 (L30 k K) [(0, sp30_0, cd30_0)] (by kernel_rfl) (S30_eq k) (by kernel_rfl) ⟨l30_0 k K, trivial⟩ (by kernel_rfl)
noncomputable def s30 := onS (R := R) aa30 ab30 g30 (fun k => callC T F k 30)
theorem s30_eq : sOk (R := R) s30 30 := onS_eq (fun _ _ _ _ => rfl) tu30
noncomputable abbrev kt28v1 : zK1 R := (fun z0 z1 z2 z3 z4 z5 z6 z7 z8 z9 z10 z11 z12 z13 z14 z15 z16 z17 z18 z19 z20 z21 z22 z23 z24 z25 z26 z27 z28 z29 => K [.rw 6] [zr1 z0 z1 z2 z3 z4 z5 z6 z7 z8 z9 z10 z11 z12 z13 z14 z15 z16 z17 z18 z19 z20 z21 z22 z23 z24 z25 z26, ⟨0, .gone⟩, ⟨0, .gone⟩, zr2 z27, zr2 z28, zr3 z29])
abbrev aa28v1 : List Sh := [.ptr 1 25, zv]
abbrev ab28v1 : List RSh := [zs0, .arr [(0, 0)] zP2, .arr [(0, 0)] zP2]
noncomputable def g28v1 (k : Nat) (v : Sh.D.DL aa28v1 × RSh.DL ab28v1) (K : KT R) : Option R := let u0 := v.2.1.2.2.2.2.2.2.2; let u1 := u0.2.2.2.2.2.2.2; let u2 := u1.2.2.2.2.2.2.2; f28v1 k v.1.2.1 v.2.1.1 v.2.1.2.1 v.2.1.2.2.1 v.2.1.2.2.2.1 v.2.1.2.2.2.2.1 v.2.1.2.2.2.2.2.1 v.2.1.2.2.2.2.2.2.1 v.2.1.2.2.2.2.2.2.2.1 u0.2.1 u0.2.2.1 u0.2.2.2.1 u0.2.2.2.2.1 u0.2.2.2.2.2.1 u0.2.2.2.2.2.2.1 u0.2.2.2.2.2.2.2.1 u1.2.1 u1.2.2.1 u1.2.2.2.1 u1.2.2.2.2.1 u1.2.2.2.2.2.1 u1.2.2.2.2.2.2.1 u1.2.2.2.2.2.2.2.1 u2.2.1 u2.2.2.1 u2.2.2.2.2.1 u2.2.2.2.2.2.1 u2.2.2.2.2.2.2.2.1 v.2.2.1 v.2.2.2.1 (kt28v1 K)
noncomputable abbrev E28v1 := ending T Try.f28 an28 3 K
noncomputable def S28v1 := pickS (R := R) []
theorem S28v1_eq : ∀ k, S28v1 (R := R) k = callC T F k := pickS_eq trivial
noncomputable abbrev I28v1_0 : Option R := inner T an28 (modesOf F) 3 k 42 (S28v1 k) (E28v1 K) cd28_0 (sh sp28_0 ws rs) N X
abbrev aa28v1_0 : List Sh := [.ptr 1 25, zv, .rw 6]
abbrev ab28v1_0 : List RSh := [zs1, .gone, .gone, .arr [(0, 0)] zP2, .arr [(0, 0)] zP2, .arr [(0, 0)] zP0]
noncomputable def L28v1_0 : Option R :=
 onShape aa28v1_0 ab28v1_0 (fun v => let u0 := v.2.1.2.2.2.2.2.2.2; let u1 := u0.2.2.2.2.2.2.2; let u2 := u1.2.2.2.2.2.2.2; f28v1_0 k (fun p28 p29 => N (sh jn28_0 [.rw 6] [zr1 v.2.1.1 v.2.1.2.1 v.2.1.2.2.1 v.2.1.2.2.2.1 v.2.1.2.2.2.2.1 v.2.1.2.2.2.2.2.1 v.2.1.2.2.2.2.2.2.1 v.2.1.2.2.2.2.2.2.2.1 u0.2.1 u0.2.2.1 u0.2.2.2.1 u0.2.2.2.2.1 u0.2.2.2.2.2.1 u0.2.2.2.2.2.2.1 u0.2.2.2.2.2.2.2.1 u1.2.1 u1.2.2.1 u1.2.2.2.1 u1.2.2.2.2.1 u1.2.2.2.2.2.1 u1.2.2.2.2.2.2.1 u1.2.2.2.2.2.2.2.1 u2.2.1 u2.2.2.1 u2.2.2.2.2.1 u2.2.2.2.2.2.1 u2.2.2.2.2.2.2.2.1, ⟨0, .gone⟩, ⟨0, .gone⟩, zr2 v.2.2.2.2.1, zr2 p28, zr3 p29])) v.1.2.1 v.2.1.1 v.2.1.2.1 v.2.1.2.2.1 v.2.1.2.2.2.1 v.2.1.2.2.2.2.1 v.2.1.2.2.2.2.2.1 v.2.1.2.2.2.2.2.2.1 v.2.1.2.2.2.2.2.2.2.1 u0.2.1 u0.2.2.1 u0.2.2.2.1 u0.2.2.2.2.1 u0.2.2.2.2.2.1 u0.2.2.2.2.2.2.1 u0.2.2.2.2.2.2.2.1 u1.2.1 u1.2.2.1 u1.2.2.2.1 u1.2.2.2.2.1 u1.2.2.2.2.2.1 u1.2.2.2.2.2.2.1 u1.2.2.2.2.2.2.2.1 u2.2.1 u2.2.2.1 u2.2.2.2.2.1 u2.2.2.2.2.2.1 u2.2.2.2.2.2.2.2.1 v.2.2.2.2.1 k v.2.2.2.2.2.1 v.2.2.2.2.2.2.1) (I28v1_0 k K ws rs N X) ws rs
noncomputable def L28v1 : Option R := bif id == 0 then L28v1_0 k K ws rs N X else none
theorem i28v1_0 (c0 c1 c2 c3 c4 c5 c6 c7 : Int) (c8 : ByteArray) (c9 : List Int) (c10 : Int) (c11 : zL5) (c12 c13 c14 c15 : Int) (c16 : ByteArray) (c17 : List Int) (c18 : zL5) (c19 c20 c21 c22 : Int) (c23 : List Bool) (c24 : Int) (c25 : List Bool) (c26 c27 : Int) (c28 : zL1) (m : Nat) : ∀ (c29 : zL1) (c30 : zL3),
  iter (atHead an28 3 bd28_0) m (fun st N' => exec T an28 (modesOf F) 3 k 42 (S28v1 k) (E28v1 K) bd28_0 st N' (outX an28 3 0 N X)) (sh sp28_0 [.ptr 1 25, zi c0, .rw 6] [zr1 c1 c2 c3 c4 c5 c6 c7 c8 c9 c10 c11 c12 c13 c14 c15 c16 c17 c18 c19 c20 c21 c22 c23 c24 c25 c26 c27, ⟨0, .gone⟩, ⟨0, .gone⟩, zr2 c28, zr2 c29, zr3 c30]) = f28v1_0d k (fun p28 p29 => N (sh jn28_0 [.rw 6] [zr1 c1 c2 c3 c4 c5 c6 c7 c8 c9 c10 c11 c12 c13 c14 c15 c16 c17 c18 c19 c20 c21 c22 c23 c24 c25 c26 c27, ⟨0, .gone⟩, ⟨0, .gone⟩, zr2 c28, zr2 p28, zr3 p29])) c0 c1 c2 c3 c4 c5 c6 c7 c8 c9 c10 c11 c12 c13 c14 c15 c16 c17 c18 c19 c20 c21 c22 c23 c24 c25 c26 c27 c28 m c29 c30 := by
 induction m with
 | zero => intros; rfl
 | succ m ih =>
   intro c29 c30
   simp only [iter]
   rw [← execS_eq T an28 (modesOf F) 3 k 42 (S28v1 k) (L28v1 k K) bd28_0 (cuts_of _ _ _ _ _ _ _ _ bd28_0 (l := []) (by kernel_rfl) trivial)]
   have h := fx2 ih
   simp only [f28v1_0d]
   rw [← h]
   show _ = _
   kernel_rfl
theorem l28v1_0 : L28v1 k K 0 ws rs N X = I28v1_0 k K ws rs N X := by
 show L28v1_0 k K ws rs N X = _
 unfold L28v1_0
 rw [f28v1_0_def]
 exact onShape_eq (a := aa28v1_0) (b := ab28v1_0) (G := fun ws rs => I28v1_0 k K ws rs N X) (fun x y => Eq.trans (by kernel_rfl) (Eq.trans (i28v1_0 k K N X x.2.1 y.1.1 y.1.2.1 y.1.2.2.1 y.1.2.2.2.1 y.1.2.2.2.2.1 y.1.2.2.2.2.2.1 y.1.2.2.2.2.2.2.1 y.1.2.2.2.2.2.2.2.1 y.1.2.2.2.2.2.2.2.2.1 y.1.2.2.2.2.2.2.2.2.2.1 y.1.2.2.2.2.2.2.2.2.2.2.1 y.1.2.2.2.2.2.2.2.2.2.2.2.1 y.1.2.2.2.2.2.2.2.2.2.2.2.2.1 y.1.2.2.2.2.2.2.2.2.2.2.2.2.2.1 y.1.2.2.2.2.2.2.2.2.2.2.2.2.2.2.1 y.1.2.2.2.2.2.2.2.2.2.2.2.2.2.2.2.1 y.1.2.2.2.2.2.2.2.2.2.2.2.2.2.2.2.2.1 y.1.2.2.2.2.2.2.2.2.2.2.2.2.2.2.2.2.2.1 y.1.2.2.2.2.2.2.2.2.2.2.2.2.2.2.2.2.2.2.1 y.1.2.2.2.2.2.2.2.2.2.2.2.2.2.2.2.2.2.2.2.1 y.1.2.2.2.2.2.2.2.2.2.2.2.2.2.2.2.2.2.2.2.2.1 y.1.2.2.2.2.2.2.2.2.2.2.2.2.2.2.2.2.2.2.2.2.2.1 y.1.2.2.2.2.2.2.2.2.2.2.2.2.2.2.2.2.2.2.2.2.2.2.1 y.1.2.2.2.2.2.2.2.2.2.2.2.2.2.2.2.2.2.2.2.2.2.2.2.1 y.1.2.2.2.2.2.2.2.2.2.2.2.2.2.2.2.2.2.2.2.2.2.2.2.2.2.1 y.1.2.2.2.2.2.2.2.2.2.2.2.2.2.2.2.2.2.2.2.2.2.2.2.2.2.2.1 y.1.2.2.2.2.2.2.2.2.2.2.2.2.2.2.2.2.2.2.2.2.2.2.2.2.2.2.2.2.1 y.2.2.2.1 k y.2.2.2.2.1 y.2.2.2.2.2.1).symm (by kernel_rfl))) ws rs
theorem tu28v1 : tOk (R := R) 28 aa28v1 ab28v1 g28v1 := by
 intro k x y K
 unfold g28v1
 rw [f28v1_def]
 cases k with
 | zero => rfl
 | succ k => exact eS Try.f28 an28 3 42 (L28v1 k K) [(0, sp28_0, cd28_0)] (by kernel_rfl) (S28v1_eq k) (by kernel_rfl) ⟨l28v1_0 k K, trivial⟩ (by kernel_rfl)
noncomputable def s28v1 := onS (R := R) aa28v1 ab28v1 g28v1 s28
theorem s28v1_eq : sOk (R := R) s28v1 28 := onS_eq s28_eq tu28v1
noncomputable abbrev kt52 : zL5 → Bool → Option R := (fun z0 z1 => K [.val [(0, 0)] zT1 z0, .val [] .bool z1] [])
abbrev aa52 : List Sh := [.val [(0, 0)] zT1]
abbrev ab52 : List RSh := []
noncomputable def g52 (k : Nat) (v : Sh.D.DL aa52 × RSh.DL ab52) (K : KT R) : Option R := f52 k v.1.1 (kt52 K)
noncomputable abbrev E52 := ending T Try.f52 an52 0 K
noncomputable def S52 := pickS (R := R) [(53, s53)]
theorem S52_eq : ∀ k, S52 (R := R) k = callC T F k := pickS_eq ⟨s53_eq, trivial⟩
theorem tu52 : tOk (R := R) 52 aa52 ab52 g52 := by
 intro k x y K
 unfold g52
 rw [f52_def]
 cases k with
 | zero => rfl
 | succ k => exact eS Try.f52 an52 0 17 L0 [] (by kernel_rfl) (S52_eq k) (by kernel_rfl) trivial (by kernel_rfl)
noncomputable def s52 := onS (R := R) aa52 ab52 g52 (fun k => callC T F k 52)
theorem s52_eq : sOk (R := R) s52 52 := onS_eq (fun _ _ _ _ => rfl) tu52
noncomputable abbrev kt43 : zK4 R := (fun z0 z1 z2 z3 z4 z5 z6 z7 z8 => K [.agg [zi z0, zi z1, .val [] .str z2, .val [(0, 0)] zT2 z3, zi z4, .val [(0, 0)] zT1 z5, zi z6, zi z7], zi z8] [])
abbrev aa43 : List Sh := [.agg [zv, zv, .val [] .str, .val [(0, 0)] zT2, zv, .val [(0, 0)] zT1, zv, zv], .val [(0, 0)] zT1]
abbrev ab43 : List RSh := []
noncomputable def g43 (k : Nat) (v : Sh.D.DL aa43 × RSh.DL ab43) (K : KT R) : Option R := f43 k v.1.1.1 v.1.1.2.1 v.1.1.2.2.1 v.1.1.2.2.2.1 v.1.1.2.2.2.2.1 v.1.1.2.2.2.2.2.1 v.1.1.2.2.2.2.2.2.1 v.1.1.2.2.2.2.2.2.2.1 v.1.2.1 (kt43 K)
noncomputable abbrev E43 := ending T Try.f43 an43 0 K
noncomputable def S43 := pickS (R := R) [(50, s50), (51, s51), (52, s52)]
theorem S43_eq : ∀ k, S43 (R := R) k = callC T F k := pickS_eq ⟨s50_eq, s51_eq, s52_eq, trivial⟩
noncomputable abbrev I43_1000008 : Option R := inner T an43 (modesOf F) 0 k 67 (S43 k) (E43 K) cd43_1000008 (sh sp43_1000008 ws rs) N X
abbrev aa43_1000008 : List Sh := [.ptr 1 0, .ptr 2 0, .val [] .bool, .val [(0, 0)] zT1, .val [] .bool, .rw 3, .ptr 4 0, .val [(0, 0)] zT1, zv, zv, .val [] .bool]
abbrev ab43_1000008 : List RSh := [zs6, zs7, .arr [] zP1, .vars [zv, zv]]
noncomputable def L43_1000008 : Option R :=
 onShape aa43_1000008 ab43_1000008 (fun v => let u0 := v.1.2.2.2.2.2.2.2; f43_1000008 k (fun p20 => N (sh fi43_8 [.ptr 1 0, .ptr 2 0, .val [] .bool v.1.2.2.1, .val [(0, 0)] zT1 v.1.2.2.2.1, .val [] .bool v.1.2.2.2.2.1, .rw 3, .val [(0, 0)] zT1 v.1.2.2.2.2.2.2.2.1, zi u0.2.1, zi u0.2.2.1] [zr8 v.2.1.1 v.2.1.2.1 v.2.1.2.2.1 v.2.1.2.2.2.1 v.2.1.2.2.2.2.1 v.2.1.2.2.2.2.2.1 v.2.1.2.2.2.2.2.2.1 v.2.1.2.2.2.2.2.2.2.1, zr9 v.2.2.1.1 v.2.2.1.2.1 v.2.2.1.2.2.1 v.2.2.1.2.2.2.2.1 v.2.2.1.2.2.2.2.2.2.1 v.2.2.1.2.2.2.2.2.2.2.1, zr4 p20])) u0.2.2.2.1 v.2.2.2.1 v.2.2.2.2.1.1 v.2.2.2.2.1.2.1) (I43_1000008 k K ws rs N X) ws rs
noncomputable abbrev I43_0 : Option R := inner T an43 (modesOf F) 0 k 67 (S43 k) (E43 K) cd43_0 (sh sp43_0 ws rs) N X
abbrev aa43_0 : List Sh := [.ptr 1 0, .ptr 2 0, .val [] .bool, .val [(0, 0)] zT1, .val [] .bool, .rw 3, .val [(0, 0)] zT1, zv, zv]
abbrev ab43_0 : List RSh := [zs6, zs7, .arr [] zP1]
noncomputable def L43_0 : Option R :=
 onShape aa43_0 ab43_0 (fun v => let u0 := v.1.2.2.2.2.2.2.2; f43_0 k (fun p17 => N (sh jn43_0 [.ptr 1 0, .ptr 2 0, .val [] .bool v.1.2.2.1, .val [(0, 0)] zT1 v.1.2.2.2.1, .val [] .bool v.1.2.2.2.2.1, .rw 3] [zr8 v.2.1.1 v.2.1.2.1 v.2.1.2.2.1 v.2.1.2.2.2.1 v.2.1.2.2.2.2.1 v.2.1.2.2.2.2.2.1 v.2.1.2.2.2.2.2.2.1 v.2.1.2.2.2.2.2.2.2.1, zr9 v.2.2.1.1 v.2.2.1.2.1 v.2.2.1.2.2.1 v.2.2.1.2.2.2.2.1 v.2.2.1.2.2.2.2.2.2.1 v.2.2.1.2.2.2.2.2.2.2.1, zr4 p17])) v.1.2.2.1 v.1.2.2.2.1 v.1.2.2.2.2.1 v.1.2.2.2.2.2.2.1 v.1.2.2.2.2.2.2.2.1 v.2.1.1 v.2.1.2.1 v.2.1.2.2.1 v.2.1.2.2.2.1 v.2.1.2.2.2.2.1 v.2.1.2.2.2.2.2.1 v.2.1.2.2.2.2.2.2.1 v.2.1.2.2.2.2.2.2.2.1 v.2.2.1.1 v.2.2.1.2.1 v.2.2.1.2.2.1 v.2.2.1.2.2.2.2.1 v.2.2.1.2.2.2.2.2.2.1 v.2.2.1.2.2.2.2.2.2.2.1 k u0.2.1 v.2.2.2.1) (I43_0 k K ws rs N X) ws rs
noncomputable abbrev I43_1000016 : Option R := inner T an43 (modesOf F) 0 k 67 (S43 k) (E43 K) cd43_1000016 (sh sp43_1000016 ws rs) N X
abbrev aa43_1000016 : List Sh := [.ptr 1 0, .ptr 2 0, .val [] .bool]
abbrev ab43_1000016 : List RSh := [zs6, zs7]
noncomputable def L43_1000016 : Option R :=
 onShape aa43_1000016 ab43_1000016 (fun v => f43_1000016 k (fun p0 p6 => N (sh fi43_16 [.ptr 1 0, .ptr 2 0] [zr8 p0 v.2.1.2.1 v.2.1.2.2.1 v.2.1.2.2.2.1 v.2.1.2.2.2.2.1 v.2.1.2.2.2.2.2.1 p6 v.2.1.2.2.2.2.2.2.2.1, zr9 v.2.2.1.1 v.2.2.1.2.1 v.2.2.1.2.2.1 v.2.2.1.2.2.2.2.1 v.2.2.1.2.2.2.2.2.2.1 v.2.2.1.2.2.2.2.2.2.2.1])) v.1.2.2.1 v.2.1.1 v.2.1.2.2.2.2.2.2.1) (I43_1000016 k K ws rs N X) ws rs
noncomputable def L43 : Option R := bif id == 1000008 then L43_1000008 k K ws rs N X else bif id == 0 then L43_0 k K ws rs N X else bif id == 1000016 then L43_1000016 k K ws rs N X else none
theorem l43_1000008 : L43 k K 1000008 ws rs N X = I43_1000008 k K ws rs N X := by
 show L43_1000008 k K ws rs N X = _
 unfold L43_1000008
 rw [f43_1000008_def]
 exact lC (L43 k K) [] (by kernel_rfl) trivial fun x y => by kernel_rfl
theorem i43_0 (c0 : Bool) (c1 : zL5) (c2 : Bool) (c3 : zL5) (c4 c6 c7 : Int) (c8 : ByteArray) (c9 : List Int) (c10 : Int) (c11 : zL5) (c12 c13 c14 c15 : Int) (c16 : ByteArray) (c17 c18 c19 : Int) (m : Nat) : ∀ (c5 : Int) (c20 : zL6),
  iter (atHead an43 0 bd43_0) m (fun st N' => exec T an43 (modesOf F) 0 k 67 (S43 k) (E43 K) bd43_0 st N' (outX an43 0 0 N X)) (sh sp43_0 [.ptr 1 0, .ptr 2 0, .val [] .bool c0, .val [(0, 0)] zT1 c1, .val [] .bool c2, .rw 3, .val [(0, 0)] zT1 c3, zi c4, zi c5] [zr8 c6 c7 c8 c9 c10 c11 c12 c13, zr9 c14 c15 c16 c17 c18 c19, zr4 c20]) = f43_0d k (fun p17 => N (sh jn43_0 [.ptr 1 0, .ptr 2 0, .val [] .bool c0, .val [(0, 0)] zT1 c1, .val [] .bool c2, .rw 3] [zr8 c6 c7 c8 c9 c10 c11 c12 c13, zr9 c14 c15 c16 c17 c18 c19, zr4 p17])) c0 c1 c2 c3 c4 c6 c7 c8 c9 c10 c11 c12 c13 c14 c15 c16 c17 c18 c19 m c5 c20 := by
 induction m with
 | zero => intros; rfl
 | succ m ih =>
   intro c5 c20
   simp only [iter]
   rw [← execS_eq T an43 (modesOf F) 0 k 67 (S43 k) (L43 k K) bd43_0 (cuts_of _ _ _ _ _ _ _ _ bd43_0 (l := [(1000008, sp43_1000008, cd43_1000008)]) (by kernel_rfl) ⟨l43_1000008 k K, trivial⟩)]
   have h := fx2 ih
   simp only [f43_0d]
   rw [← h]
   show _ = _
   kernel_rfl
theorem l43_0 : L43 k K 0 ws rs N X = I43_0 k K ws rs N X := by
 show L43_0 k K ws rs N X = _
 unfold L43_0
 rw [f43_0_def]
 exact onShape_eq (a := aa43_0) (b := ab43_0) (G := fun ws rs => I43_0 k K ws rs N X) (fun x y => Eq.trans (by kernel_rfl) (Eq.trans (i43_0 k K N X x.2.2.1 x.2.2.2.1 x.2.2.2.2.1 x.2.2.2.2.2.2.1 x.2.2.2.2.2.2.2.1 y.1.1 y.1.2.1 y.1.2.2.1 y.1.2.2.2.1 y.1.2.2.2.2.1 y.1.2.2.2.2.2.1 y.1.2.2.2.2.2.2.1 y.1.2.2.2.2.2.2.2.1 y.2.1.1 y.2.1.2.1 y.2.1.2.2.1 y.2.1.2.2.2.2.1 y.2.1.2.2.2.2.2.2.1 y.2.1.2.2.2.2.2.2.2.1 k x.2.2.2.2.2.2.2.2.1 y.2.2.1).symm (by kernel_rfl))) ws rs
theorem l43_1000016 : L43 k K 1000016 ws rs N X = I43_1000016 k K ws rs N X := by
 show L43_1000016 k K ws rs N X = _
 unfold L43_1000016
 rw [f43_1000016_def]
 exact lC (L43 k K) [] (by kernel_rfl) trivial fun x y => by kernel_rfl
theorem tu43 : tOk (R := R) 43 aa43 ab43 g43 := by
 intro k x y K
 unfold g43
 rw [f43_def]
 cases k with
 | zero => rfl
 | succ k => exact eS Try.f43 an43 0 67 (L43 k K) [(0, sp43_0, cd43_0), (1000016, sp43_1000016, cd43_1000016)] (by kernel_rfl) (S43_eq k) (by kernel_rfl) ⟨l43_0 k K, l43_1000016 k K, trivial⟩ (by kernel_rfl)
noncomputable def s43 := onS (R := R) aa43 ab43 g43 (fun k => callC T F k 43)
theorem s43_eq : sOk (R := R) s43 43 := onS_eq (fun _ _ _ _ => rfl) tu43
noncomputable abbrev kt31 : zK4 R := (fun z0 z1 z2 z3 z4 z5 z6 z7 z8 => K [.agg [zi z0, zi z1, .val [] .str z2, .val [(0, 0)] zT2 z3, zi z4, .val [(0, 0)] zT1 z5, zi z6, zi z7], zi z8] [])
abbrev aa31 : List Sh := [.agg [zv, zv, .val [] .str, .val [(0, 0)] zT2, zv, .val [(0, 0)] zT1, zv, zv], .agg [zv, zv, .val [] .str, zv, zv, zv, .val [(0, 0)] zT2, .val [(0, 0)] zT1, .val [] .bool]]
abbrev ab31 : List RSh := []
noncomputable def g31 (k : Nat) (v : Sh.D.DL aa31 × RSh.DL ab31) (K : KT R) : Option R := let u0 := v.1.2.1.2.2.2.2.2.2.2; f31 k v.1.1.1 v.1.1.2.1 v.1.1.2.2.1 v.1.1.2.2.2.1 v.1.1.2.2.2.2.1 v.1.1.2.2.2.2.2.1 v.1.1.2.2.2.2.2.2.1 v.1.1.2.2.2.2.2.2.2.1 v.1.2.1.1 v.1.2.1.2.1 v.1.2.1.2.2.1 v.1.2.1.2.2.2.1 v.1.2.1.2.2.2.2.1 v.1.2.1.2.2.2.2.2.1 v.1.2.1.2.2.2.2.2.2.1 v.1.2.1.2.2.2.2.2.2.2.1 u0.2.1 (kt31 K)
noncomputable abbrev E31 := ending T Try.f31 an31 0 K
noncomputable def S31 := pickS (R := R) [(43, s43)]
theorem S31_eq : ∀ k, S31 (R := R) k = callC T F k := pickS_eq ⟨s43_eq, trivial⟩
noncomputable abbrev I31_1000008 : Option R := inner T an31 (modesOf F) 0 k 56 (S31 k) (E31 K) cd31_1000008 (sh sp31_1000008 ws rs) N X
abbrev aa31_1000008 : List Sh := [.ptr 1 0, .ptr 2 0, .val [] .bool]
abbrev ab31_1000008 : List RSh := [zs6, zs7]
noncomputable def L31_1000008 : Option R :=
 onShape aa31_1000008 ab31_1000008 (fun v => f31_1000008 k (fun p0 p5 p6 => N (sh fi31_8 [.ptr 1 0, .ptr 2 0] [zr8 p0 v.2.1.2.1 v.2.1.2.2.1 v.2.1.2.2.2.1 v.2.1.2.2.2.2.1 p5 p6 v.2.1.2.2.2.2.2.2.2.1, zr9 v.2.2.1.1 v.2.2.1.2.1 v.2.2.1.2.2.1 v.2.2.1.2.2.2.2.1 v.2.2.1.2.2.2.2.2.2.1 v.2.2.1.2.2.2.2.2.2.2.1])) v.1.2.2.1 v.2.1.1 v.2.1.2.2.2.2.2.1 v.2.1.2.2.2.2.2.2.1) (I31_1000008 k K ws rs N X) ws rs
noncomputable abbrev I31_1000006 : Option R := inner T an31 (modesOf F) 0 k 56 (S31 k) (E31 K) cd31_1000006 (sh sp31_1000006 ws rs) N X
abbrev aa31_1000006 : List Sh := [.ptr 1 0, .ptr 2 0, .ptr 3 0, .val [] .bool]
abbrev ab31_1000006 : List RSh := [zs6, zs3, zs7]
noncomputable def L31_1000006 : Option R :=
 onShape aa31_1000006 ab31_1000006 (fun v => let u0 := v.2.2.1.2.2.2.2.2.2.2; f31_1000006 k (fun p0 p5 p6 => N (sh fi31_6 [.ptr 1 0, .ptr 2 0] [zr8 p0 v.2.1.2.1 v.2.1.2.2.1 v.2.1.2.2.2.1 v.2.1.2.2.2.2.1 p5 p6 v.2.1.2.2.2.2.2.2.2.1, zr9 v.2.2.2.1.1 v.2.2.2.1.2.1 v.2.2.2.1.2.2.1 v.2.2.2.1.2.2.2.2.1 v.2.2.2.1.2.2.2.2.2.2.1 v.2.2.2.1.2.2.2.2.2.2.2.1])) v.1.2.2.2.1 v.2.1.1 v.2.1.2.2.2.2.2.1 v.2.1.2.2.2.2.2.2.1 v.2.2.1.1) (I31_1000006 k K ws rs N X) ws rs
noncomputable def L31 : Option R := bif id == 1000008 then L31_1000008 k K ws rs N X else bif id == 1000006 then L31_1000006 k K ws rs N X else none
theorem l31_1000008 : L31 k K 1000008 ws rs N X = I31_1000008 k K ws rs N X := by
 show L31_1000008 k K ws rs N X = _
 unfold L31_1000008
 rw [f31_1000008_def]
 exact lC (L31 k K) [] (by kernel_rfl) trivial fun x y => by kernel_rfl
theorem l31_1000006 : L31 k K 1000006 ws rs N X = I31_1000006 k K ws rs N X := by
 show L31_1000006 k K ws rs N X = _
 unfold L31_1000006
 rw [f31_1000006_def]
 exact lC (L31 k K) [(1000008, sp31_1000008, cd31_1000008)] (by kernel_rfl) ⟨l31_1000008 k K, trivial⟩ fun x y => by kernel_rfl
theorem tu31 : tOk (R := R) 31 aa31 ab31 g31 := by
 intro k x y K
 unfold g31
 rw [f31_def]
 cases k with
 | zero => rfl
 | succ k => exact eS Try.f31 an31 0 56 (L31 k K) [(1000006, sp31_1000006, cd31_1000006)] (by kernel_rfl) (S31_eq k) (by kernel_rfl) ⟨l31_1000006 k K, trivial⟩ (by kernel_rfl)
noncomputable def s31 := onS (R := R) aa31 ab31 g31 (fun k => callC T F k 31)
theorem s31_eq : sOk (R := R) s31 31 := onS_eq (fun _ _ _ _ => rfl) tu31
noncomputable abbrev kt44 : Int → Int → ByteArray → Int → Int → Int → Bool → Option R := (fun z0 z1 z2 z3 z4 z5 z6 => K [.agg [zi z0, zi z1, .val [] .str z2, zi z3, zi z4, zi z5, .nils, .nils, .val [] .bool z6]] [])
abbrev aa44 : List Sh := [.agg [zv, zv, .val [] .str, .val [(0, 0)] zT2, zv, .val [(0, 0)] zT1, zv, zv]]
abbrev ab44 : List RSh := []
noncomputable def g44 (k : Nat) (v : Sh.D.DL aa44 × RSh.DL ab44) (K : KT R) : Option R := f44 k v.1.1.1 v.1.1.2.1 v.1.1.2.2.1 v.1.1.2.2.2.1 v.1.1.2.2.2.2.1 v.1.1.2.2.2.2.2.1 v.1.1.2.2.2.2.2.2.1 v.1.1.2.2.2.2.2.2.2.1 (kt44 K)
noncomputable abbrev E44 := ending T Try.f44 an44 0 K
noncomputable def S44 := pickS (R := R) [(41, s41)]
theorem S44_eq : ∀ k, S44 (R := R) k = callC T F k := pickS_eq ⟨s41_eq, trivial⟩
theorem tu44 : tOk (R := R) 44 aa44 ab44 g44 := by
 intro k x y K
 unfold g44
 rw [f44_def]
 cases k with
 | zero => rfl
 | succ k => exact eS Try.f44 an44 0 12 L0 [] (by kernel_rfl) (S44_eq k) (by kernel_rfl) trivial (by kernel_rfl)
noncomputable def s44 := onS (R := R) aa44 ab44 g44 (fun k => callC T F k 44)
theorem s44_eq : sOk (R := R) s44 44 := onS_eq (fun _ _ _ _ => rfl) tu44
noncomputable abbrev kt54 : zL6 → Option R := (fun z0 => K [.rw 1] [zr4 z0])
abbrev aa54 : List Sh := [.val [(0, 0)] zT1]
abbrev ab54 : List RSh := []
noncomputable def g54 (k : Nat) (v : Sh.D.DL aa54 × RSh.DL ab54) (K : KT R) : Option R := f54 k v.1.1 (kt54 K)
theorem e54 (k : Nat) (a0 : zL5) (K : KT R) : callC T F k 54 [.val [(0, 0)] zT1 a0] [] K = f54 k a0 (kt54 K) := by
 rw [f54_def]
 cases k with
 | zero => rfl
 | succ k => exact clone_call (m := [.lend zP1]) (ty := zP1) (bytes := 16) (by kernel_rfl) a0 K
theorem tu54 : tOk (R := R) 54 aa54 ab54 g54 := fun k x y K => e54 k x.1 K
noncomputable def s54 := onS (R := R) aa54 ab54 g54 (fun k => callC T F k 54)
theorem s54_eq : sOk (R := R) s54 54 := onS_eq (fun _ _ _ _ => rfl) tu54
noncomputable abbrev kt55 : zK5 R := (fun z0 z1 z2 z3 z4 z5 z6 z7 => K [.agg [zi z0, zi z1, .val [] .str z2, zi z3, zi z4, zi z5, .rw 1, .nils, .val [] .bool z6]] [zr0 z7])
abbrev aa55 : List Sh := [.agg [zv, zv, .val [] .str, .val [(0, 0)] zT2, zv, .val [(0, 0)] zT1, zv, zv], zv, zv]
abbrev ab55 : List RSh := []
noncomputable def g55 (k : Nat) (v : Sh.D.DL aa55 × RSh.DL ab55) (K : KT R) : Option R := f55 k v.1.1.1 v.1.1.2.1 v.1.1.2.2.1 v.1.1.2.2.2.1 v.1.1.2.2.2.2.1 v.1.1.2.2.2.2.2.1 v.1.1.2.2.2.2.2.2.1 v.1.1.2.2.2.2.2.2.2.1 v.1.2.1 v.1.2.2.1 (kt55 K)
noncomputable abbrev E55 := ending T Try.f55 an55 0 K
noncomputable def S55 := pickS (R := R) [(27, s27)]
theorem S55_eq : ∀ k, S55 (R := R) k = callC T F k := pickS_eq ⟨s27_eq, trivial⟩
theorem tu55 : tOk (R := R) 55 aa55 ab55 g55 := by
 intro k x y K
 unfold g55
 rw [f55_def]
 cases k with
 | zero => rfl
 | succ k => exact eS Try.f55 an55 0 19 L0 [] (by kernel_rfl) (S55_eq k) (by kernel_rfl) trivial (by kernel_rfl)
noncomputable def s55 := onS (R := R) aa55 ab55 g55 (fun k => callC T F k 55)
theorem s55_eq : sOk (R := R) s55 55 := onS_eq (fun _ _ _ _ => rfl) tu55
noncomputable abbrev kt45 : zK6 R := (fun z0 z1 z2 z3 z4 z5 z6 z7 z8 z9 z10 z11 z12 z13 z14 z15 => K [.agg [zi z0, zi z1, .val [] .str z2, .val [(0, 0)] zT2 z3, zi z4, .val [(0, 0)] zT1 z5, zi z6, zi z7], .agg [zi z8, zi z9, .val [] .str z10, zi z11, zi z12, zi z13, .rw 1, .nils, .val [] .bool z14]] [zr0 z15])
abbrev aa45 : List Sh := [.agg [zv, zv, zv, zv, zv], .agg [zv, zv, .val [] .str, .val [(0, 0)] zT2, zv, .val [(0, 0)] zT1, zv, zv]]
abbrev ab45 : List RSh := []
noncomputable def g45 (k : Nat) (v : Sh.D.DL aa45 × RSh.DL ab45) (K : KT R) : Option R := f45 k v.1.1.1 v.1.1.2.1 v.1.1.2.2.1 v.1.1.2.2.2.1 v.1.1.2.2.2.2.1 v.1.2.1.1 v.1.2.1.2.1 v.1.2.1.2.2.1 v.1.2.1.2.2.2.1 v.1.2.1.2.2.2.2.1 v.1.2.1.2.2.2.2.2.1 v.1.2.1.2.2.2.2.2.2.1 v.1.2.1.2.2.2.2.2.2.2.1 (kt45 K)
noncomputable abbrev E45 := ending T Try.f45 an45 0 K
noncomputable def S45 := pickS (R := R) [(41, s41), (44, s44), (53, s53), (54, s54), (55, s55)]
theorem S45_eq : ∀ k, S45 (R := R) k = callC T F k := pickS_eq ⟨s41_eq, s44_eq, s53_eq, s54_eq, s55_eq, trivial⟩
noncomputable abbrev I45_1000018 : Option R := inner T an45 (modesOf F) 0 k 138 (S45 k) (E45 K) cd45_1000018 (sh sp45_1000018 ws rs) N X
abbrev aa45_1000018 : List Sh := [.ptr 1 0, .ptr 3 0, .ptr 4 0, .ptr 5 0, .val [] .bool]
abbrev ab45_1000018 : List RSh := [.vars [zv, zv, .val [] .str, .val [(0, 0)] zT2, zv, .rw 2, zv, zv], .arr [] zP1, zs7, .vars [zv, zv, .val [] .str, zv, zv, zv, .nils, .nils, .val [] .bool], .vars [zv, zv, .val [] .str, zv, zv, zv, .rw 6, .nils, .val [] .bool], .arr [] (.int .u8)]
noncomputable def L45_1000018 : Option R :=
 onShape aa45_1000018 ab45_1000018 (fun v => let u0 := v.2.2.2.2.1.2.2.2.2.2.2.2; let u1 := v.2.2.2.2.2.1.2.2.2.2.2.2.2; f45_1000018 k (fun p7 => N (sh fi45_18 [.ptr 1 0, .ptr 3 0, .ptr 4 0, .ptr 5 0] [⟨0, .vars [zi v.2.1.1, zi v.2.1.2.1, .val [] .str v.2.1.2.2.1, .val [(0, 0)] zT2 v.2.1.2.2.2.1, zi v.2.1.2.2.2.2.1, .rw 2, zi v.2.1.2.2.2.2.2.2.1, zi v.2.1.2.2.2.2.2.2.2.1]⟩, zr4 p7, zr9 v.2.2.2.1.1 v.2.2.2.1.2.1 v.2.2.2.1.2.2.1 v.2.2.2.1.2.2.2.2.1 v.2.2.2.1.2.2.2.2.2.2.1 v.2.2.2.1.2.2.2.2.2.2.2.1, ⟨0, .vars [zi v.2.2.2.2.1.1, zi v.2.2.2.2.1.2.1, .val [] .str v.2.2.2.2.1.2.2.1, zi v.2.2.2.2.1.2.2.2.1, zi v.2.2.2.2.1.2.2.2.2.1, zi v.2.2.2.2.1.2.2.2.2.2.1, .nils, .nils, .val [] .bool u0.2.1]⟩, ⟨0, .vars [zi v.2.2.2.2.2.1.1, zi v.2.2.2.2.2.1.2.1, .val [] .str v.2.2.2.2.2.1.2.2.1, zi v.2.2.2.2.2.1.2.2.2.1, zi v.2.2.2.2.2.1.2.2.2.2.1, zi v.2.2.2.2.2.1.2.2.2.2.2.1, .rw 6, .nils, .val [] .bool u1.2.1]⟩, zr0 v.2.2.2.2.2.2.1])) v.1.2.2.2.2.1 v.2.2.1) (I45_1000018 k K ws rs N X) ws rs
noncomputable def L45 : Option R := bif id == 1000018 then L45_1000018 k K ws rs N X else none
theorem l45_1000018 : L45 k K 1000018 ws rs N X = I45_1000018 k K ws rs N X := by
 show L45_1000018 k K ws rs N X = _
 unfold L45_1000018
 rw [f45_1000018_def]
 exact lC (L45 k K) [] (by kernel_rfl) trivial fun x y => by kernel_rfl
theorem tu45 : tOk (R := R) 45 aa45 ab45 g45 := by
 intro k x y K
 unfold g45
 rw [f45_def]
 cases k with
 | zero => rfl
 | succ k => exact eS Try.f45 an45 0 138 (L45 k K) [(1000018, sp45_1000018, cd45_1000018)] (by kernel_rfl) (S45_eq k) (by kernel_rfl) ⟨l45_1000018 k K, trivial⟩ (by kernel_rfl)
noncomputable def s45 := onS (R := R) aa45 ab45 g45 (fun k => callC T F k 45)
theorem s45_eq : sOk (R := R) s45 45 := onS_eq (fun _ _ _ _ => rfl) tu45
noncomputable abbrev kt32 : zK7 R := (fun z0 z1 z2 z3 z4 z5 z6 z7 z8 => K [.agg [zi z0, zi z1, .val [] .str z2, .val [(0, 0)] zT2 z3, zi z4, .val [(0, 0)] zT1 z5, zi z6, zi z7], .rw 1] [⟨0, .arr [] zP0 z8⟩])
abbrev aa32 : List Sh := [.agg [zv, zv, zv, zv, zv], .agg [zv, zv, .val [] .str, .val [(0, 0)] zT2, zv, .val [(0, 0)] zT1, zv, zv]]
abbrev ab32 : List RSh := []
noncomputable def g32 (k : Nat) (v : Sh.D.DL aa32 × RSh.DL ab32) (K : KT R) : Option R := f32 k v.1.1.1 v.1.1.2.1 v.1.1.2.2.1 v.1.1.2.2.2.1 v.1.1.2.2.2.2.1 v.1.2.1.1 v.1.2.1.2.1 v.1.2.1.2.2.1 v.1.2.1.2.2.2.1 v.1.2.1.2.2.2.2.1 v.1.2.1.2.2.2.2.2.1 v.1.2.1.2.2.2.2.2.2.1 v.1.2.1.2.2.2.2.2.2.2.1 (kt32 K)
noncomputable abbrev E32 := ending T Try.f32 an32 0 K
noncomputable def S32 := pickS (R := R) [(44, s44), (45, s45)]
theorem S32_eq : ∀ k, S32 (R := R) k = callC T F k := pickS_eq ⟨s44_eq, s45_eq, trivial⟩
noncomputable abbrev I32_0 : Option R := inner T an32 (modesOf F) 0 k 63 (S32 k) (E32 K) cd32_0 (sh sp32_0 ws rs) N X
abbrev aa32_0 : List Sh := [.ptr 1 0, .ptr 2 0, .ptr 3 0, .rw 4]
abbrev ab32_0 : List RSh := [zs2, zs6, zs7, .arr [] zP0]
noncomputable def L32_0 : Option R :=
 onShape aa32_0 ab32_0 (fun v => f32_0 k (fun p0 p1 p2 p3 p4 p5 p6 p7 p14 => N (sh jn32_0 [.ptr 1 0, .ptr 2 0, .rw 3] [zr8 p0 p1 p2 p3 p4 p5 p6 p7, zr9 v.2.2.2.1.1 v.2.2.2.1.2.1 v.2.2.2.1.2.2.1 v.2.2.2.1.2.2.2.2.1 v.2.2.2.1.2.2.2.2.2.2.1 v.2.2.2.1.2.2.2.2.2.2.2.1, ⟨0, .arr [] zP0 p14⟩])) v.2.1.1 v.2.1.2.1 v.2.1.2.2.1 v.2.1.2.2.2.1 v.2.1.2.2.2.2.1 v.2.2.2.1.1 v.2.2.2.1.2.1 v.2.2.2.1.2.2.1 v.2.2.2.1.2.2.2.2.1 v.2.2.2.1.2.2.2.2.2.2.1 v.2.2.2.1.2.2.2.2.2.2.2.1 k v.2.2.1.1 v.2.2.1.2.1 v.2.2.1.2.2.1 v.2.2.1.2.2.2.1 v.2.2.1.2.2.2.2.1 v.2.2.1.2.2.2.2.2.1 v.2.2.1.2.2.2.2.2.2.1 v.2.2.1.2.2.2.2.2.2.2.1 v.2.2.2.2.1) (I32_0 k K ws rs N X) ws rs
noncomputable def L32 : Option R := bif id == 0 then L32_0 k K ws rs N X else none
theorem i32_0 (c0 c1 c2 c3 c4 c13 c14 : Int) (c15 : ByteArray) (c16 c17 c18 : Int) (m : Nat) : ∀ (c5 c6 : Int) (c7 : ByteArray) (c8 : List Int) (c9 : Int) (c10 : zL5) (c11 c12 : Int) (c19 : zL3),
  iter (atHead an32 0 bd32_0) m (fun st N' => exec T an32 (modesOf F) 0 k 63 (S32 k) (E32 K) bd32_0 st N' (outX an32 0 0 N X)) (sh sp32_0 [.ptr 1 0, .ptr 2 0, .ptr 3 0, .rw 4] [⟨0, .vars [zi c0, zi c1, zi c2, zi c3, zi c4]⟩, zr8 c5 c6 c7 c8 c9 c10 c11 c12, zr9 c13 c14 c15 c16 c17 c18, ⟨0, .arr [] zP0 c19⟩]) = f32_0d k (fun p0 p1 p2 p3 p4 p5 p6 p7 p14 => N (sh jn32_0 [.ptr 1 0, .ptr 2 0, .rw 3] [zr8 p0 p1 p2 p3 p4 p5 p6 p7, zr9 c13 c14 c15 c16 c17 c18, ⟨0, .arr [] zP0 p14⟩])) c0 c1 c2 c3 c4 c13 c14 c15 c16 c17 c18 m c5 c6 c7 c8 c9 c10 c11 c12 c19 := by
 induction m with
 | zero => intros; rfl
 | succ m ih =>
   intro c5 c6 c7 c8 c9 c10 c11 c12 c19
   simp only [iter]
   rw [← execS_eq T an32 (modesOf F) 0 k 63 (S32 k) (L32 k K) bd32_0 (cuts_of _ _ _ _ _ _ _ _ bd32_0 (l := []) (by kernel_rfl) trivial)]
   have h := fx9 ih
   simp only [f32_0d]
   rw [← h]
   show _ = _
   kernel_rfl
theorem l32_0 : L32 k K 0 ws rs N X = I32_0 k K ws rs N X := by
 show L32_0 k K ws rs N X = _
 unfold L32_0
 rw [f32_0_def]
 exact onShape_eq (a := aa32_0) (b := ab32_0) (G := fun ws rs => I32_0 k K ws rs N X) (fun x y => Eq.trans (by kernel_rfl) (Eq.trans (i32_0 k K N X y.1.1 y.1.2.1 y.1.2.2.1 y.1.2.2.2.1 y.1.2.2.2.2.1 y.2.2.1.1 y.2.2.1.2.1 y.2.2.1.2.2.1 y.2.2.1.2.2.2.2.1 y.2.2.1.2.2.2.2.2.2.1 y.2.2.1.2.2.2.2.2.2.2.1 k y.2.1.1 y.2.1.2.1 y.2.1.2.2.1 y.2.1.2.2.2.1 y.2.1.2.2.2.2.1 y.2.1.2.2.2.2.2.1 y.2.1.2.2.2.2.2.2.1 y.2.1.2.2.2.2.2.2.2.1 y.2.2.2.1).symm (by kernel_rfl))) ws rs
theorem tu32 : tOk (R := R) 32 aa32 ab32 g32 := by
 intro k x y K
 unfold g32
 rw [f32_def]
 cases k with
 | zero => rfl
 | succ k => exact eS Try.f32 an32 0 63 (L32 k K) [(0, sp32_0, cd32_0)] (by kernel_rfl) (S32_eq k) (by kernel_rfl) ⟨l32_0 k K, trivial⟩ (by kernel_rfl)
noncomputable def s32 := onS (R := R) aa32 ab32 g32 (fun k => callC T F k 32)
theorem s32_eq : sOk (R := R) s32 32 := onS_eq (fun _ _ _ _ => rfl) tu32
noncomputable abbrev kt30v1 : zK3 R := (fun z0 z1 z2 z3 z4 z5 z6 z7 z8 z9 z10 z11 z12 z13 z14 z15 z16 z17 z18 z19 z20 z21 z22 z23 z24 z25 z26 z27 z28 => K [] [zr1 z0 z1 z2 z3 z4 z5 z6 z7 z8 z9 z10 z11 z12 z13 z14 z15 z16 z17 z18 z19 z20 z21 z22 z23 z24 z25 z26, ⟨0, .gone⟩, ⟨0, .gone⟩, zr2 z27, zr2 z28])
abbrev aa30v1 : List Sh := [.ptr 1 22, zv, .val [(0, 0)] (.slice zP0)]
abbrev ab30v1 : List RSh := [zs0, .arr [(0, 0)] zP2, .arr [(0, 0)] zP2]
noncomputable def g30v1 (k : Nat) (v : Sh.D.DL aa30v1 × RSh.DL ab30v1) (K : KT R) : Option R := let u0 := v.2.1.2.2.2.2.2.2.2; let u1 := u0.2.2.2.2.2.2.2; let u2 := u1.2.2.2.2.2.2.2; f30v1 k v.1.2.1 v.1.2.2.1 v.2.1.1 v.2.1.2.1 v.2.1.2.2.1 v.2.1.2.2.2.1 v.2.1.2.2.2.2.1 v.2.1.2.2.2.2.2.1 v.2.1.2.2.2.2.2.2.1 v.2.1.2.2.2.2.2.2.2.1 u0.2.1 u0.2.2.1 u0.2.2.2.1 u0.2.2.2.2.1 u0.2.2.2.2.2.1 u0.2.2.2.2.2.2.1 u0.2.2.2.2.2.2.2.1 u1.2.1 u1.2.2.1 u1.2.2.2.1 u1.2.2.2.2.1 u1.2.2.2.2.2.1 u1.2.2.2.2.2.2.1 u1.2.2.2.2.2.2.2.1 u2.2.1 u2.2.2.1 u2.2.2.2.2.1 u2.2.2.2.2.2.1 u2.2.2.2.2.2.2.2.1 v.2.2.1 v.2.2.2.1 (kt30v1 K)
noncomputable abbrev E30v1 := ending T Try.f30 an30 3 K
noncomputable def S30v1 := pickS (R := R) []
theorem S30v1_eq : ∀ k, S30v1 (R := R) k = callC T F k := pickS_eq trivial
noncomputable abbrev I30v1_1000004 : Option R := inner T an30 (modesOf F) 3 k 57 (S30v1 k) (E30v1 K) cd30_1000004 (sh sp30_1000004 ws rs) N X
abbrev aa30v1_1000004 : List Sh := [.ptr 1 22, zv, .ptr 6 0, .val [(0, 0)] (.slice zP0), zv, zv, .val [] .bool]
abbrev ab30v1_1000004 : List RSh := [zs1, .gone, .gone, .arr [(0, 0)] zP2, .arr [(0, 0)] zP2, zs3]
noncomputable def L30v1_1000004 : Option R :=
 onShape aa30v1_1000004 ab30v1_1000004 (fun v => let u0 := v.2.1.2.2.2.2.2.2.2; let u1 := u0.2.2.2.2.2.2.2; let u2 := u1.2.2.2.2.2.2.2; let u3 := v.2.2.2.2.2.2.1.2.2.2.2.2.2.2; f30v1_1000004 k (fun p31 => N (sh fi30_4 [.ptr 1 22, zi v.1.2.1, .val [(0, 0)] (.slice zP0) v.1.2.2.2.1, zi v.1.2.2.2.2.1, zi v.1.2.2.2.2.2.1] [zr1 v.2.1.1 v.2.1.2.1 v.2.1.2.2.1 v.2.1.2.2.2.1 v.2.1.2.2.2.2.1 v.2.1.2.2.2.2.2.1 v.2.1.2.2.2.2.2.2.1 v.2.1.2.2.2.2.2.2.2.1 u0.2.1 u0.2.2.1 u0.2.2.2.1 u0.2.2.2.2.1 u0.2.2.2.2.2.1 u0.2.2.2.2.2.2.1 u0.2.2.2.2.2.2.2.1 u1.2.1 u1.2.2.1 u1.2.2.2.1 u1.2.2.2.2.1 u1.2.2.2.2.2.1 u1.2.2.2.2.2.2.1 u1.2.2.2.2.2.2.2.1 u2.2.1 u2.2.2.1 u2.2.2.2.2.1 u2.2.2.2.2.2.1 u2.2.2.2.2.2.2.2.1, ⟨0, .gone⟩, ⟨0, .gone⟩, zr2 p31, zr2 v.2.2.2.2.2.1])) v.1.2.1 v.1.2.2.2.2.2.2.1 v.2.2.2.2.1 v.2.2.2.2.2.2.1.1 v.2.2.2.2.2.2.1.2.1 v.2.2.2.2.2.2.1.2.2.1 v.2.2.2.2.2.2.1.2.2.2.1 v.2.2.2.2.2.2.1.2.2.2.2.1 v.2.2.2.2.2.2.1.2.2.2.2.2.1 v.2.2.2.2.2.2.1.2.2.2.2.2.2.1 v.2.2.2.2.2.2.1.2.2.2.2.2.2.2.1 u3.2.1) (I30v1_1000004 k K ws rs N X) ws rs
noncomputable abbrev I30v1_0 : Option R := inner T an30 (modesOf F) 3 k 57 (S30v1 k) (E30v1 K) cd30_0 (sh sp30_0 ws rs) N X
abbrev aa30v1_0 : List Sh := [.ptr 1 22, zv, .val [(0, 0)] (.slice zP0), zv, zv]
abbrev ab30v1_0 : List RSh := [zs1, .gone, .gone, .arr [(0, 0)] zP2, .arr [(0, 0)] zP2]
noncomputable def L30v1_0 : Option R :=
 onShape aa30v1_0 ab30v1_0 (fun v => let u0 := v.2.1.2.2.2.2.2.2.2; let u1 := u0.2.2.2.2.2.2.2; let u2 := u1.2.2.2.2.2.2.2; f30v1_0 k (fun p23 p27 => N (sh jn30_0 [] [zr1 v.2.1.1 v.2.1.2.1 v.2.1.2.2.1 v.2.1.2.2.2.1 v.2.1.2.2.2.2.1 v.2.1.2.2.2.2.2.1 v.2.1.2.2.2.2.2.2.1 v.2.1.2.2.2.2.2.2.2.1 u0.2.1 u0.2.2.1 u0.2.2.2.1 u0.2.2.2.2.1 u0.2.2.2.2.2.1 u0.2.2.2.2.2.2.1 u0.2.2.2.2.2.2.2.1 u1.2.1 u1.2.2.1 u1.2.2.2.1 u1.2.2.2.2.1 u1.2.2.2.2.2.1 u1.2.2.2.2.2.2.1 u1.2.2.2.2.2.2.2.1 u2.2.1 p23 u2.2.2.2.2.1 u2.2.2.2.2.2.1 u2.2.2.2.2.2.2.2.1, ⟨0, .gone⟩, ⟨0, .gone⟩, zr2 p27, zr2 v.2.2.2.2.2.1])) v.1.2.1 v.1.2.2.1 v.1.2.2.2.1 v.2.1.1 v.2.1.2.1 v.2.1.2.2.1 v.2.1.2.2.2.1 v.2.1.2.2.2.2.1 v.2.1.2.2.2.2.2.1 v.2.1.2.2.2.2.2.2.1 v.2.1.2.2.2.2.2.2.2.1 u0.2.1 u0.2.2.1 u0.2.2.2.1 u0.2.2.2.2.1 u0.2.2.2.2.2.1 u0.2.2.2.2.2.2.1 u0.2.2.2.2.2.2.2.1 u1.2.1 u1.2.2.1 u1.2.2.2.1 u1.2.2.2.2.1 u1.2.2.2.2.2.1 u1.2.2.2.2.2.2.1 u1.2.2.2.2.2.2.2.1 u2.2.1 u2.2.2.2.2.1 u2.2.2.2.2.2.1 u2.2.2.2.2.2.2.2.1 v.2.2.2.2.2.1 k v.1.2.2.2.2.1 u2.2.2.1 v.2.2.2.2.1) (I30v1_0 k K ws rs N X) ws rs
noncomputable def L30v1 : Option R := bif id == 1000004 then L30v1_1000004 k K ws rs N X else bif id == 0 then L30v1_0 k K ws rs N X else none
theorem l30v1_1000004 : L30v1 k K 1000004 ws rs N X = I30v1_1000004 k K ws rs N X := by
 show L30v1_1000004 k K ws rs N X = _
 unfold L30v1_1000004
 rw [f30v1_1000004_def]
 exact lC (L30v1 k K) [] (by kernel_rfl) trivial fun x y => by kernel_rfl
theorem i30v1_0 (c0 : Int) (c1 : zL2) (c2 c4 c5 c6 c7 c8 c9 c10 : Int) (c11 : ByteArray) (c12 : List Int) (c13 : Int) (c14 : zL5) (c15 c16 c17 c18 : Int) (c19 : ByteArray) (c20 : List Int) (c21 : zL5) (c22 c23 c24 c25 : Int) (c26 c28 : List Bool) (c29 c30 : Int) (c32 : zL1) (m : Nat) : ∀ (c3 c27 : Int) (c31 : zL1),
  iter (atHead an30 3 bd30_0) m (fun st N' => exec T an30 (modesOf F) 3 k 57 (S30v1 k) (E30v1 K) bd30_0 st N' (outX an30 3 0 N X)) (sh sp30_0 [.ptr 1 22, zi c0, .val [(0, 0)] (.slice zP0) c1, zi c2, zi c3] [zr1 c4 c5 c6 c7 c8 c9 c10 c11 c12 c13 c14 c15 c16 c17 c18 c19 c20 c21 c22 c23 c24 c25 c26 c27 c28 c29 c30, ⟨0, .gone⟩, ⟨0, .gone⟩, zr2 c31, zr2 c32]) = f30v1_0d k (fun p23 p27 => N (sh jn30_0 [] [zr1 c4 c5 c6 c7 c8 c9 c10 c11 c12 c13 c14 c15 c16 c17 c18 c19 c20 c21 c22 c23 c24 c25 c26 p23 c28 c29 c30, ⟨0, .gone⟩, ⟨0, .gone⟩, zr2 p27, zr2 c32])) c0 c1 c2 c4 c5 c6 c7 c8 c9 c10 c11 c12 c13 c14 c15 c16 c17 c18 c19 c20 c21 c22 c23 c24 c25 c26 c28 c29 c30 c32 m c3 c27 c31 := by
 induction m with
 | zero => intros; rfl
 | succ m ih =>
   intro c3 c27 c31
   simp only [iter]
   rw [← execS_eq T an30 (modesOf F) 3 k 57 (S30v1 k) (L30v1 k K) bd30_0 (cuts_of _ _ _ _ _ _ _ _ bd30_0 (l := [(1000004, sp30_1000004, cd30_1000004)]) (by kernel_rfl) ⟨l30v1_1000004 k K, trivial⟩)]
   have h := fx3 ih
   simp only [f30v1_0d]
   rw [← h]
   show _ = _
   kernel_rfl
theorem l30v1_0 : L30v1 k K 0 ws rs N X = I30v1_0 k K ws rs N X := by
 show L30v1_0 k K ws rs N X = _
 unfold L30v1_0
 rw [f30v1_0_def]
 exact onShape_eq (a := aa30v1_0) (b := ab30v1_0) (G := fun ws rs => I30v1_0 k K ws rs N X) (fun x y => Eq.trans (by kernel_rfl) (Eq.trans (i30v1_0 k K N X x.2.1 x.2.2.1 x.2.2.2.1 y.1.1 y.1.2.1 y.1.2.2.1 y.1.2.2.2.1 y.1.2.2.2.2.1 y.1.2.2.2.2.2.1 y.1.2.2.2.2.2.2.1 y.1.2.2.2.2.2.2.2.1 y.1.2.2.2.2.2.2.2.2.1 y.1.2.2.2.2.2.2.2.2.2.1 y.1.2.2.2.2.2.2.2.2.2.2.1 y.1.2.2.2.2.2.2.2.2.2.2.2.1 y.1.2.2.2.2.2.2.2.2.2.2.2.2.1 y.1.2.2.2.2.2.2.2.2.2.2.2.2.2.1 y.1.2.2.2.2.2.2.2.2.2.2.2.2.2.2.1 y.1.2.2.2.2.2.2.2.2.2.2.2.2.2.2.2.1 y.1.2.2.2.2.2.2.2.2.2.2.2.2.2.2.2.2.1 y.1.2.2.2.2.2.2.2.2.2.2.2.2.2.2.2.2.2.1 y.1.2.2.2.2.2.2.2.2.2.2.2.2.2.2.2.2.2.2.1 y.1.2.2.2.2.2.2.2.2.2.2.2.2.2.2.2.2.2.2.2.1 y.1.2.2.2.2.2.2.2.2.2.2.2.2.2.2.2.2.2.2.2.2.1 y.1.2.2.2.2.2.2.2.2.2.2.2.2.2.2.2.2.2.2.2.2.2.1 y.1.2.2.2.2.2.2.2.2.2.2.2.2.2.2.2.2.2.2.2.2.2.2.1 y.1.2.2.2.2.2.2.2.2.2.2.2.2.2.2.2.2.2.2.2.2.2.2.2.2.2.1 y.1.2.2.2.2.2.2.2.2.2.2.2.2.2.2.2.2.2.2.2.2.2.2.2.2.2.2.1 y.1.2.2.2.2.2.2.2.2.2.2.2.2.2.2.2.2.2.2.2.2.2.2.2.2.2.2.2.2.1 y.2.2.2.2.1 k x.2.2.2.2.1 y.1.2.2.2.2.2.2.2.2.2.2.2.2.2.2.2.2.2.2.2.2.2.2.2.1 y.2.2.2.1).symm (by kernel_rfl))) ws rs
theorem tu30v1 : tOk (R := R) 30 aa30v1 ab30v1 g30v1 := by
 intro k x y K
 unfold g30v1
 rw [f30v1_def]
 cases k with
 | zero => rfl
 | succ k => exact eS Try.f30 an30 3 57 (L30v1 k K) [(0, sp30_0, cd30_0)] (by kernel_rfl) (S30v1_eq k) (by kernel_rfl) ⟨l30v1_0 k K, trivial⟩ (by kernel_rfl)
noncomputable def s30v1 := onS (R := R) aa30v1 ab30v1 g30v1 s30
theorem s30v1_eq : sOk (R := R) s30v1 30 := onS_eq s30_eq tu30v1
noncomputable abbrev kt33 : zK2 R := (fun z0 z1 z2 z3 z4 z5 z6 z7 z8 z9 z10 => K [.agg [zi z0, zi z1, .val [] .str z2, .val [(0, 0)] zT2 z3, .val [(0, 0)] zT1 z4, zi z5, zi z6, zi z7, zi z8], .rw 1, zi z9] [zr3 z10])
abbrev aa33 : List Sh := [.agg [zv, zv, zv, zv, zv], .agg [zv, zv, .val [] .str, .val [(0, 0)] zT2, .val [(0, 0)] zT1, zv, zv, zv, zv]]
abbrev ab33 : List RSh := []
noncomputable def g33 (k : Nat) (v : Sh.D.DL aa33 × RSh.DL ab33) (K : KT R) : Option R := let u0 := v.1.2.1.2.2.2.2.2.2.2; f33 k v.1.1.1 v.1.1.2.1 v.1.1.2.2.1 v.1.1.2.2.2.1 v.1.1.2.2.2.2.1 v.1.2.1.1 v.1.2.1.2.1 v.1.2.1.2.2.1 v.1.2.1.2.2.2.1 v.1.2.1.2.2.2.2.1 v.1.2.1.2.2.2.2.2.1 v.1.2.1.2.2.2.2.2.2.1 v.1.2.1.2.2.2.2.2.2.2.1 u0.2.1 (kt33 K)
noncomputable abbrev E33 := ending T Try.f33 an33 0 K
noncomputable def S33 := pickS (R := R) [(42, s42)]
theorem S33_eq : ∀ k, S33 (R := R) k = callC T F k := pickS_eq ⟨s42_eq, trivial⟩
theorem tu33 : tOk (R := R) 33 aa33 ab33 g33 := by
 intro k x y K
 unfold g33
 rw [f33_def]
 cases k with
 | zero => rfl
 | succ k => exact eS Try.f33 an33 0 54 L0 [] (by kernel_rfl) (S33_eq k) (by kernel_rfl) trivial (by kernel_rfl)
noncomputable def s33 := onS (R := R) aa33 ab33 g33 (fun k => callC T F k 33)
theorem s33_eq : sOk (R := R) s33 33 := onS_eq (fun _ _ _ _ => rfl) tu33
noncomputable abbrev kt17 : zK8 R := (fun z0 z1 z2 z3 z4 z5 z6 z7 z8 z9 z10 z11 z12 z13 z14 z15 z16 z17 z18 z19 z20 z21 z22 z23 z24 z25 z26 z27 z28 z29 => K [zi z0] [zr1 z1 z2 z3 z4 z5 z6 z7 z8 z9 z10 z11 z12 z13 z14 z15 z16 z17 z18 z19 z20 z21 z22 z23 z24 z25 z26 z27, ⟨0, .gone⟩, ⟨0, .gone⟩, zr2 z28, zr2 z29])
abbrev aa17 : List Sh := [.ptr 1 0, zv]
abbrev ab17 : List RSh := [zs0, .arr [(0, 0)] zP2, .arr [(0, 0)] zP2]
noncomputable def g17 (k : Nat) (v : Sh.D.DL aa17 × RSh.DL ab17) (K : KT R) : Option R := let u0 := v.2.1.2.2.2.2.2.2.2; let u1 := u0.2.2.2.2.2.2.2; let u2 := u1.2.2.2.2.2.2.2; f17 k v.1.2.1 v.2.1.1 v.2.1.2.1 v.2.1.2.2.1 v.2.1.2.2.2.1 v.2.1.2.2.2.2.1 v.2.1.2.2.2.2.2.1 v.2.1.2.2.2.2.2.2.1 v.2.1.2.2.2.2.2.2.2.1 u0.2.1 u0.2.2.1 u0.2.2.2.1 u0.2.2.2.2.1 u0.2.2.2.2.2.1 u0.2.2.2.2.2.2.1 u0.2.2.2.2.2.2.2.1 u1.2.1 u1.2.2.1 u1.2.2.2.1 u1.2.2.2.2.1 u1.2.2.2.2.2.1 u1.2.2.2.2.2.2.1 u1.2.2.2.2.2.2.2.1 u2.2.1 u2.2.2.1 u2.2.2.2.2.1 u2.2.2.2.2.2.1 u2.2.2.2.2.2.2.2.1 v.2.2.1 v.2.2.2.1 (kt17 K)
noncomputable abbrev E17 := ending T Try.f17 an17 3 K
noncomputable def S17 := pickS (R := R) [(28, s28v1), (29, s29), (30, s30v1), (31, s31), (32, s32), (33, s33)]
theorem S17_eq : ∀ k, S17 (R := R) k = callC T F k := pickS_eq ⟨s28v1_eq, s29_eq, s30v1_eq, s31_eq, s32_eq, s33_eq, trivial⟩
noncomputable abbrev I17_0 : Option R := inner T an17 (modesOf F) 3 k 167 (S17 k) (E17 K) cd17_0 (sh sp17_0 ws rs) N X
abbrev aa17_0 : List Sh := [.ptr 1 0, zv, .rw 6, zv, zv]
abbrev ab17_0 : List RSh := [zs1, .gone, .gone, .arr [(0, 0)] zP2, .arr [(0, 0)] zP2, .arr [(0, 0)] zP0]
noncomputable def L17_0 : Option R :=
 onShape aa17_0 ab17_0 (fun v => let u0 := v.2.1.2.2.2.2.2.2.2; let u1 := u0.2.2.2.2.2.2.2; let u2 := u1.2.2.2.2.2.2.2; f17_0 k (kt17 K) (fun p1 p2 p3 p4 p5 p6 p7 p8 p9 p10 p11 p12 p13 p14 p15 p16 p17 p18 p19 p20 p21 p22 p23 p24 p25 p26 p27 p28 p29 => N (sh jn17_0 [.ptr 1 0, zi v.1.2.1] [zr1 p1 p2 p3 p4 p5 p6 p7 p8 p9 p10 p11 p12 p13 p14 p15 p16 p17 p18 p19 p20 p21 p22 p23 p24 p25 p26 p27, ⟨0, .gone⟩, ⟨0, .gone⟩, zr2 p28, zr2 p29])) v.1.2.1 v.1.2.2.2.1 v.2.2.2.2.2.2.1 k v.1.2.2.2.2.1 v.2.1.1 v.2.1.2.1 v.2.1.2.2.1 v.2.1.2.2.2.1 v.2.1.2.2.2.2.1 v.2.1.2.2.2.2.2.1 v.2.1.2.2.2.2.2.2.1 v.2.1.2.2.2.2.2.2.2.1 u0.2.1 u0.2.2.1 u0.2.2.2.1 u0.2.2.2.2.1 u0.2.2.2.2.2.1 u0.2.2.2.2.2.2.1 u0.2.2.2.2.2.2.2.1 u1.2.1 u1.2.2.1 u1.2.2.2.1 u1.2.2.2.2.1 u1.2.2.2.2.2.1 u1.2.2.2.2.2.2.1 u1.2.2.2.2.2.2.2.1 u2.2.1 u2.2.2.1 u2.2.2.2.2.1 u2.2.2.2.2.2.1 u2.2.2.2.2.2.2.2.1 v.2.2.2.2.1 v.2.2.2.2.2.1) (I17_0 k K ws rs N X) ws rs
noncomputable abbrev I17_2 : Option R := inner T an17 (modesOf F) 3 k 167 (S17 k) (E17 K) cd17_2 (sh sp17_2 ws rs) N X
abbrev aa17_2 : List Sh := [.ptr 1 0, zv, .rw 6, zv, zv]
abbrev ab17_2 : List RSh := [zs1, .gone, .gone, .arr [(0, 0)] zP2, .arr [(0, 0)] zP2, .arr [(0, 0)] zP0]
noncomputable def L17_2 : Option R :=
 onShape aa17_2 ab17_2 (fun v => let u0 := v.2.1.2.2.2.2.2.2.2; let u1 := u0.2.2.2.2.2.2.2; let u2 := u1.2.2.2.2.2.2.2; f17_2 k (kt17 K) (fun p6 p7 p8 p9 p10 p11 p12 p13 => N (sh jn17_2 [.ptr 1 0, zi v.1.2.1] [zr1 v.2.1.1 v.2.1.2.1 v.2.1.2.2.1 v.2.1.2.2.2.1 v.2.1.2.2.2.2.1 p6 p7 p8 p9 p10 p11 p12 p13 u0.2.2.2.2.2.2.1 u0.2.2.2.2.2.2.2.1 u1.2.1 u1.2.2.1 u1.2.2.2.1 u1.2.2.2.2.1 u1.2.2.2.2.2.1 u1.2.2.2.2.2.2.1 u1.2.2.2.2.2.2.2.1 u2.2.1 u2.2.2.1 u2.2.2.2.2.1 u2.2.2.2.2.2.1 u2.2.2.2.2.2.2.2.1, ⟨0, .gone⟩, ⟨0, .gone⟩, zr2 v.2.2.2.2.1, zr2 v.2.2.2.2.2.1])) v.1.2.1 v.1.2.2.2.1 v.2.1.1 v.2.1.2.1 v.2.1.2.2.1 v.2.1.2.2.2.1 v.2.1.2.2.2.2.1 u0.2.2.2.2.2.2.1 u0.2.2.2.2.2.2.2.1 u1.2.1 u1.2.2.1 u1.2.2.2.1 u1.2.2.2.2.1 u1.2.2.2.2.2.1 u1.2.2.2.2.2.2.1 u1.2.2.2.2.2.2.2.1 u2.2.1 u2.2.2.1 u2.2.2.2.2.1 u2.2.2.2.2.2.1 u2.2.2.2.2.2.2.2.1 v.2.2.2.2.1 v.2.2.2.2.2.1 v.2.2.2.2.2.2.1 k v.1.2.2.2.2.1 v.2.1.2.2.2.2.2.1 v.2.1.2.2.2.2.2.2.1 v.2.1.2.2.2.2.2.2.2.1 u0.2.1 u0.2.2.1 u0.2.2.2.1 u0.2.2.2.2.1 u0.2.2.2.2.2.1) (I17_2 k K ws rs N X) ws rs
noncomputable abbrev I17_1000019 : Option R := inner T an17 (modesOf F) 3 k 167 (S17 k) (E17 K) cd17_1000019 (sh sp17_1000019 ws rs) N X
abbrev aa17_1000019 : List Sh := [.ptr 1 0, zv, .val [] .bool]
abbrev ab17_1000019 : List RSh := [zs1, .gone, .gone, .arr [(0, 0)] zP2, .arr [(0, 0)] zP2]
noncomputable def L17_1000019 : Option R :=
 onShape aa17_1000019 ab17_1000019 (fun v => let u0 := v.2.1.2.2.2.2.2.2.2; let u1 := u0.2.2.2.2.2.2.2; let u2 := u1.2.2.2.2.2.2.2; f17_1000019 k (fun p27 => N (sh fi17_19 [.ptr 1 0, zi v.1.2.1] [zr1 v.2.1.1 v.2.1.2.1 v.2.1.2.2.1 v.2.1.2.2.2.1 v.2.1.2.2.2.2.1 v.2.1.2.2.2.2.2.1 v.2.1.2.2.2.2.2.2.1 v.2.1.2.2.2.2.2.2.2.1 u0.2.1 u0.2.2.1 u0.2.2.2.1 u0.2.2.2.2.1 u0.2.2.2.2.2.1 u0.2.2.2.2.2.2.1 u0.2.2.2.2.2.2.2.1 u1.2.1 u1.2.2.1 u1.2.2.2.1 u1.2.2.2.2.1 u1.2.2.2.2.2.1 u1.2.2.2.2.2.2.1 u1.2.2.2.2.2.2.2.1 u2.2.1 u2.2.2.1 u2.2.2.2.2.1 u2.2.2.2.2.2.1 p27, ⟨0, .gone⟩, ⟨0, .gone⟩, zr2 v.2.2.2.2.1, zr2 v.2.2.2.2.2.1])) v.1.2.1 v.1.2.2.1 u2.2.2.2.2.2.2.2.1) (I17_1000019 k K ws rs N X) ws rs
noncomputable def L17 : Option R := bif id == 0 then L17_0 k K ws rs N X else bif id == 2 then L17_2 k K ws rs N X else bif id == 1000019 then L17_1000019 k K ws rs N X else none
theorem i17_0 (c0 c1 : Int) (c32 : zL3) (m : Nat) : ∀ (c2 c3 c4 c5 c6 c7 c8 c9 : Int) (c10 : ByteArray) (c11 : List Int) (c12 : Int) (c13 : zL5) (c14 c15 c16 c17 : Int) (c18 : ByteArray) (c19 : List Int) (c20 : zL5) (c21 c22 c23 c24 : Int) (c25 : List Bool) (c26 : Int) (c27 : List Bool) (c28 c29 : Int) (c30 c31 : zL1),
  iter (atHead an17 3 bd17_0) m (fun st N' => exec T an17 (modesOf F) 3 k 167 (S17 k) (E17 K) bd17_0 st N' (outX an17 3 0 N X)) (sh sp17_0 [.ptr 1 0, zi c0, .rw 6, zi c1, zi c2] [zr1 c3 c4 c5 c6 c7 c8 c9 c10 c11 c12 c13 c14 c15 c16 c17 c18 c19 c20 c21 c22 c23 c24 c25 c26 c27 c28 c29, ⟨0, .gone⟩, ⟨0, .gone⟩, zr2 c30, zr2 c31, zr3 c32]) = f17_0d k (kt17 K) (fun p1 p2 p3 p4 p5 p6 p7 p8 p9 p10 p11 p12 p13 p14 p15 p16 p17 p18 p19 p20 p21 p22 p23 p24 p25 p26 p27 p28 p29 => N (sh jn17_0 [.ptr 1 0, zi c0] [zr1 p1 p2 p3 p4 p5 p6 p7 p8 p9 p10 p11 p12 p13 p14 p15 p16 p17 p18 p19 p20 p21 p22 p23 p24 p25 p26 p27, ⟨0, .gone⟩, ⟨0, .gone⟩, zr2 p28, zr2 p29])) c0 c1 c32 m c2 c3 c4 c5 c6 c7 c8 c9 c10 c11 c12 c13 c14 c15 c16 c17 c18 c19 c20 c21 c22 c23 c24 c25 c26 c27 c28 c29 c30 c31 := by
 induction m with
 | zero => intros; rfl
 | succ m ih =>
   intro c2 c3 c4 c5 c6 c7 c8 c9 c10 c11 c12 c13 c14 c15 c16 c17 c18 c19 c20 c21 c22 c23 c24 c25 c26 c27 c28 c29 c30 c31
   simp only [iter]
   rw [← execS_eq T an17 (modesOf F) 3 k 167 (S17 k) (L17 k K) bd17_0 (cuts_of _ _ _ _ _ _ _ _ bd17_0 (l := []) (by kernel_rfl) trivial)]
   have h := fx30 ih
   simp only [f17_0d]
   rw [← h]
   show _ = _
   kernel_rfl
theorem l17_0 : L17 k K 0 ws rs N X = I17_0 k K ws rs N X := by
 show L17_0 k K ws rs N X = _
 unfold L17_0
 rw [f17_0_def]
 exact onShape_eq (a := aa17_0) (b := ab17_0) (G := fun ws rs => I17_0 k K ws rs N X) (fun x y => Eq.trans (by kernel_rfl) (Eq.trans (i17_0 k K N X x.2.1 x.2.2.2.1 y.2.2.2.2.2.1 k x.2.2.2.2.1 y.1.1 y.1.2.1 y.1.2.2.1 y.1.2.2.2.1 y.1.2.2.2.2.1 y.1.2.2.2.2.2.1 y.1.2.2.2.2.2.2.1 y.1.2.2.2.2.2.2.2.1 y.1.2.2.2.2.2.2.2.2.1 y.1.2.2.2.2.2.2.2.2.2.1 y.1.2.2.2.2.2.2.2.2.2.2.1 y.1.2.2.2.2.2.2.2.2.2.2.2.1 y.1.2.2.2.2.2.2.2.2.2.2.2.2.1 y.1.2.2.2.2.2.2.2.2.2.2.2.2.2.1 y.1.2.2.2.2.2.2.2.2.2.2.2.2.2.2.1 y.1.2.2.2.2.2.2.2.2.2.2.2.2.2.2.2.1 y.1.2.2.2.2.2.2.2.2.2.2.2.2.2.2.2.2.1 y.1.2.2.2.2.2.2.2.2.2.2.2.2.2.2.2.2.2.1 y.1.2.2.2.2.2.2.2.2.2.2.2.2.2.2.2.2.2.2.1 y.1.2.2.2.2.2.2.2.2.2.2.2.2.2.2.2.2.2.2.2.1 y.1.2.2.2.2.2.2.2.2.2.2.2.2.2.2.2.2.2.2.2.2.1 y.1.2.2.2.2.2.2.2.2.2.2.2.2.2.2.2.2.2.2.2.2.2.1 y.1.2.2.2.2.2.2.2.2.2.2.2.2.2.2.2.2.2.2.2.2.2.2.1 y.1.2.2.2.2.2.2.2.2.2.2.2.2.2.2.2.2.2.2.2.2.2.2.2.1 y.1.2.2.2.2.2.2.2.2.2.2.2.2.2.2.2.2.2.2.2.2.2.2.2.2.2.1 y.1.2.2.2.2.2.2.2.2.2.2.2.2.2.2.2.2.2.2.2.2.2.2.2.2.2.2.1 y.1.2.2.2.2.2.2.2.2.2.2.2.2.2.2.2.2.2.2.2.2.2.2.2.2.2.2.2.2.1 y.2.2.2.1 y.2.2.2.2.1).symm (by kernel_rfl))) ws rs
theorem i17_2 (c0 c1 c3 c4 c5 c6 c7 c16 c17 : Int) (c18 : ByteArray) (c19 : List Int) (c20 : zL5) (c21 c22 c23 c24 : Int) (c25 : List Bool) (c26 : Int) (c27 : List Bool) (c28 c29 : Int) (c30 c31 : zL1) (c32 : zL3) (m : Nat) : ∀ (c2 c8 c9 : Int) (c10 : ByteArray) (c11 : List Int) (c12 : Int) (c13 : zL5) (c14 c15 : Int),
  iter (atHead an17 3 bd17_2) m (fun st N' => exec T an17 (modesOf F) 3 k 167 (S17 k) (E17 K) bd17_2 st N' (outX an17 3 2 N X)) (sh sp17_2 [.ptr 1 0, zi c0, .rw 6, zi c1, zi c2] [zr1 c3 c4 c5 c6 c7 c8 c9 c10 c11 c12 c13 c14 c15 c16 c17 c18 c19 c20 c21 c22 c23 c24 c25 c26 c27 c28 c29, ⟨0, .gone⟩, ⟨0, .gone⟩, zr2 c30, zr2 c31, zr3 c32]) = f17_2d k (kt17 K) (fun p6 p7 p8 p9 p10 p11 p12 p13 => N (sh jn17_2 [.ptr 1 0, zi c0] [zr1 c3 c4 c5 c6 c7 p6 p7 p8 p9 p10 p11 p12 p13 c16 c17 c18 c19 c20 c21 c22 c23 c24 c25 c26 c27 c28 c29, ⟨0, .gone⟩, ⟨0, .gone⟩, zr2 c30, zr2 c31])) c0 c1 c3 c4 c5 c6 c7 c16 c17 c18 c19 c20 c21 c22 c23 c24 c25 c26 c27 c28 c29 c30 c31 c32 m c2 c8 c9 c10 c11 c12 c13 c14 c15 := by
 induction m with
 | zero => intros; rfl
 | succ m ih =>
   intro c2 c8 c9 c10 c11 c12 c13 c14 c15
   simp only [iter]
   rw [← execS_eq T an17 (modesOf F) 3 k 167 (S17 k) (L17 k K) bd17_2 (cuts_of _ _ _ _ _ _ _ _ bd17_2 (l := []) (by kernel_rfl) trivial)]
   have h := fx9 ih
   simp only [f17_2d]
   rw [← h]
   show _ = _
   kernel_rfl
theorem l17_2 : L17 k K 2 ws rs N X = I17_2 k K ws rs N X := by
 show L17_2 k K ws rs N X = _
 unfold L17_2
 rw [f17_2_def]
 exact onShape_eq (a := aa17_2) (b := ab17_2) (G := fun ws rs => I17_2 k K ws rs N X) (fun x y => Eq.trans (by kernel_rfl) (Eq.trans (i17_2 k K N X x.2.1 x.2.2.2.1 y.1.1 y.1.2.1 y.1.2.2.1 y.1.2.2.2.1 y.1.2.2.2.2.1 y.1.2.2.2.2.2.2.2.2.2.2.2.2.2.1 y.1.2.2.2.2.2.2.2.2.2.2.2.2.2.2.1 y.1.2.2.2.2.2.2.2.2.2.2.2.2.2.2.2.1 y.1.2.2.2.2.2.2.2.2.2.2.2.2.2.2.2.2.1 y.1.2.2.2.2.2.2.2.2.2.2.2.2.2.2.2.2.2.1 y.1.2.2.2.2.2.2.2.2.2.2.2.2.2.2.2.2.2.2.1 y.1.2.2.2.2.2.2.2.2.2.2.2.2.2.2.2.2.2.2.2.1 y.1.2.2.2.2.2.2.2.2.2.2.2.2.2.2.2.2.2.2.2.2.1 y.1.2.2.2.2.2.2.2.2.2.2.2.2.2.2.2.2.2.2.2.2.2.1 y.1.2.2.2.2.2.2.2.2.2.2.2.2.2.2.2.2.2.2.2.2.2.2.1 y.1.2.2.2.2.2.2.2.2.2.2.2.2.2.2.2.2.2.2.2.2.2.2.2.1 y.1.2.2.2.2.2.2.2.2.2.2.2.2.2.2.2.2.2.2.2.2.2.2.2.2.2.1 y.1.2.2.2.2.2.2.2.2.2.2.2.2.2.2.2.2.2.2.2.2.2.2.2.2.2.2.1 y.1.2.2.2.2.2.2.2.2.2.2.2.2.2.2.2.2.2.2.2.2.2.2.2.2.2.2.2.2.1 y.2.2.2.1 y.2.2.2.2.1 y.2.2.2.2.2.1 k x.2.2.2.2.1 y.1.2.2.2.2.2.1 y.1.2.2.2.2.2.2.1 y.1.2.2.2.2.2.2.2.1 y.1.2.2.2.2.2.2.2.2.1 y.1.2.2.2.2.2.2.2.2.2.1 y.1.2.2.2.2.2.2.2.2.2.2.1 y.1.2.2.2.2.2.2.2.2.2.2.2.1 y.1.2.2.2.2.2.2.2.2.2.2.2.2.1).symm (by kernel_rfl))) ws rs
theorem l17_1000019 : L17 k K 1000019 ws rs N X = I17_1000019 k K ws rs N X := by
 show L17_1000019 k K ws rs N X = _
 unfold L17_1000019
 rw [f17_1000019_def]
 exact lC (L17 k K) [] (by kernel_rfl) trivial fun x y => by kernel_rfl
theorem tu17 : tOk (R := R) 17 aa17 ab17 g17 := by
 intro k x y K
 unfold g17
 rw [f17_def]
 cases k with
 | zero => rfl
 | succ k => exact eS Try.f17 an17 3 167 (L17 k K) [(0, sp17_0, cd17_0), (2, sp17_2, cd17_2), (1000019, sp17_1000019, cd17_1000019)] (by kernel_rfl) (S17_eq k) (by kernel_rfl) ⟨l17_0 k K, l17_2 k K, l17_1000019 k K, trivial⟩ (by kernel_rfl)
noncomputable def s17 := onS (R := R) aa17 ab17 g17 (fun k => callC T F k 17)
theorem s17_eq : sOk (R := R) s17 17 := onS_eq (fun _ _ _ _ => rfl) tu17
noncomputable abbrev kt6 : zK10 R := (fun z0 z1 z2 z3 z4 z5 z6 z7 z8 z9 z10 z11 z12 z13 z14 z15 z16 z17 z18 => K [.agg [zi z0, zi z1, .val [] .str z2, .val [(0, 0)] zT2 z3, zi z4, .val [(0, 0)] zT1 z5, zi z6, zi z7], .agg [zi z8, zi z9, .val [] .str z10, .val [(0, 0)] zT2 z11, .val [(0, 0)] zT1 z12, zi z13, zi z14, zi z15, zi z16], .rw 1, zi z17] [zr10 z18])
abbrev aa6 : List Sh := [.agg [zv, zv, zv, zv, zv], zv, .val [] .str, .val [(0, 0)] zT2, .val [(0, 0)] zT3, .val [(0, 0)] zT3, zv]
abbrev ab6 : List RSh := []
noncomputable def g6 (k : Nat) (v : Sh.D.DL aa6 × RSh.DL ab6) (K : KT R) : Option R := f6 k v.1.1.1 v.1.1.2.1 v.1.1.2.2.1 v.1.1.2.2.2.1 v.1.1.2.2.2.2.1 v.1.2.1 v.1.2.2.1 v.1.2.2.2.1 v.1.2.2.2.2.1 v.1.2.2.2.2.2.1 v.1.2.2.2.2.2.2.1 (kt6 K)
noncomputable abbrev E6 := ending T Try.f6 an6 0 K
noncomputable def S6 := pickS (R := R) [(9, s9), (14, s14), (15, s15), (16, s16), (17, s17)]
theorem S6_eq : ∀ k, S6 (R := R) k = callC T F k := pickS_eq ⟨s9_eq, s14_eq, s15_eq, s16_eq, s17_eq, trivial⟩
noncomputable abbrev I6_0 : Option R := inner T an6 (modesOf F) 0 k 110 (S6 k) (E6 K) cd6_0 (sh sp6_0 ws rs) N X
abbrev aa6_0 : List Sh := [.ptr 1 0, .ptr 2 0, .ptr 3 0, zv, zv]
abbrev ab6_0 : List RSh := [zs7, zs4, zs1, .arr [(0, 0)] zP2, .arr [(0, 0)] zP2]
noncomputable def L6_0 : Option R :=
 onShape aa6_0 ab6_0 (fun v => let u0 := v.2.2.1.2.2.2.2.2.2.2; let u1 := v.2.2.2.1.2.2.2.2.2.2.2; let u2 := u1.2.2.2.2.2.2.2; let u3 := u2.2.2.2.2.2.2.2; f6_0 k (kt6 K) (fun p13 p14 p15 p16 p17 p18 p19 p20 p21 p22 p23 p24 p25 p26 p27 p28 p29 p30 p31 p32 p33 p34 p35 p36 p37 p38 p39 p40 p41 => N (sh jn6_0 [.ptr 1 0, .ptr 2 0, .ptr 3 0] [zr9 v.2.1.1 v.2.1.2.1 v.2.1.2.2.1 v.2.1.2.2.2.2.1 v.2.1.2.2.2.2.2.2.1 v.2.1.2.2.2.2.2.2.2.1, zr6 v.2.2.1.1 v.2.2.1.2.1 v.2.2.1.2.2.1 v.2.2.1.2.2.2.2.2.1 v.2.2.1.2.2.2.2.2.2.1 v.2.2.1.2.2.2.2.2.2.2.1 u0.2.1, zr1 p13 p14 p15 p16 p17 p18 p19 p20 p21 p22 p23 p24 p25 p26 p27 p28 p29 p30 p31 p32 p33 p34 p35 p36 p37 p38 p39, zr2 p40, zr2 p41])) v.1.2.2.2.1 v.2.1.1 v.2.1.2.1 v.2.1.2.2.1 v.2.1.2.2.2.2.1 v.2.1.2.2.2.2.2.2.1 v.2.1.2.2.2.2.2.2.2.1 v.2.2.1.1 v.2.2.1.2.1 v.2.2.1.2.2.1 v.2.2.1.2.2.2.2.2.1 v.2.2.1.2.2.2.2.2.2.1 v.2.2.1.2.2.2.2.2.2.2.1 u0.2.1 k v.1.2.2.2.2.1 v.2.2.2.1.1 v.2.2.2.1.2.1 v.2.2.2.1.2.2.1 v.2.2.2.1.2.2.2.1 v.2.2.2.1.2.2.2.2.1 v.2.2.2.1.2.2.2.2.2.1 v.2.2.2.1.2.2.2.2.2.2.1 v.2.2.2.1.2.2.2.2.2.2.2.1 u1.2.1 u1.2.2.1 u1.2.2.2.1 u1.2.2.2.2.1 u1.2.2.2.2.2.1 u1.2.2.2.2.2.2.1 u1.2.2.2.2.2.2.2.1 u2.2.1 u2.2.2.1 u2.2.2.2.1 u2.2.2.2.2.1 u2.2.2.2.2.2.1 u2.2.2.2.2.2.2.1 u2.2.2.2.2.2.2.2.1 u3.2.1 u3.2.2.1 u3.2.2.2.2.1 u3.2.2.2.2.2.1 u3.2.2.2.2.2.2.2.1 v.2.2.2.2.1 v.2.2.2.2.2.1) (I6_0 k K ws rs N X) ws rs
noncomputable def L6 : Option R := bif id == 0 then L6_0 k K ws rs N X else none
theorem i6_0 (c0 c2 c3 : Int) (c4 : ByteArray) (c5 c6 c7 c8 c9 : Int) (c10 : ByteArray) (c11 c12 c13 c14 : Int) (m : Nat) : ∀ (c1 c15 c16 c17 c18 c19 c20 c21 : Int) (c22 : ByteArray) (c23 : List Int) (c24 : Int) (c25 : zL5) (c26 c27 c28 c29 : Int) (c30 : ByteArray) (c31 : List Int) (c32 : zL5) (c33 c34 c35 c36 : Int) (c37 : List Bool) (c38 : Int) (c39 : List Bool) (c40 c41 : Int) (c42 c43 : zL1),
  iter (atHead an6 0 bd6_0) m (fun st N' => exec T an6 (modesOf F) 0 k 110 (S6 k) (E6 K) bd6_0 st N' (outX an6 0 0 N X)) (sh sp6_0 [.ptr 1 0, .ptr 2 0, .ptr 3 0, zi c0, zi c1] [zr9 c2 c3 c4 c5 c6 c7, zr6 c8 c9 c10 c11 c12 c13 c14, zr1 c15 c16 c17 c18 c19 c20 c21 c22 c23 c24 c25 c26 c27 c28 c29 c30 c31 c32 c33 c34 c35 c36 c37 c38 c39 c40 c41, zr2 c42, zr2 c43]) = f6_0d k (kt6 K) (fun p13 p14 p15 p16 p17 p18 p19 p20 p21 p22 p23 p24 p25 p26 p27 p28 p29 p30 p31 p32 p33 p34 p35 p36 p37 p38 p39 p40 p41 => N (sh jn6_0 [.ptr 1 0, .ptr 2 0, .ptr 3 0] [zr9 c2 c3 c4 c5 c6 c7, zr6 c8 c9 c10 c11 c12 c13 c14, zr1 p13 p14 p15 p16 p17 p18 p19 p20 p21 p22 p23 p24 p25 p26 p27 p28 p29 p30 p31 p32 p33 p34 p35 p36 p37 p38 p39, zr2 p40, zr2 p41])) c0 c2 c3 c4 c5 c6 c7 c8 c9 c10 c11 c12 c13 c14 m c1 c15 c16 c17 c18 c19 c20 c21 c22 c23 c24 c25 c26 c27 c28 c29 c30 c31 c32 c33 c34 c35 c36 c37 c38 c39 c40 c41 c42 c43 := by
 induction m with
 | zero => intros; rfl
 | succ m ih =>
   intro c1 c15 c16 c17 c18 c19 c20 c21 c22 c23 c24 c25 c26 c27 c28 c29 c30 c31 c32 c33 c34 c35 c36 c37 c38 c39 c40 c41 c42 c43
   simp only [iter]
   rw [← execS_eq T an6 (modesOf F) 0 k 110 (S6 k) (L6 k K) bd6_0 (cuts_of _ _ _ _ _ _ _ _ bd6_0 (l := []) (by kernel_rfl) trivial)]
   have h := fx30 ih
   simp only [f6_0d]
   rw [← h]
   show _ = _
   kernel_rfl
theorem l6_0 : L6 k K 0 ws rs N X = I6_0 k K ws rs N X := by
 show L6_0 k K ws rs N X = _
 unfold L6_0
 rw [f6_0_def]
 exact onShape_eq (a := aa6_0) (b := ab6_0) (G := fun ws rs => I6_0 k K ws rs N X) (fun x y => Eq.trans (by kernel_rfl) (Eq.trans (i6_0 k K N X x.2.2.2.1 y.1.1 y.1.2.1 y.1.2.2.1 y.1.2.2.2.2.1 y.1.2.2.2.2.2.2.1 y.1.2.2.2.2.2.2.2.1 y.2.1.1 y.2.1.2.1 y.2.1.2.2.1 y.2.1.2.2.2.2.2.1 y.2.1.2.2.2.2.2.2.1 y.2.1.2.2.2.2.2.2.2.1 y.2.1.2.2.2.2.2.2.2.2.1 k x.2.2.2.2.1 y.2.2.1.1 y.2.2.1.2.1 y.2.2.1.2.2.1 y.2.2.1.2.2.2.1 y.2.2.1.2.2.2.2.1 y.2.2.1.2.2.2.2.2.1 y.2.2.1.2.2.2.2.2.2.1 y.2.2.1.2.2.2.2.2.2.2.1 y.2.2.1.2.2.2.2.2.2.2.2.1 y.2.2.1.2.2.2.2.2.2.2.2.2.1 y.2.2.1.2.2.2.2.2.2.2.2.2.2.1 y.2.2.1.2.2.2.2.2.2.2.2.2.2.2.1 y.2.2.1.2.2.2.2.2.2.2.2.2.2.2.2.1 y.2.2.1.2.2.2.2.2.2.2.2.2.2.2.2.2.1 y.2.2.1.2.2.2.2.2.2.2.2.2.2.2.2.2.2.1 y.2.2.1.2.2.2.2.2.2.2.2.2.2.2.2.2.2.2.1 y.2.2.1.2.2.2.2.2.2.2.2.2.2.2.2.2.2.2.2.1 y.2.2.1.2.2.2.2.2.2.2.2.2.2.2.2.2.2.2.2.2.1 y.2.2.1.2.2.2.2.2.2.2.2.2.2.2.2.2.2.2.2.2.2.1 y.2.2.1.2.2.2.2.2.2.2.2.2.2.2.2.2.2.2.2.2.2.2.1 y.2.2.1.2.2.2.2.2.2.2.2.2.2.2.2.2.2.2.2.2.2.2.2.1 y.2.2.1.2.2.2.2.2.2.2.2.2.2.2.2.2.2.2.2.2.2.2.2.2.1 y.2.2.1.2.2.2.2.2.2.2.2.2.2.2.2.2.2.2.2.2.2.2.2.2.2.1 y.2.2.1.2.2.2.2.2.2.2.2.2.2.2.2.2.2.2.2.2.2.2.2.2.2.2.1 y.2.2.1.2.2.2.2.2.2.2.2.2.2.2.2.2.2.2.2.2.2.2.2.2.2.2.2.2.1 y.2.2.1.2.2.2.2.2.2.2.2.2.2.2.2.2.2.2.2.2.2.2.2.2.2.2.2.2.2.1 y.2.2.1.2.2.2.2.2.2.2.2.2.2.2.2.2.2.2.2.2.2.2.2.2.2.2.2.2.2.2.2.1 y.2.2.2.1 y.2.2.2.2.1).symm (by kernel_rfl))) ws rs
theorem tu6 : tOk (R := R) 6 aa6 ab6 g6 := by
 intro k x y K
 unfold g6
 rw [f6_def]
 cases k with
 | zero => rfl
 | succ k => exact eS Try.f6 an6 0 110 (L6 k K) [(0, sp6_0, cd6_0)] (by kernel_rfl) (S6_eq k) (by kernel_rfl) ⟨l6_0 k K, trivial⟩ (by kernel_rfl)
noncomputable def s6 := onS (R := R) aa6 ab6 g6 (fun k => callC T F k 6)
theorem s6_eq : sOk (R := R) s6 6 := onS_eq (fun _ _ _ _ => rfl) tu6
noncomputable abbrev kt19 : Bool → Option R := (fun z0 => K [.val [] .bool z0] [])
abbrev aa19 : List Sh := [.val [(0, 0)] zT2, .val [(0, 0)] zT2]
abbrev ab19 : List RSh := []
noncomputable def g19 (k : Nat) (v : Sh.D.DL aa19 × RSh.DL ab19) (K : KT R) : Option R := f19 k v.1.1 v.1.2.1 (kt19 K)
noncomputable abbrev E19 := ending T Try.f19 an19 0 K
noncomputable def S19 := pickS (R := R) []
theorem S19_eq : ∀ k, S19 (R := R) k = callC T F k := pickS_eq trivial
theorem tu19 : tOk (R := R) 19 aa19 ab19 g19 := by
 intro k x y K
 unfold g19
 rw [f19_def]
 cases k with
 | zero => rfl
 | succ k => exact eS Try.f19 an19 0 10 L0 [] (by kernel_rfl) (S19_eq k) (by kernel_rfl) trivial (by kernel_rfl)
noncomputable def s19 := onS (R := R) aa19 ab19 g19 (fun k => callC T F k 19)
theorem s19_eq : sOk (R := R) s19 19 := onS_eq (fun _ _ _ _ => rfl) tu19
noncomputable abbrev kt34 : Bool → Option R := (fun z0 => K [.val [] .bool z0] [])
abbrev aa34 : List Sh := [.val [(0, 0)] zT2, .val [(0, 0)] zT2]
abbrev ab34 : List RSh := []
noncomputable def g34 (k : Nat) (v : Sh.D.DL aa34 × RSh.DL ab34) (K : KT R) : Option R := f34 k v.1.1 v.1.2.1 (kt34 K)
noncomputable abbrev E34 := ending T Try.f34 an34 0 K
noncomputable def S34 := pickS (R := R) [(19, s19)]
theorem S34_eq : ∀ k, S34 (R := R) k = callC T F k := pickS_eq ⟨s19_eq, trivial⟩
theorem tu34 : tOk (R := R) 34 aa34 ab34 g34 := by
 intro k x y K
 unfold g34
 rw [f34_def]
 cases k with
 | zero => rfl
 | succ k => exact eS Try.f34 an34 0 18 L0 [] (by kernel_rfl) (S34_eq k) (by kernel_rfl) trivial (by kernel_rfl)
noncomputable def s34 := onS (R := R) aa34 ab34 g34 (fun k => callC T F k 34)
theorem s34_eq : sOk (R := R) s34 34 := onS_eq (fun _ _ _ _ => rfl) tu34
noncomputable abbrev kt35 : Int → Int → Option R := (fun z0 z1 => K [zi z0, zi z1] [])
abbrev aa35 : List Sh := [.val [(0, 0)] zT2]
abbrev ab35 : List RSh := []
noncomputable def g35 (k : Nat) (v : Sh.D.DL aa35 × RSh.DL ab35) (K : KT R) : Option R := f35 k v.1.1 (kt35 K)
noncomputable abbrev E35 := ending T Try.f35 an35 0 K
noncomputable def S35 := pickS (R := R) []
theorem S35_eq : ∀ k, S35 (R := R) k = callC T F k := pickS_eq trivial
noncomputable abbrev I35_0 : Option R := inner T an35 (modesOf F) 0 k 35 (S35 k) (E35 K) cd35_0 (sh sp35_0 ws rs) N X
abbrev aa35_0 : List Sh := [.val [(0, 0)] zT2, zv, zv, zv]
abbrev ab35_0 : List RSh := []
noncomputable def L35_0 : Option R :=
 onShape aa35_0 ab35_0 (fun v => f35_0 k (kt35 K) (N (sh jn35_0 [] [])) v.1.1 k v.1.2.1 v.1.2.2.1 v.1.2.2.2.1) (I35_0 k K ws rs N X) ws rs
noncomputable def L35 : Option R := bif id == 0 then L35_0 k K ws rs N X else none
theorem i35_0 (c0 : List Int) (m : Nat) : ∀ (c1 c2 c3 : Int),
  iter (atHead an35 0 bd35_0) m (fun st N' => exec T an35 (modesOf F) 0 k 35 (S35 k) (E35 K) bd35_0 st N' (outX an35 0 0 N X)) (sh sp35_0 [.val [(0, 0)] zT2 c0, zi c1, zi c2, zi c3] []) = f35_0d k (kt35 K) (N (sh jn35_0 [] [])) c0 m c1 c2 c3 := by
 induction m with
 | zero => intros; rfl
 | succ m ih =>
   intro c1 c2 c3
   simp only [iter]
   rw [← execS_eq T an35 (modesOf F) 0 k 35 (S35 k) (L35 k K) bd35_0 (cuts_of _ _ _ _ _ _ _ _ bd35_0 (l := []) (by kernel_rfl) trivial)]
   have h := fx3 ih
   simp only [f35_0d]
   rw [← h]
   show _ = _
   kernel_rfl
theorem l35_0 : L35 k K 0 ws rs N X = I35_0 k K ws rs N X := by
 show L35_0 k K ws rs N X = _
 unfold L35_0
 rw [f35_0_def]
 exact onShape_eq (a := aa35_0) (b := ab35_0) (G := fun ws rs => I35_0 k K ws rs N X) (fun x y => Eq.trans (by kernel_rfl) (Eq.trans (i35_0 k K N X x.1 k x.2.1 x.2.2.1 x.2.2.2.1).symm (by kernel_rfl))) ws rs
theorem tu35 : tOk (R := R) 35 aa35 ab35 g35 := by
 intro k x y K
 unfold g35
 rw [f35_def]
 cases k with
 | zero => rfl
 | succ k => exact eS Try.f35 an35 0 35 (L35 k K) [(0, sp35_0, cd35_0)] (by kernel_rfl) (S35_eq k) (by kernel_rfl) ⟨l35_0 k K, trivial⟩ (by kernel_rfl)
noncomputable def s35 := onS (R := R) aa35 ab35 g35 (fun k => callC T F k 35)
theorem s35_eq : sOk (R := R) s35 35 := onS_eq (fun _ _ _ _ => rfl) tu35
end Go.Proofs.Ytoepnomdklhhlaa.PM
