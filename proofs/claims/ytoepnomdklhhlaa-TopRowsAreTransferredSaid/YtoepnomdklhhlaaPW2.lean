/- The small machine's run is the typed form (printed by a program of this work). -/
import Derived.Test.YtoepnomdklhhlaaPW1
set_option linter.unusedVariables false
set_option linter.unusedSimpArgs false
set_option maxRecDepth 100000
namespace Go.Proofs.Ytoepnomdklhhlaa.PM
open Go
variable {R : Type} (k : Nat) (K : KT R) (id : Nat) (ws : List PV) (rs : List RowS) (N : St → Option R) (X : Nat → St → Option R)
noncomputable abbrev kt18 : Bool → List Int → Option R := (fun z0 z1 => K [.rw 1, .val [] .bool z0] [zr10 z1])
abbrev aa18 : List Sh := [.val [(0, 0)] zT2]
abbrev ab18 : List RSh := []
noncomputable def g18 (k : Nat) (v : Sh.D.DL aa18 × RSh.DL ab18) (K : KT R) : Option R := f18 k v.1.1 (kt18 K)
noncomputable abbrev E18 := ending T Try.f18 an18 0 K
noncomputable def S18 := pickS (R := R) [(9, s9), (34, s34), (35, s35)]
theorem S18_eq : ∀ k, S18 (R := R) k = callC T F k := pickS_eq ⟨s9_eq, s34_eq, s35_eq, trivial⟩
noncomputable abbrev I18_1000010 : Option R := inner T an18 (modesOf F) 0 k 98 (S18 k) (E18 K) cd18_1000010 (sh sp18_1000010 ws rs) N X
abbrev aa18_1000010 : List Sh := [.val [(0, 0)] zT2, zv, .rw 1, zv, .val [] .bool, .val [] .bool]
abbrev ab18_1000010 : List RSh := [.arr [] (.int .i64)]
noncomputable def L18_1000010 : Option R :=
 onShape aa18_1000010 ab18_1000010 (fun v => f18_1000010 k (fun p0 => N (sh fi18_10 [.val [(0, 0)] zT2 p0, zi v.1.2.1, .rw 1, zi v.1.2.2.2.1, .val [] .bool v.1.2.2.2.2.1] [zr10 v.2.1])) v.1.1 v.1.2.2.2.2.2.1) (I18_1000010 k K ws rs N X) ws rs
noncomputable abbrev I18_3 : Option R := inner T an18 (modesOf F) 0 k 98 (S18 k) (E18 K) cd18_3 (sh sp18_3 ws rs) N X
abbrev aa18_3 : List Sh := [.val [(0, 0)] zT2, zv, .rw 1, zv, zv, zv]
abbrev ab18_3 : List RSh := [.arr [] (.int .i64)]
noncomputable def L18_3 : Option R :=
 onShape aa18_3 ab18_3 (fun v => f18_3 k (fun p3 => N (sh jn18_3 [.val [(0, 0)] zT2 v.1.1, zi v.1.2.1, .rw 1, zi v.1.2.2.2.1] [zr10 p3])) v.1.1 v.1.2.1 v.1.2.2.2.1 v.1.2.2.2.2.1 k v.1.2.2.2.2.2.1 v.2.1) (I18_3 k K ws rs N X) ws rs
noncomputable abbrev I18_1000016 : Option R := inner T an18 (modesOf F) 0 k 98 (S18 k) (E18 K) cd18_1000016 (sh sp18_1000016 ws rs) N X
abbrev aa18_1000016 : List Sh := [.val [(0, 0)] zT2, zv, .rw 1, zv, zv, .val [] .bool]
abbrev ab18_1000016 : List RSh := [.arr [] (.int .i64)]
noncomputable def L18_1000016 : Option R :=
 onShape aa18_1000016 ab18_1000016 (fun v => f18_1000016 k (fun p2 => N (sh fi18_16 [.val [(0, 0)] zT2 v.1.1, zi v.1.2.1, .rw 1, zi p2] [zr10 v.2.1])) v.1.2.2.2.1 v.1.2.2.2.2.1 v.1.2.2.2.2.2.1) (I18_1000016 k K ws rs N X) ws rs
noncomputable abbrev I18_1000022 : Option R := inner T an18 (modesOf F) 0 k 98 (S18 k) (E18 K) cd18_1000022 (sh sp18_1000022 ws rs) N X
abbrev aa18_1000022 : List Sh := [.val [(0, 0)] zT2, zv, .rw 1, zv, zv, .val [] .bool]
abbrev ab18_1000022 : List RSh := [.arr [] (.int .i64)]
noncomputable def L18_1000022 : Option R :=
 onShape aa18_1000022 ab18_1000022 (fun v => f18_1000022 k (fun p2 p3 => N (sh fi18_22 [.val [(0, 0)] zT2 v.1.1, zi v.1.2.1, .rw 1, zi p2] [zr10 p3])) v.1.1 v.1.2.1 v.1.2.2.2.1 v.1.2.2.2.2.1 v.1.2.2.2.2.2.1 v.2.1) (I18_1000022 k K ws rs N X) ws rs
noncomputable abbrev I18_0 : Option R := inner T an18 (modesOf F) 0 k 98 (S18 k) (E18 K) cd18_0 (sh sp18_0 ws rs) N X
abbrev aa18_0 : List Sh := [.val [(0, 0)] zT2, zv, .rw 1, zv]
abbrev ab18_0 : List RSh := [.arr [] (.int .i64)]
noncomputable def L18_0 : Option R :=
 onShape aa18_0 ab18_0 (fun v => f18_0 k (kt18 K) (fun p1 => N (sh jn18_0 [zi v.1.2.1, .rw 1] [zr10 p1])) v.1.2.1 k v.1.1 v.1.2.2.2.1 v.2.1) (I18_0 k K ws rs N X) ws rs
noncomputable def L18 : Option R := bif id == 1000010 then L18_1000010 k K ws rs N X else bif id == 3 then L18_3 k K ws rs N X else bif id == 1000016 then L18_1000016 k K ws rs N X else bif id == 1000022 then L18_1000022 k K ws rs N X else bif id == 0 then L18_0 k K ws rs N X else none
theorem l18_1000010 : L18 k K 1000010 ws rs N X = I18_1000010 k K ws rs N X := by
 show L18_1000010 k K ws rs N X = _
 unfold L18_1000010
 rw [f18_1000010_def]
 exact lC (L18 k K) [] (by kernel_rfl) trivial fun x y => by kernel_rfl
theorem i18_3 (c0 : List Int) (c1 c2 c3 : Int) (m : Nat) : ∀ (c4 : Int) (c5 : List Int),
  iter (atHead an18 0 bd18_3) m (fun st N' => exec T an18 (modesOf F) 0 k 98 (S18 k) (E18 K) bd18_3 st N' (outX an18 0 3 N X)) (sh sp18_3 [.val [(0, 0)] zT2 c0, zi c1, .rw 1, zi c2, zi c3, zi c4] [zr10 c5]) = f18_3d k (fun p3 => N (sh jn18_3 [.val [(0, 0)] zT2 c0, zi c1, .rw 1, zi c2] [zr10 p3])) c0 c1 c2 c3 m c4 c5 := by
 induction m with
 | zero => intros; rfl
 | succ m ih =>
   intro c4 c5
   simp only [iter]
   rw [← execS_eq T an18 (modesOf F) 0 k 98 (S18 k) (L18 k K) bd18_3 (cuts_of _ _ _ _ _ _ _ _ bd18_3 (l := []) (by kernel_rfl) trivial)]
   have h := fx2 ih
   simp only [f18_3d]
   rw [← h]
   show _ = _
   kernel_rfl
theorem l18_3 : L18 k K 3 ws rs N X = I18_3 k K ws rs N X := by
 show L18_3 k K ws rs N X = _
 unfold L18_3
 rw [f18_3_def]
 exact onShape_eq (a := aa18_3) (b := ab18_3) (G := fun ws rs => I18_3 k K ws rs N X) (fun x y => Eq.trans (by kernel_rfl) (Eq.trans (i18_3 k K N X x.1 x.2.1 x.2.2.2.1 x.2.2.2.2.1 k x.2.2.2.2.2.1 y.1).symm (by kernel_rfl))) ws rs
theorem l18_1000016 : L18 k K 1000016 ws rs N X = I18_1000016 k K ws rs N X := by
 show L18_1000016 k K ws rs N X = _
 unfold L18_1000016
 rw [f18_1000016_def]
 exact lC (L18 k K) [] (by kernel_rfl) trivial fun x y => by kernel_rfl
theorem l18_1000022 : L18 k K 1000022 ws rs N X = I18_1000022 k K ws rs N X := by
 show L18_1000022 k K ws rs N X = _
 unfold L18_1000022
 rw [f18_1000022_def]
 exact lC (L18 k K) [(3, sp18_3, cd18_3), (1000016, sp18_1000016, cd18_1000016)] (by kernel_rfl) ⟨l18_3 k K, l18_1000016 k K, trivial⟩ fun x y => by kernel_rfl
theorem i18_0 (c1 : Int) (m : Nat) : ∀ (c0 : List Int) (c2 : Int) (c3 : List Int),
  iter (atHead an18 0 bd18_0) m (fun st N' => exec T an18 (modesOf F) 0 k 98 (S18 k) (E18 K) bd18_0 st N' (outX an18 0 0 N X)) (sh sp18_0 [.val [(0, 0)] zT2 c0, zi c1, .rw 1, zi c2] [zr10 c3]) = f18_0d k (kt18 K) (fun p1 => N (sh jn18_0 [zi c1, .rw 1] [zr10 p1])) c1 m c0 c2 c3 := by
 induction m with
 | zero => intros; rfl
 | succ m ih =>
   intro c0 c2 c3
   simp only [iter]
   rw [← execS_eq T an18 (modesOf F) 0 k 98 (S18 k) (L18 k K) bd18_0 (cuts_of _ _ _ _ _ _ _ _ bd18_0 (l := [(1000010, sp18_1000010, cd18_1000010), (1000022, sp18_1000022, cd18_1000022)]) (by kernel_rfl) ⟨l18_1000010 k K, l18_1000022 k K, trivial⟩)]
   have h := fx3 ih
   simp only [f18_0d]
   rw [← h]
   show _ = _
   kernel_rfl
theorem l18_0 : L18 k K 0 ws rs N X = I18_0 k K ws rs N X := by
 show L18_0 k K ws rs N X = _
 unfold L18_0
 rw [f18_0_def]
 exact onShape_eq (a := aa18_0) (b := ab18_0) (G := fun ws rs => I18_0 k K ws rs N X) (fun x y => Eq.trans (by kernel_rfl) (Eq.trans (i18_0 k K N X x.2.1 k x.1 x.2.2.2.1 y.1).symm (by kernel_rfl))) ws rs
theorem tu18 : tOk (R := R) 18 aa18 ab18 g18 := by
 intro k x y K
 unfold g18
 rw [f18_def]
 cases k with
 | zero => rfl
 | succ k => exact eS Try.f18 an18 0 98 (L18 k K) [(0, sp18_0, cd18_0)] (by kernel_rfl) (S18_eq k) (by kernel_rfl) ⟨l18_0 k K, trivial⟩ (by kernel_rfl)
noncomputable def s18 := onS (R := R) aa18 ab18 g18 (fun k => callC T F k 18)
theorem s18_eq : sOk (R := R) s18 18 := onS_eq (fun _ _ _ _ => rfl) tu18
noncomputable abbrev kt7 : Int → List Int → Option R := (fun z0 z1 => K [.rw 1, zi z0] [zr10 z1])
abbrev aa7 : List Sh := [.val [(0, 0)] zT2]
abbrev ab7 : List RSh := []
noncomputable def g7 (k : Nat) (v : Sh.D.DL aa7 × RSh.DL ab7) (K : KT R) : Option R := f7 k v.1.1 (kt7 K)
noncomputable abbrev E7 := ending T Try.f7 an7 0 K
noncomputable def S7 := pickS (R := R) [(10, s10), (18, s18), (19, s19)]
theorem S7_eq : ∀ k, S7 (R := R) k = callC T F k := pickS_eq ⟨s10_eq, s18_eq, s19_eq, trivial⟩
theorem tu7 : tOk (R := R) 7 aa7 ab7 g7 := by
 intro k x y K
 unfold g7
 rw [f7_def]
 cases k with
 | zero => rfl
 | succ k => exact eS Try.f7 an7 0 24 L0 [] (by kernel_rfl) (S7_eq k) (by kernel_rfl) trivial (by kernel_rfl)
noncomputable def s7 := onS (R := R) aa7 ab7 g7 (fun k => callC T F k 7)
theorem s7_eq : sOk (R := R) s7 7 := onS_eq (fun _ _ _ _ => rfl) tu7
noncomputable abbrev kt8 : Bool → Option R := (fun z0 => K [.val [] .bool z0] [])
abbrev aa8 : List Sh := [.val [(0, 0)] zP3, .val [(0, 0)] zP3]
abbrev ab8 : List RSh := []
noncomputable def g8 (k : Nat) (v : Sh.D.DL aa8 × RSh.DL ab8) (K : KT R) : Option R := f8 k v.1.1 v.1.2.1 (kt8 K)
noncomputable abbrev E8 := ending T Try.f8 an8 0 K
noncomputable def S8 := pickS (R := R) []
theorem S8_eq : ∀ k, S8 (R := R) k = callC T F k := pickS_eq trivial
noncomputable abbrev I8_0 : Option R := inner T an8 (modesOf F) 0 k 26 (S8 k) (E8 K) cd8_0 (sh sp8_0 ws rs) N X
abbrev aa8_0 : List Sh := [.val [(0, 0)] zP3, .val [(0, 0)] zP3, zv, zv]
abbrev ab8_0 : List RSh := []
noncomputable def L8_0 : Option R :=
 onShape aa8_0 ab8_0 (fun v => f8_0 k (kt8 K) (N (sh jn8_0 [] [])) v.1.1 v.1.2.1 v.1.2.2.1 k v.1.2.2.2.1) (I8_0 k K ws rs N X) ws rs
noncomputable def L8 : Option R := bif id == 0 then L8_0 k K ws rs N X else none
theorem i8_0 (c0 c1 : List Int) (c2 : Int) (m : Nat) : ∀ (c3 : Int),
  iter (atHead an8 0 bd8_0) m (fun st N' => exec T an8 (modesOf F) 0 k 26 (S8 k) (E8 K) bd8_0 st N' (outX an8 0 0 N X)) (sh sp8_0 [.val [(0, 0)] zP3 c0, .val [(0, 0)] zP3 c1, zi c2, zi c3] []) = f8_0d k (kt8 K) (N (sh jn8_0 [] [])) c0 c1 c2 m c3 := by
 induction m with
 | zero => intros; rfl
 | succ m ih =>
   intro c3
   simp only [iter]
   rw [← execS_eq T an8 (modesOf F) 0 k 26 (S8 k) (L8 k K) bd8_0 (cuts_of _ _ _ _ _ _ _ _ bd8_0 (l := []) (by kernel_rfl) trivial)]
   have h := fx1 ih
   simp only [f8_0d]
   rw [← h]
   show _ = _
   kernel_rfl
theorem l8_0 : L8 k K 0 ws rs N X = I8_0 k K ws rs N X := by
 show L8_0 k K ws rs N X = _
 unfold L8_0
 rw [f8_0_def]
 exact onShape_eq (a := aa8_0) (b := ab8_0) (G := fun ws rs => I8_0 k K ws rs N X) (fun x y => Eq.trans (by kernel_rfl) (Eq.trans (i8_0 k K N X x.1 x.2.1 x.2.2.1 k x.2.2.2.1).symm (by kernel_rfl))) ws rs
theorem tu8 : tOk (R := R) 8 aa8 ab8 g8 := by
 intro k x y K
 unfold g8
 rw [f8_def]
 cases k with
 | zero => rfl
 | succ k => exact eS Try.f8 an8 0 26 (L8 k K) [(0, sp8_0, cd8_0)] (by kernel_rfl) (S8_eq k) (by kernel_rfl) ⟨l8_0 k K, trivial⟩ (by kernel_rfl)
noncomputable def s8 := onS (R := R) aa8 ab8 g8 (fun k => callC T F k 8)
theorem s8_eq : sOk (R := R) s8 8 := onS_eq (fun _ _ _ _ => rfl) tu8
noncomputable abbrev kt3 : Bool → Option R := (fun z0 => K [.val [] .bool z0] [])
abbrev aa3 : List Sh := [.agg [zv, zv, zv, zv, zv], .val [(0, 0)] zP3, .val [(0, 0)] zT3, .val [(0, 0)] zT3]
abbrev ab3 : List RSh := []
noncomputable def g3 (k : Nat) (v : Sh.D.DL aa3 × RSh.DL ab3) (K : KT R) : Option R := f3 k v.1.1.1 v.1.1.2.1 v.1.1.2.2.1 v.1.1.2.2.2.1 v.1.1.2.2.2.2.1 v.1.2.1 v.1.2.2.1 v.1.2.2.2.1 (kt3 K)
noncomputable abbrev E3 := ending T Try.f3 an3 0 K
noncomputable def S3 := pickS (R := R) [(4, s4), (5, s5), (6, s6), (7, s7), (8, s8)]
theorem S3_eq : ∀ k, S3 (R := R) k = callC T F k := pickS_eq ⟨s4_eq, s5_eq, s6_eq, s7_eq, s8_eq, trivial⟩
theorem e3 (k : Nat) (a0 a1 a2 a3 a4 : Int) (a5 : List Int) (a6 a7 : List Bool) (K : KT R) : callC T F k 3 [.agg [zi a0, zi a1, zi a2, zi a3, zi a4], .val [(0, 0)] zP3 a5, .val [(0, 0)] zT3 a6, .val [(0, 0)] zT3 a7] [] K = f3 k a0 a1 a2 a3 a4 a5 a6 a7 (kt3 K) := by
 rw [f3_def]
 cases k with
 | zero => rfl
 | succ k => exact eS Try.f3 an3 0 62 L0 [] (by kernel_rfl) (S3_eq k) (by kernel_rfl) trivial (by kernel_rfl)
end Go.Proofs.Ytoepnomdklhhlaa.PM
