/- The small machine's run is the typed form (printed by a program of this work). -/
import Derived.Test.YtoepnomdklhhlaaGreatPW1
set_option linter.unusedVariables false
set_option linter.unusedSimpArgs false
set_option maxRecDepth 100000
namespace Go.Proofs.YtoepnomdklhhlaaGreat.PM
open Go
variable {R : Type} (k : Nat) (K : KT R) (id : Nat) (ws : List PV) (rs : List RowS) (N : St → Option R) (X : Nat → St → Option R)
noncomputable abbrev kt14 : Bool → Option R := (fun z0 => K [.val [] .bool z0] [])
abbrev aa14 : List Sh := [.val [(0, 0)] zT2, .val [(0, 0)] zT2]
abbrev ab14 : List RSh := []
noncomputable def g14 (k : Nat) (v : Sh.D.DL aa14 × RSh.DL ab14) (K : KT R) : Option R := f14 k v.1.1 v.1.2.1 (kt14 K)
noncomputable abbrev E14 := ending T Tryz.f14 an14 0 K
noncomputable def S14 := pickS (R := R) []
theorem S14_eq : ∀ k, S14 (R := R) k = callC T F k := pickS_eq trivial
noncomputable abbrev I14_0 : Option R := inner T an14 (modesOf F) 0 k 26 (S14 k) (E14 K) cd14_0 (sh sp14_0 ws rs) N X
abbrev aa14_0 : List Sh := [.val [(0, 0)] zT2, .val [(0, 0)] zT2, zv, zv]
abbrev ab14_0 : List RSh := []
noncomputable def L14_0 : Option R :=
  onShape aa14_0 ab14_0 (fun v => f14_0 k (kt14 K) (N (sh jn14_0 [] [])) v.1.1 v.1.2.1 v.1.2.2.1 k v.1.2.2.2.1) (I14_0 k K ws rs N X) ws rs
noncomputable def L14 : Option R := bif id == 0 then L14_0 k K ws rs N X else none
theorem i14_0 (c0 c1 : List Int) (c2 : Int) (m : Nat) : ∀ (c3 : Int),
    iter (atHead an14 0 bd14_0) m (fun st N' => exec T an14 (modesOf F) 0 k 26 (S14 k) (E14 K) bd14_0 st N' (outX an14 0 0 N X)) (sh sp14_0 [.val [(0, 0)] zT2 c0, .val [(0, 0)] zT2 c1, zi c2, zi c3] []) = f14_0d k (kt14 K) (N (sh jn14_0 [] [])) c0 c1 c2 m c3 := by
  induction m with
  | zero => intros; rfl
  | succ m ih =>
    intro c3
    simp only [iter]
    rw [← execS_eq T an14 (modesOf F) 0 k 26 (S14 k) (L14 k K) bd14_0 (cuts_of _ _ _ _ _ _ _ _ bd14_0 (l := []) (by kernel_rfl) trivial)]
    have h := fx1 ih
    simp only [f14_0d]
    rw [← h]
    show _ = _
    kernel_rfl
theorem l14_0 : L14 k K 0 ws rs N X = I14_0 k K ws rs N X := by
  show L14_0 k K ws rs N X = _
  unfold L14_0
  rw [f14_0_def]
  exact onShape_eq (a := aa14_0) (b := ab14_0) (G := fun ws rs => I14_0 k K ws rs N X) (fun x y => Eq.trans (by kernel_rfl) (Eq.trans (i14_0 k K N X x.1 x.2.1 x.2.2.1 k x.2.2.2.1).symm (by kernel_rfl))) ws rs
theorem tu14 : tOk (R := R) 14 aa14 ab14 g14 := by
  intro k x y K
  unfold g14
  rw [f14_def]
  cases k with
  | zero => rfl
  | succ k => exact eS Tryz.f14 an14 0 26 (L14 k K) [(0, sp14_0, cd14_0)] (by kernel_rfl) (S14_eq k) (by kernel_rfl) ⟨l14_0 k K, trivial⟩ (by kernel_rfl)
noncomputable def s14 := onS (R := R) aa14 ab14 g14 (fun k => callC T F k 14)
theorem s14_eq : sOk (R := R) s14 14 := onS_eq (fun _ _ _ _ => rfl) tu14
noncomputable abbrev kt39 : Int → Option R := (fun z0 => K [zi z0] [])
abbrev aa39 : List Sh := [.agg [zv, zv, .val [(0, 0)] zP3]]
abbrev ab39 : List RSh := []
noncomputable def g39 (k : Nat) (v : Sh.D.DL aa39 × RSh.DL ab39) (K : KT R) : Option R := f39 k v.1.1.1 v.1.1.2.1 v.1.1.2.2.1 (kt39 K)
noncomputable abbrev E39 := ending T Tryz.f39 an39 0 K
noncomputable def S39 := pickS (R := R) [(26, s26)]
theorem S39_eq : ∀ k, S39 (R := R) k = callC T F k := pickS_eq ⟨s26_eq, trivial⟩
noncomputable abbrev I39_1 : Option R := inner T an39 (modesOf F) 0 k 54 (S39 k) (E39 K) cd39_1 (sh sp39_1 ws rs) N X
abbrev aa39_1 : List Sh := [.ptr 1 0, .val [(0, 0)] zP3, zv, zv]
abbrev ab39_1 : List RSh := [.vars [zv, zv, .val [(0, 0)] zP3]]
noncomputable def L39_1 : Option R :=
  onShape aa39_1 ab39_1 (fun v => f39_1 k (kt39 K) (N (sh jn39_1 [] [])) v.1.2.1 v.1.2.2.1 v.2.1.1 v.2.1.2.1 v.2.1.2.2.1 k v.1.2.2.2.1) (I39_1 k K ws rs N X) ws rs
noncomputable def L39 : Option R := bif id == 1 then L39_1 k K ws rs N X else none
theorem i39_1 (c0 : List Int) (c1 c3 c4 : Int) (c5 : List Int) (m : Nat) : ∀ (c2 : Int),
    iter (atHead an39 0 bd39_1) m (fun st N' => exec T an39 (modesOf F) 0 k 54 (S39 k) (E39 K) bd39_1 st N' (outX an39 0 1 N X)) (sh sp39_1 [.ptr 1 0, .val [(0, 0)] zP3 c0, zi c1, zi c2] [⟨0, .vars [zi c3, zi c4, .val [(0, 0)] zP3 c5]⟩]) = f39_1d k (kt39 K) (N (sh jn39_1 [] [])) c0 c1 c3 c4 c5 m c2 := by
  induction m with
  | zero => intros; rfl
  | succ m ih =>
    intro c2
    simp only [iter]
    rw [← execS_eq T an39 (modesOf F) 0 k 54 (S39 k) (L39 k K) bd39_1 (cuts_of _ _ _ _ _ _ _ _ bd39_1 (l := []) (by kernel_rfl) trivial)]
    have h := fx1 ih
    simp only [f39_1d]
    rw [← h]
    show _ = _
    kernel_rfl
theorem l39_1 : L39 k K 1 ws rs N X = I39_1 k K ws rs N X := by
  show L39_1 k K ws rs N X = _
  unfold L39_1
  rw [f39_1_def]
  exact onShape_eq (a := aa39_1) (b := ab39_1) (G := fun ws rs => I39_1 k K ws rs N X) (fun x y => Eq.trans (by kernel_rfl) (Eq.trans (i39_1 k K N X x.2.1 x.2.2.1 y.1.1 y.1.2.1 y.1.2.2.1 k x.2.2.2.1).symm (by kernel_rfl))) ws rs
theorem tu39 : tOk (R := R) 39 aa39 ab39 g39 := by
  intro k x y K
  unfold g39
  rw [f39_def]
  cases k with
  | zero => rfl
  | succ k => exact eS Tryz.f39 an39 0 54 (L39 k K) [(1, sp39_1, cd39_1)] (by kernel_rfl) (S39_eq k) (by kernel_rfl) ⟨l39_1 k K, trivial⟩ (by kernel_rfl)
noncomputable def s39 := onS (R := R) aa39 ab39 g39 (fun k => callC T F k 39)
theorem s39_eq : sOk (R := R) s39 39 := onS_eq (fun _ _ _ _ => rfl) tu39
noncomputable abbrev kt40 : List Int → Option R := (fun z0 => K [.rw 1] [zr11 z0])
abbrev aa40 : List Sh := [.val [(0, 0)] zP3]
abbrev ab40 : List RSh := []
noncomputable def g40 (k : Nat) (v : Sh.D.DL aa40 × RSh.DL ab40) (K : KT R) : Option R := f40 k v.1.1 (kt40 K)
theorem e40 (k : Nat) (a0 : List Int) (K : KT R) : callC T F k 40 [.val [(0, 0)] zP3 a0] [] K = f40 k a0 (kt40 K) := by
  rw [f40_def]
  cases k with
  | zero => rfl
  | succ k => exact clone_call (m := [.lend (.int .i64)]) (ty := (.int .i64)) (bytes := 8) (by kernel_rfl) a0 K
theorem tu40 : tOk (R := R) 40 aa40 ab40 g40 := fun k x y K => e40 k x.1 K
noncomputable def s40 := onS (R := R) aa40 ab40 g40 (fun k => callC T F k 40)
theorem s40_eq : sOk (R := R) s40 40 := onS_eq (fun _ _ _ _ => rfl) tu40
noncomputable abbrev kt76 : Int → Option R := (fun z0 => K [.val [] (.int .u64) z0] [])
abbrev aa76 : List Sh := [.val [(0, 0)] zT2]
abbrev ab76 : List RSh := []
noncomputable def g76 (k : Nat) (v : Sh.D.DL aa76 × RSh.DL ab76) (K : KT R) : Option R := f76 k v.1.1 (kt76 K)
noncomputable abbrev E76 := ending T Tryz.f76 an76 0 K
noncomputable def S76 := pickS (R := R) []
theorem S76_eq : ∀ k, S76 (R := R) k = callC T F k := pickS_eq trivial
noncomputable abbrev I76_0 : Option R := inner T an76 (modesOf F) 0 k 20 (S76 k) (E76 K) cd76_0 (sh sp76_0 ws rs) N X
abbrev aa76_0 : List Sh := [.val [] (.int .u64), .val [(0, 0)] zT2, zv, zv]
abbrev ab76_0 : List RSh := []
noncomputable def L76_0 : Option R :=
  onShape aa76_0 ab76_0 (fun v => f76_0 k (fun p0 => N (sh jn76_0 [.val [] (.int .u64) p0] [])) v.1.2.1 v.1.2.2.1 k v.1.1 v.1.2.2.2.1) (I76_0 k K ws rs N X) ws rs
noncomputable def L76 : Option R := bif id == 0 then L76_0 k K ws rs N X else none
theorem i76_0 (c1 : List Int) (c2 : Int) (m : Nat) : ∀ (c0 c3 : Int),
    iter (atHead an76 0 bd76_0) m (fun st N' => exec T an76 (modesOf F) 0 k 20 (S76 k) (E76 K) bd76_0 st N' (outX an76 0 0 N X)) (sh sp76_0 [.val [] (.int .u64) c0, .val [(0, 0)] zT2 c1, zi c2, zi c3] []) = f76_0d k (fun p0 => N (sh jn76_0 [.val [] (.int .u64) p0] [])) c1 c2 m c0 c3 := by
  induction m with
  | zero => intros; rfl
  | succ m ih =>
    intro c0 c3
    simp only [iter]
    rw [← execS_eq T an76 (modesOf F) 0 k 20 (S76 k) (L76 k K) bd76_0 (cuts_of _ _ _ _ _ _ _ _ bd76_0 (l := []) (by kernel_rfl) trivial)]
    have h := fx2 ih
    simp only [f76_0d]
    rw [← h]
    show _ = _
    kernel_rfl
theorem l76_0 : L76 k K 0 ws rs N X = I76_0 k K ws rs N X := by
  show L76_0 k K ws rs N X = _
  unfold L76_0
  rw [f76_0_def]
  exact onShape_eq (a := aa76_0) (b := ab76_0) (G := fun ws rs => I76_0 k K ws rs N X) (fun x y => Eq.trans (by kernel_rfl) (Eq.trans (i76_0 k K N X x.2.1 x.2.2.1 k x.1 x.2.2.2.1).symm (by kernel_rfl))) ws rs
theorem tu76 : tOk (R := R) 76 aa76 ab76 g76 := by
  intro k x y K
  unfold g76
  rw [f76_def]
  cases k with
  | zero => rfl
  | succ k => exact eS Tryz.f76 an76 0 20 (L76 k K) [(0, sp76_0, cd76_0)] (by kernel_rfl) (S76_eq k) (by kernel_rfl) ⟨l76_0 k K, trivial⟩ (by kernel_rfl)
noncomputable def s76 := onS (R := R) aa76 ab76 g76 (fun k => callC T F k 76)
theorem s76_eq : sOk (R := R) s76 76 := onS_eq (fun _ _ _ _ => rfl) tu76
noncomputable abbrev kt85 : Int → Option R := (fun z0 => K [zi z0] [])
abbrev aa85 : List Sh := [.val [(0, 0)] zP3, zv]
abbrev ab85 : List RSh := []
noncomputable def g85 (k : Nat) (v : Sh.D.DL aa85 × RSh.DL ab85) (K : KT R) : Option R := f85 k v.1.1 v.1.2.1 (kt85 K)
noncomputable abbrev E85 := ending T Tryz.f85 an85 0 K
noncomputable def S85 := pickS (R := R) []
theorem S85_eq : ∀ k, S85 (R := R) k = callC T F k := pickS_eq trivial
noncomputable abbrev I85_0 : Option R := inner T an85 (modesOf F) 0 k 19 (S85 k) (E85 K) cd85_0 (sh sp85_0 ws rs) N X
abbrev aa85_0 : List Sh := [.val [(0, 0)] zP3, zv, zv, zv]
abbrev ab85_0 : List RSh := []
noncomputable def L85_0 : Option R :=
  onShape aa85_0 ab85_0 (fun v => f85_0 k (kt85 K) (N (sh jn85_0 [] [])) v.1.1 v.1.2.1 v.1.2.2.1 k v.1.2.2.2.1) (I85_0 k K ws rs N X) ws rs
noncomputable def L85 : Option R := bif id == 0 then L85_0 k K ws rs N X else none
theorem i85_0 (c0 : List Int) (c1 c2 : Int) (m : Nat) : ∀ (c3 : Int),
    iter (atHead an85 0 bd85_0) m (fun st N' => exec T an85 (modesOf F) 0 k 19 (S85 k) (E85 K) bd85_0 st N' (outX an85 0 0 N X)) (sh sp85_0 [.val [(0, 0)] zP3 c0, zi c1, zi c2, zi c3] []) = f85_0d k (kt85 K) (N (sh jn85_0 [] [])) c0 c1 c2 m c3 := by
  induction m with
  | zero => intros; rfl
  | succ m ih =>
    intro c3
    simp only [iter]
    rw [← execS_eq T an85 (modesOf F) 0 k 19 (S85 k) (L85 k K) bd85_0 (cuts_of _ _ _ _ _ _ _ _ bd85_0 (l := []) (by kernel_rfl) trivial)]
    have h := fx1 ih
    simp only [f85_0d]
    rw [← h]
    show _ = _
    kernel_rfl
theorem l85_0 : L85 k K 0 ws rs N X = I85_0 k K ws rs N X := by
  show L85_0 k K ws rs N X = _
  unfold L85_0
  rw [f85_0_def]
  exact onShape_eq (a := aa85_0) (b := ab85_0) (G := fun ws rs => I85_0 k K ws rs N X) (fun x y => Eq.trans (by kernel_rfl) (Eq.trans (i85_0 k K N X x.1 x.2.1 x.2.2.1 k x.2.2.2.1).symm (by kernel_rfl))) ws rs
theorem tu85 : tOk (R := R) 85 aa85 ab85 g85 := by
  intro k x y K
  unfold g85
  rw [f85_def]
  cases k with
  | zero => rfl
  | succ k => exact eS Tryz.f85 an85 0 19 (L85 k K) [(0, sp85_0, cd85_0)] (by kernel_rfl) (S85_eq k) (by kernel_rfl) ⟨l85_0 k K, trivial⟩ (by kernel_rfl)
noncomputable def s85 := onS (R := R) aa85 ab85 g85 (fun k => callC T F k 85)
theorem s85_eq : sOk (R := R) s85 85 := onS_eq (fun _ _ _ _ => rfl) tu85
noncomputable abbrev kt52 : Bool → Option R := (fun z0 => K [.val [] .bool z0] [])
abbrev aa52 : List Sh := [.val [(0, 0)] zP3, zv]
abbrev ab52 : List RSh := []
noncomputable def g52 (k : Nat) (v : Sh.D.DL aa52 × RSh.DL ab52) (K : KT R) : Option R := f52 k v.1.1 v.1.2.1 (kt52 K)
noncomputable abbrev E52 := ending T Tryz.f52 an52 0 K
noncomputable def S52 := pickS (R := R) [(85, s85)]
theorem S52_eq : ∀ k, S52 (R := R) k = callC T F k := pickS_eq ⟨s85_eq, trivial⟩
theorem tu52 : tOk (R := R) 52 aa52 ab52 g52 := by
  intro k x y K
  unfold g52
  rw [f52_def]
  cases k with
  | zero => rfl
  | succ k => exact eS Tryz.f52 an52 0 9 L0 [] (by kernel_rfl) (S52_eq k) (by kernel_rfl) trivial (by kernel_rfl)
noncomputable def s52 := onS (R := R) aa52 ab52 g52 (fun k => callC T F k 52)
theorem s52_eq : sOk (R := R) s52 52 := onS_eq (fun _ _ _ _ => rfl) tu52
noncomputable abbrev kt49 : List Int → Option R := (fun z0 => K [] [zr11 z0])
abbrev aa49 : List Sh := [.rw 1]
abbrev ab49 : List RSh := [.arr [] (.int .i64)]
noncomputable def g49 (k : Nat) (v : Sh.D.DL aa49 × RSh.DL ab49) (K : KT R) : Option R := f49 k v.2.1 (kt49 K)
theorem e49 (k : Nat) (a0 : List Int) (K : KT R) : callC T F k 49 [.rw 1] [zr11 a0] K = f49 k a0 (kt49 K) := by
  rw [f49_def]
  cases k with
  | zero => rfl
  | succ k => exact sortI_call (m := [.any]) (by kernel_rfl) a0 K
theorem tu49 : tOk (R := R) 49 aa49 ab49 g49 := fun k x y K => e49 k y.1 K
noncomputable def s49 := onS (R := R) aa49 ab49 g49 (fun k => callC T F k 49)
theorem s49_eq : sOk (R := R) s49 49 := onS_eq (fun _ _ _ _ => rfl) tu49
noncomputable abbrev kt77 : Int → Int → List Int → Option R := (fun z0 z1 z2 => K [.agg [zi z0, zi z1, .rw 1]] [zr11 z2])
abbrev aa77 : List Sh := [.agg [zv, zv, .val [(0, 0)] zP3], zv]
abbrev ab77 : List RSh := []
noncomputable def g77 (k : Nat) (v : Sh.D.DL aa77 × RSh.DL ab77) (K : KT R) : Option R := f77 k v.1.1.1 v.1.1.2.1 v.1.1.2.2.1 v.1.2.1 (kt77 K)
noncomputable abbrev E77 := ending T Tryz.f77 an77 0 K
noncomputable def S77 := pickS (R := R) [(40, s40), (49, s49)]
theorem S77_eq : ∀ k, S77 (R := R) k = callC T F k := pickS_eq ⟨s40_eq, s49_eq, trivial⟩
noncomputable abbrev I77_0 : Option R := inner T an77 (modesOf F) 0 k 35 (S77 k) (E77 K) cd77_0 (sh sp77_0 ws rs) N X
abbrev aa77_0 : List Sh := [.ptr 1 0, .ptr 2 0, .rw 3]
abbrev ab77_0 : List RSh := [.vars [zv, zv, .val [(0, 0)] zP3], .vars [zv, zv, .nils], .arr [] (.int .i64)]
noncomputable def L77_0 : Option R :=
  onShape aa77_0 ab77_0 (fun v => f77_0 k (fun p1 p5 => N (sh jn77_0 [.ptr 1 0, .ptr 2 0, .rw 3] [⟨0, .vars [zi v.2.1.1, zi p1, .val [(0, 0)] zP3 v.2.1.2.2.1]⟩, ⟨0, .vars [zi v.2.2.1.1, zi v.2.2.1.2.1, .nils]⟩, zr11 p5])) v.2.1.1 v.2.1.2.2.1 v.2.2.1.1 v.2.2.1.2.1 k v.2.1.2.1 v.2.2.2.1) (I77_0 k K ws rs N X) ws rs
noncomputable def L77 : Option R := bif id == 0 then L77_0 k K ws rs N X else none
theorem i77_0 (c0 : Int) (c2 : List Int) (c3 c4 : Int) (m : Nat) : ∀ (c1 : Int) (c5 : List Int),
    iter (atHead an77 0 bd77_0) m (fun st N' => exec T an77 (modesOf F) 0 k 35 (S77 k) (E77 K) bd77_0 st N' (outX an77 0 0 N X)) (sh sp77_0 [.ptr 1 0, .ptr 2 0, .rw 3] [⟨0, .vars [zi c0, zi c1, .val [(0, 0)] zP3 c2]⟩, ⟨0, .vars [zi c3, zi c4, .nils]⟩, zr11 c5]) = f77_0d k (fun p1 p5 => N (sh jn77_0 [.ptr 1 0, .ptr 2 0, .rw 3] [⟨0, .vars [zi c0, zi p1, .val [(0, 0)] zP3 c2]⟩, ⟨0, .vars [zi c3, zi c4, .nils]⟩, zr11 p5])) c0 c2 c3 c4 m c1 c5 := by
  induction m with
  | zero => intros; rfl
  | succ m ih =>
    intro c1 c5
    simp only [iter]
    rw [← execS_eq T an77 (modesOf F) 0 k 35 (S77 k) (L77 k K) bd77_0 (cuts_of _ _ _ _ _ _ _ _ bd77_0 (l := []) (by kernel_rfl) trivial)]
    have h := fx2 ih
    simp only [f77_0d]
    rw [← h]
    show _ = _
    kernel_rfl
theorem l77_0 : L77 k K 0 ws rs N X = I77_0 k K ws rs N X := by
  show L77_0 k K ws rs N X = _
  unfold L77_0
  rw [f77_0_def]
  exact onShape_eq (a := aa77_0) (b := ab77_0) (G := fun ws rs => I77_0 k K ws rs N X) (fun x y => Eq.trans (by kernel_rfl) (Eq.trans (i77_0 k K N X y.1.1 y.1.2.2.1 y.2.1.1 y.2.1.2.1 k y.1.2.1 y.2.2.1).symm (by kernel_rfl))) ws rs
theorem tu77 : tOk (R := R) 77 aa77 ab77 g77 := by
  intro k x y K
  unfold g77
  rw [f77_def]
  cases k with
  | zero => rfl
  | succ k => exact eS Tryz.f77 an77 0 35 (L77 k K) [(0, sp77_0, cd77_0)] (by kernel_rfl) (S77_eq k) (by kernel_rfl) ⟨l77_0 k K, trivial⟩ (by kernel_rfl)
noncomputable def s77 := onS (R := R) aa77 ab77 g77 (fun k => callC T F k 77)
theorem s77_eq : sOk (R := R) s77 77 := onS_eq (fun _ _ _ _ => rfl) tu77
noncomputable abbrev kt41 : Int → Int → Int → Int → List Int → List Int → Option R := (fun z0 z1 z2 z3 z4 z5 => K [.agg [zi z0, zi z1, .rw 1], .rw 2, zi z2, zi z3] [zr11 z4, zr0 z5])
abbrev aa41 : List Sh := [.agg [zv, zv, .val [(0, 0)] zP3], .val [(0, 0)] zT2]
abbrev ab41 : List RSh := []
noncomputable def g41 (k : Nat) (v : Sh.D.DL aa41 × RSh.DL ab41) (K : KT R) : Option R := f41 k v.1.1.1 v.1.1.2.1 v.1.1.2.2.1 v.1.2.1 (kt41 K)
noncomputable abbrev E41 := ending T Tryz.f41 an41 0 K
noncomputable def S41 := pickS (R := R) [(35, s35), (43, s43), (52, s52), (76, s76), (77, s77)]
theorem S41_eq : ∀ k, S41 (R := R) k = callC T F k := pickS_eq ⟨s35_eq, s43_eq, s52_eq, s76_eq, s77_eq, trivial⟩
theorem tu41 : tOk (R := R) 41 aa41 ab41 g41 := by
  intro k x y K
  unfold g41
  rw [f41_def]
  cases k with
  | zero => rfl
  | succ k => exact eS Tryz.f41 an41 0 71 L0 [] (by kernel_rfl) (S41_eq k) (by kernel_rfl) trivial (by kernel_rfl)
noncomputable def s41 := onS (R := R) aa41 ab41 g41 (fun k => callC T F k 41)
theorem s41_eq : sOk (R := R) s41 41 := onS_eq (fun _ _ _ _ => rfl) tu41
noncomputable abbrev kt15 : zK11 R := (fun z0 z1 z2 z3 z4 z5 => K [.agg [zi z0, zi z1, .rw 1], .rw 2, .rw 3, zi z2] [zr11 z3, ⟨0, .arr [] zT2 z4⟩, zr11 z5])
abbrev aa15 : List Sh := [.agg [zv, zv, .val [(0, 0)] zP3], .val [(0, 0)] (.slice zT2)]
abbrev ab15 : List RSh := []
noncomputable def g15 (k : Nat) (v : Sh.D.DL aa15 × RSh.DL ab15) (K : KT R) : Option R := f15 k v.1.1.1 v.1.1.2.1 v.1.1.2.2.1 v.1.2.1 (kt15 K)
noncomputable abbrev E15 := ending T Tryz.f15 an15 0 K
noncomputable def S15 := pickS (R := R) [(39, s39), (40, s40), (41, s41)]
theorem S15_eq : ∀ k, S15 (R := R) k = callC T F k := pickS_eq ⟨s39_eq, s40_eq, s41_eq, trivial⟩
noncomputable abbrev I15_1000014 : Option R := inner T an15 (modesOf F) 0 k 60 (S15 k) (E15 K) cd15_1000014 (sh sp15_1000014 ws rs) N X
abbrev aa15_1000014 : List Sh := [.ptr 1 0, .ptr 3 0, .rw 4, .rw 5, .ptr 6 0, .rw 8, zv, .val [(0, 0)] (.slice zT2), zv, zv, .val [] .bool]
abbrev ab15_1000014 : List RSh := [.vars [zv, zv, .rw 2], .arr [] (.int .i64), .vars [zv, zv, .nils], .arr [] zT2, .arr [] (.int .i64), .vars [zv, zv, .rw 7], .arr [] (.int .i64), .arr [] (.int .u8)]
noncomputable def L15_1000014 : Option R :=
  onShape aa15_1000014 ab15_1000014 (fun v => let u0 := v.1.2.2.2.2.2.2.2; let u1 := v.2.2.2.2.2.2.2; f15_1000014 k (fun p4 p5 p6 p9 => N (sh fi15_14 [.ptr 1 0, .ptr 3 0, .rw 4, .rw 5, zi v.1.2.2.2.2.2.2.1, .val [(0, 0)] (.slice zT2) v.1.2.2.2.2.2.2.2.1, zi u0.2.1, zi u0.2.2.1] [⟨0, .vars [zi p4, zi p5, .rw 2]⟩, zr11 p6, ⟨0, .vars [zi v.2.2.2.1.1, zi v.2.2.2.1.2.1, .nils]⟩, ⟨0, .arr [] zT2 p9⟩, zr11 v.2.2.2.2.2.1])) u0.2.2.2.1 v.2.1.1 v.2.1.2.1 v.2.2.1 v.2.2.2.2.1 v.2.2.2.2.2.2.1.1 v.2.2.2.2.2.2.1.2.1 v.2.2.2.2.2.2.2.1 u1.2.1) (I15_1000014 k K ws rs N X) ws rs
noncomputable abbrev I15_0 : Option R := inner T an15 (modesOf F) 0 k 60 (S15 k) (E15 K) cd15_0 (sh sp15_0 ws rs) N X
abbrev aa15_0 : List Sh := [.ptr 1 0, .ptr 3 0, .rw 4, .rw 5, .val [(0, 0)] (.slice zT2), zv, zv]
abbrev ab15_0 : List RSh := [.vars [zv, zv, .rw 2], .arr [] (.int .i64), .vars [zv, zv, .nils], .arr [] zT2, .arr [] (.int .i64)]
noncomputable def L15_0 : Option R :=
  onShape aa15_0 ab15_0 (fun v => f15_0 k (fun p0 p1 p2 p5 p6 => N (sh jn15_0 [.ptr 1 0, .ptr 3 0, .rw 4, .rw 5] [⟨0, .vars [zi p0, zi p1, .rw 2]⟩, zr11 p2, ⟨0, .vars [zi v.2.2.2.1.1, zi v.2.2.2.1.2.1, .nils]⟩, ⟨0, .arr [] zT2 p5⟩, zr11 p6])) v.1.2.2.2.2.1 v.1.2.2.2.2.2.1 v.2.2.2.1.1 v.2.2.2.1.2.1 k v.1.2.2.2.2.2.2.1 v.2.1.1 v.2.1.2.1 v.2.2.1 v.2.2.2.2.1 v.2.2.2.2.2.1) (I15_0 k K ws rs N X) ws rs
noncomputable def L15 : Option R := bif id == 1000014 then L15_1000014 k K ws rs N X else bif id == 0 then L15_0 k K ws rs N X else none
theorem l15_1000014 : L15 k K 1000014 ws rs N X = I15_1000014 k K ws rs N X := by
  show L15_1000014 k K ws rs N X = _
  unfold L15_1000014
  rw [f15_1000014_def]
  exact lC (L15 k K) [] (by kernel_rfl) trivial fun x y => by kernel_rfl
theorem i15_0 (c0 : List (List Int)) (c1 c6 c7 : Int) (m : Nat) : ∀ (c2 c3 c4 : Int) (c5 : List Int) (c8 : List (List Int)) (c9 : List Int),
    iter (atHead an15 0 bd15_0) m (fun st N' => exec T an15 (modesOf F) 0 k 60 (S15 k) (E15 K) bd15_0 st N' (outX an15 0 0 N X)) (sh sp15_0 [.ptr 1 0, .ptr 3 0, .rw 4, .rw 5, .val [(0, 0)] (.slice zT2) c0, zi c1, zi c2] [⟨0, .vars [zi c3, zi c4, .rw 2]⟩, zr11 c5, ⟨0, .vars [zi c6, zi c7, .nils]⟩, ⟨0, .arr [] zT2 c8⟩, zr11 c9]) = f15_0d k (fun p0 p1 p2 p5 p6 => N (sh jn15_0 [.ptr 1 0, .ptr 3 0, .rw 4, .rw 5] [⟨0, .vars [zi p0, zi p1, .rw 2]⟩, zr11 p2, ⟨0, .vars [zi c6, zi c7, .nils]⟩, ⟨0, .arr [] zT2 p5⟩, zr11 p6])) c0 c1 c6 c7 m c2 c3 c4 c5 c8 c9 := by
  induction m with
  | zero => intros; rfl
  | succ m ih =>
    intro c2 c3 c4 c5 c8 c9
    simp only [iter]
    rw [← execS_eq T an15 (modesOf F) 0 k 60 (S15 k) (L15 k K) bd15_0 (cuts_of _ _ _ _ _ _ _ _ bd15_0 (l := [(1000014, sp15_1000014, cd15_1000014)]) (by kernel_rfl) ⟨l15_1000014 k K, trivial⟩)]
    have h := fx6 ih
    simp only [f15_0d]
    rw [← h]
    show _ = _
    kernel_rfl
theorem l15_0 : L15 k K 0 ws rs N X = I15_0 k K ws rs N X := by
  show L15_0 k K ws rs N X = _
  unfold L15_0
  rw [f15_0_def]
  exact onShape_eq (a := aa15_0) (b := ab15_0) (G := fun ws rs => I15_0 k K ws rs N X) (fun x y => Eq.trans (by kernel_rfl) (Eq.trans (i15_0 k K N X x.2.2.2.2.1 x.2.2.2.2.2.1 y.2.2.1.1 y.2.2.1.2.1 k x.2.2.2.2.2.2.1 y.1.1 y.1.2.1 y.2.1 y.2.2.2.1 y.2.2.2.2.1).symm (by kernel_rfl))) ws rs
theorem tu15 : tOk (R := R) 15 aa15 ab15 g15 := by
  intro k x y K
  unfold g15
  rw [f15_def]
  cases k with
  | zero => rfl
  | succ k => exact eS Tryz.f15 an15 0 60 (L15 k K) [(0, sp15_0, cd15_0)] (by kernel_rfl) (S15_eq k) (by kernel_rfl) ⟨l15_0 k K, trivial⟩ (by kernel_rfl)
noncomputable def s15 := onS (R := R) aa15 ab15 g15 (fun k => callC T F k 15)
theorem s15_eq : sOk (R := R) s15 15 := onS_eq (fun _ _ _ _ => rfl) tu15
noncomputable abbrev kt4 : Bool → Option R := (fun z0 => K [.val [] .bool z0] [])
abbrev aa4 : List Sh := [.agg [zv, zv, zv, zv, zv], zv, .val [(0, 0)] zP3, .val [(0, 0)] zT3, .val [(0, 0)] zT3]
abbrev ab4 : List RSh := []
noncomputable def g4 (k : Nat) (v : Sh.D.DL aa4 × RSh.DL ab4) (K : KT R) : Option R := f4 k v.1.1.1 v.1.1.2.1 v.1.1.2.2.1 v.1.1.2.2.2.1 v.1.1.2.2.2.2.1 v.1.2.1 v.1.2.2.1 v.1.2.2.2.1 v.1.2.2.2.2.1 (kt4 K)
noncomputable abbrev E4 := ending T Tryz.f4 an4 0 K
noncomputable def S4 := pickS (R := R) [(8, s8), (11, s11), (12, s12), (13, s13), (14, s14), (15, s15)]
theorem S4_eq : ∀ k, S4 (R := R) k = callC T F k := pickS_eq ⟨s8_eq, s11_eq, s12_eq, s13_eq, s14_eq, s15_eq, trivial⟩
noncomputable abbrev I4_1000010 : Option R := inner T an4 (modesOf F) 0 k 165 (S4 k) (E4 K) cd4_1000010 (sh sp4_1000010 ws rs) N X
abbrev aa4_1000010 : List Sh := [zv, .val [(0, 0)] zT3, .val [(0, 0)] zT3, .ptr 1 0, .rw 2, zv, .rw 3, .val [(0, 0)] zP3, zv, zv, .val [] .bool]
abbrev ab4_1000010 : List RSh := [zs2, .arr [] (.int .u8), .arr [] (.int .u8)]
noncomputable def L4_1000010 : Option R :=
  onShape aa4_1000010 ab4_1000010 (fun v => let u0 := v.1.2.2.2.2.2.2.2; f4_1000010 k (fun p3 p12 => N (sh fi4_10 [zi v.1.1, .val [(0, 0)] zT3 v.1.2.1, .val [(0, 0)] zT3 v.1.2.2.1, .ptr 1 0, .rw 2, zi p3, .val [(0, 0)] zP3 v.1.2.2.2.2.2.2.2.1, zi u0.2.1, zi u0.2.2.1] [zr5 v.2.1.1 v.2.1.2.1 v.2.1.2.2.1 v.2.1.2.2.2.1 v.2.1.2.2.2.2.1, zr0 p12])) v.1.2.2.2.2.2.1 u0.2.2.2.1 v.2.2.1 v.2.2.2.1) (I4_1000010 k K ws rs N X) ws rs
noncomputable abbrev I4_0 : Option R := inner T an4 (modesOf F) 0 k 165 (S4 k) (E4 K) cd4_0 (sh sp4_0 ws rs) N X
abbrev aa4_0 : List Sh := [zv, .val [(0, 0)] zT3, .val [(0, 0)] zT3, .ptr 1 0, .rw 2, zv, .val [(0, 0)] zP3, zv, zv]
abbrev ab4_0 : List RSh := [zs2, .arr [] (.int .u8)]
noncomputable def L4_0 : Option R :=
  onShape aa4_0 ab4_0 (fun v => let u0 := v.1.2.2.2.2.2.2.2; f4_0 k (fun p3 p9 => N (sh jn4_0 [zi v.1.1, .val [(0, 0)] zT3 v.1.2.1, .val [(0, 0)] zT3 v.1.2.2.1, .ptr 1 0, .rw 2, zi p3] [zr5 v.2.1.1 v.2.1.2.1 v.2.1.2.2.1 v.2.1.2.2.2.1 v.2.1.2.2.2.2.1, zr0 p9])) v.1.1 v.1.2.1 v.1.2.2.1 v.1.2.2.2.2.2.2.1 v.1.2.2.2.2.2.2.2.1 v.2.1.1 v.2.1.2.1 v.2.1.2.2.1 v.2.1.2.2.2.1 v.2.1.2.2.2.2.1 k v.1.2.2.2.2.2.1 u0.2.1 v.2.2.1) (I4_0 k K ws rs N X) ws rs
noncomputable abbrev I4_2 : Option R := inner T an4 (modesOf F) 0 k 165 (S4 k) (E4 K) cd4_2 (sh sp4_2 ws rs) N X
abbrev aa4_2 : List Sh := [zv, zv, .ptr 1 0, .rw 2, zv]
abbrev ab4_2 : List RSh := [zs5, .arr [(0, 0)] zT2]
noncomputable def L4_2 : Option R :=
  onShape aa4_2 ab4_2 (fun v => let u0 := v.2.1.2.2.2.2.2.2.2; f4_2 k (fun p2 => N (sh jn4_2 [zi v.1.1, zi v.1.2.1, .rw 1] [⟨0, .arr [(0, 0)] zT2 p2⟩])) v.1.1 v.1.2.1 v.2.1.1 v.2.1.2.1 v.2.1.2.2.1 v.2.1.2.2.2.1 v.2.1.2.2.2.2.1 v.2.1.2.2.2.2.2.1 v.2.1.2.2.2.2.2.2.1 v.2.1.2.2.2.2.2.2.2.1 u0.2.1 k v.1.2.2.2.2.1 v.2.2.1) (I4_2 k K ws rs N X) ws rs
noncomputable def L4 : Option R := bif id == 1000010 then L4_1000010 k K ws rs N X else bif id == 0 then L4_0 k K ws rs N X else bif id == 2 then L4_2 k K ws rs N X else none
theorem l4_1000010 : L4 k K 1000010 ws rs N X = I4_1000010 k K ws rs N X := by
  show L4_1000010 k K ws rs N X = _
  unfold L4_1000010
  rw [f4_1000010_def]
  exact lC (L4 k K) [] (by kernel_rfl) trivial fun x y => by kernel_rfl
theorem i4_0 (c0 : Int) (c1 c2 : List Bool) (c4 : List Int) (c5 c7 c8 c9 c10 c11 : Int) (m : Nat) : ∀ (c3 c6 : Int) (c12 : List Int),
    iter (atHead an4 0 bd4_0) m (fun st N' => exec T an4 (modesOf F) 0 k 165 (S4 k) (E4 K) bd4_0 st N' (outX an4 0 0 N X)) (sh sp4_0 [zi c0, .val [(0, 0)] zT3 c1, .val [(0, 0)] zT3 c2, .ptr 1 0, .rw 2, zi c3, .val [(0, 0)] zP3 c4, zi c5, zi c6] [zr5 c7 c8 c9 c10 c11, zr0 c12]) = f4_0d k (fun p3 p9 => N (sh jn4_0 [zi c0, .val [(0, 0)] zT3 c1, .val [(0, 0)] zT3 c2, .ptr 1 0, .rw 2, zi p3] [zr5 c7 c8 c9 c10 c11, zr0 p9])) c0 c1 c2 c4 c5 c7 c8 c9 c10 c11 m c3 c6 c12 := by
  induction m with
  | zero => intros; rfl
  | succ m ih =>
    intro c3 c6 c12
    simp only [iter]
    rw [← execS_eq T an4 (modesOf F) 0 k 165 (S4 k) (L4 k K) bd4_0 (cuts_of _ _ _ _ _ _ _ _ bd4_0 (l := [(1000010, sp4_1000010, cd4_1000010)]) (by kernel_rfl) ⟨l4_1000010 k K, trivial⟩)]
    have h := fx3 ih
    simp only [f4_0d]
    rw [← h]
    show _ = _
    kernel_rfl
theorem l4_0 : L4 k K 0 ws rs N X = I4_0 k K ws rs N X := by
  show L4_0 k K ws rs N X = _
  unfold L4_0
  rw [f4_0_def]
  exact onShape_eq (a := aa4_0) (b := ab4_0) (G := fun ws rs => I4_0 k K ws rs N X) (fun x y => Eq.trans (by kernel_rfl) (Eq.trans (i4_0 k K N X x.1 x.2.1 x.2.2.1 x.2.2.2.2.2.2.1 x.2.2.2.2.2.2.2.1 y.1.1 y.1.2.1 y.1.2.2.1 y.1.2.2.2.1 y.1.2.2.2.2.1 k x.2.2.2.2.2.1 x.2.2.2.2.2.2.2.2.1 y.2.1).symm (by kernel_rfl))) ws rs
theorem i4_2 (c0 c1 c3 c4 : Int) (c5 : ByteArray) (c6 : List Int) (c7 : zL5) (c8 c9 c10 c11 : Int) (m : Nat) : ∀ (c2 : Int) (c12 : List (List Int)),
    iter (atHead an4 0 bd4_2) m (fun st N' => exec T an4 (modesOf F) 0 k 165 (S4 k) (E4 K) bd4_2 st N' (outX an4 0 2 N X)) (sh sp4_2 [zi c0, zi c1, .ptr 1 0, .rw 2, zi c2] [zr8 c3 c4 c5 c6 c7 c8 c9 c10 c11, ⟨0, .arr [(0, 0)] zT2 c12⟩]) = f4_2d k (fun p2 => N (sh jn4_2 [zi c0, zi c1, .rw 1] [⟨0, .arr [(0, 0)] zT2 p2⟩])) c0 c1 c3 c4 c5 c6 c7 c8 c9 c10 c11 m c2 c12 := by
  induction m with
  | zero => intros; rfl
  | succ m ih =>
    intro c2 c12
    simp only [iter]
    rw [← execS_eq T an4 (modesOf F) 0 k 165 (S4 k) (L4 k K) bd4_2 (cuts_of _ _ _ _ _ _ _ _ bd4_2 (l := []) (by kernel_rfl) trivial)]
    have h := fx2 ih
    simp only [f4_2d]
    rw [← h]
    show _ = _
    kernel_rfl
theorem l4_2 : L4 k K 2 ws rs N X = I4_2 k K ws rs N X := by
  show L4_2 k K ws rs N X = _
  unfold L4_2
  rw [f4_2_def]
  exact onShape_eq (a := aa4_2) (b := ab4_2) (G := fun ws rs => I4_2 k K ws rs N X) (fun x y => Eq.trans (by kernel_rfl) (Eq.trans (i4_2 k K N X x.1 x.2.1 y.1.1 y.1.2.1 y.1.2.2.1 y.1.2.2.2.1 y.1.2.2.2.2.1 y.1.2.2.2.2.2.1 y.1.2.2.2.2.2.2.1 y.1.2.2.2.2.2.2.2.1 y.1.2.2.2.2.2.2.2.2.1 k x.2.2.2.2.1 y.2.1).symm (by kernel_rfl))) ws rs
theorem e4 (k : Nat) (a0 a1 a2 a3 a4 a5 : Int) (a6 : List Int) (a7 a8 : List Bool) (K : KT R) : callC T F k 4 [.agg [zi a0, zi a1, zi a2, zi a3, zi a4], zi a5, .val [(0, 0)] zP3 a6, .val [(0, 0)] zT3 a7, .val [(0, 0)] zT3 a8] [] K = f4 k a0 a1 a2 a3 a4 a5 a6 a7 a8 (kt4 K) := by
  rw [f4_def]
  cases k with
  | zero => rfl
  | succ k => exact eS Tryz.f4 an4 0 165 (L4 k K) [(0, sp4_0, cd4_0), (2, sp4_2, cd4_2)] (by kernel_rfl) (S4_eq k) (by kernel_rfl) ⟨l4_0 k K, l4_2 k K, trivial⟩ (by kernel_rfl)
end Go.Proofs.YtoepnomdklhhlaaGreat.PM
