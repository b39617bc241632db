/- The small machine's run is the typed form (printed by a program of this work). -/
import Derived.Test.YtlcklflbhhnnhaaPW1
set_option linter.unusedVariables false
set_option linter.unusedSimpArgs false
set_option maxRecDepth 100000
namespace Go.Proofs.Ytlcklflbhhnnhaa.PM
open Go
section
variable {R : Type}
noncomputable def S34 (k g : Nat) (a : List PV) (r : List RowS) (K : List PV → List RowS → Option R) : Option R := bif g == 22 then s22 k a r K else bif g == 56 then s56 k a r K else bif g == 82 then s82 k a r K else bif g == 83 then s83 k a r K else callC T F k g a r K
theorem S34_eq (k : Nat) : S34 (R := R) k = callC T F k := by
  funext g a r K
  exact pick_eq (fun e => by subst e; exact s22_eq k a r K) (pick_eq (fun e => by subst e; exact s56_eq k a r K) (pick_eq (fun e => by subst e; exact s82_eq k a r K) (pick_eq (fun e => by subst e; exact s83_eq k a r K) (rfl))))
theorem e34 (k : Nat) (a0 : Int) (a1 : Int) (a2 : Int) (a3 : Int) (a4 : Int) (a5 : Int) (a6 : Int) (a7 : ByteArray) (a8 : List Int) (a9 : List ((Int × (Int × Unit)))) (a10 : Int) (a11 : Int) (a12 : Int) (a13 : Int) (K : List PV → List RowS → Option R) : callC T F k 34 [.agg [.val [] (.int .i64) a0, .val [] (.int .i64) a1, .val [] (.int .i64) a2, .val [] (.int .i64) a3, .val [] (.int .i64) a4], .agg [.val [] (.int .i64) a5, .val [] (.int .i64) a6, .val [] .str a7, .val [(0, 0)] (.slice (.int .u8)) a8, .val [(0, 0)] (.slice (.prod (.int .i64) (.prod (.int .i64) .unit))) a9, .val [] (.int .i64) a10, .val [] (.int .i64) a11, .val [] (.int .i64) a12, .val [] (.int .i64) a13]] [] K = f34 k a0 a1 a2 a3 a4 a5 a6 a7 a8 a9 a10 a11 a12 a13 (fun z0 z1 z2 z3 z4 z5 z6 z7 z8 z9 z10 => K [.agg [.val [] (.int .i64) z0, .val [] (.int .i64) z1, .val [] .str z2, .val [(0, 0)] (.slice (.int .u8)) z3, .val [(0, 0)] (.slice (.prod (.int .i64) (.prod (.int .i64) .unit))) z4, .val [] (.int .i64) z5, .val [] (.int .i64) z6, .val [] (.int .i64) z7, .val [] (.int .i64) z8], .rw 1, .val [] (.int .i64) z9] [⟨0, .arr [(0, 0)] (.prod (.int .i64) (.prod (.int .i64) (.prod .str (.prod (.int .i64) (.prod (.int .i64) (.prod (.int .i64) (.prod (.slice (.int .u8)) (.prod (.slice (.prod (.int .i64) (.prod (.int .i64) .unit))) (.prod .bool .unit))))))))) z10⟩]) := by
  rw [f34_def]
  cases k with
  | zero => rfl
  | succ k =>
    refine Eq.trans (show _ = exec T an34 (modesOf F) 0 k 28 (callC T F k) (ending T Try.f34 an34 0 K) (bodyOf Try.f34) ⟨argEnv 0 [.agg [.val [] (.int .i64) a0, .val [] (.int .i64) a1, .val [] (.int .i64) a2, .val [] (.int .i64) a3, .val [] (.int .i64) a4], .agg [.val [] (.int .i64) a5, .val [] (.int .i64) a6, .val [] .str a7, .val [(0, 0)] (.slice (.int .u8)) a8, .val [(0, 0)] (.slice (.prod (.int .i64) (.prod (.int .i64) .unit))) a9, .val [] (.int .i64) a10, .val [] (.int .i64) a11, .val [] (.int .i64) a12, .val [] (.int .i64) a13]] (fun _ => none), rowsOf []⟩ (ending T Try.f34 an34 0 K) (fun _ _ => none) from by kernel_rfl) ?_
    rw [← S34_eq k, ← execS_eq T an34 (modesOf F) 0 k 28 (S34 k) (fun _ _ _ _ _ => none) (bodyOf Try.f34) (cuts_of _ _ _ _ _ _ _ _ (bodyOf Try.f34) (l := []) (by kernel_rfl) trivial)]
    kernel_rfl
noncomputable def s34 (k : Nat) (a : List PV) (r : List RowS) (K : List PV → List RowS → Option R) : Option R :=
  onShape [.agg [.val [] (.int .i64), .val [] (.int .i64), .val [] (.int .i64), .val [] (.int .i64), .val [] (.int .i64)], .agg [.val [] (.int .i64), .val [] (.int .i64), .val [] .str, .val [(0, 0)] (.slice (.int .u8)), .val [(0, 0)] (.slice (.prod (.int .i64) (.prod (.int .i64) .unit))), .val [] (.int .i64), .val [] (.int .i64), .val [] (.int .i64), .val [] (.int .i64)]] [] (fun v => f34 k v.1.1.1 v.1.1.2.1 v.1.1.2.2.1 v.1.1.2.2.2.1 v.1.1.2.2.2.2.1 v.1.2.1.1 v.1.2.1.2.1 v.1.2.1.2.2.1 v.1.2.1.2.2.2.1 v.1.2.1.2.2.2.2.1 v.1.2.1.2.2.2.2.2.1 v.1.2.1.2.2.2.2.2.2.1 v.1.2.1.2.2.2.2.2.2.2.1 v.1.2.1.2.2.2.2.2.2.2.2.1 (fun z0 z1 z2 z3 z4 z5 z6 z7 z8 z9 z10 => K [.agg [.val [] (.int .i64) z0, .val [] (.int .i64) z1, .val [] .str z2, .val [(0, 0)] (.slice (.int .u8)) z3, .val [(0, 0)] (.slice (.prod (.int .i64) (.prod (.int .i64) .unit))) z4, .val [] (.int .i64) z5, .val [] (.int .i64) z6, .val [] (.int .i64) z7, .val [] (.int .i64) z8], .rw 1, .val [] (.int .i64) z9] [⟨0, .arr [(0, 0)] (.prod (.int .i64) (.prod (.int .i64) (.prod .str (.prod (.int .i64) (.prod (.int .i64) (.prod (.int .i64) (.prod (.slice (.int .u8)) (.prod (.slice (.prod (.int .i64) (.prod (.int .i64) .unit))) (.prod .bool .unit))))))))) z10⟩])) (callC T F k 34 a r K) a r
theorem s34_eq (k : Nat) (a : List PV) (r : List RowS) (K : List PV → List RowS → Option R) : s34 k a r K = callC T F k 34 a r K := by
  unfold s34
  exact onShape_eq (a := [.agg [.val [] (.int .i64), .val [] (.int .i64), .val [] (.int .i64), .val [] (.int .i64), .val [] (.int .i64)], .agg [.val [] (.int .i64), .val [] (.int .i64), .val [] .str, .val [(0, 0)] (.slice (.int .u8)), .val [(0, 0)] (.slice (.prod (.int .i64) (.prod (.int .i64) .unit))), .val [] (.int .i64), .val [] (.int .i64), .val [] (.int .i64), .val [] (.int .i64)]]) (b := []) (G := fun a r => callC T F k 34 a r K) (fun x y => Eq.trans (by kernel_rfl) (Eq.trans (e34 k x.1.1 x.1.2.1 x.1.2.2.1 x.1.2.2.2.1 x.1.2.2.2.2.1 x.2.1.1 x.2.1.2.1 x.2.1.2.2.1 x.2.1.2.2.2.1 x.2.1.2.2.2.2.1 x.2.1.2.2.2.2.2.1 x.2.1.2.2.2.2.2.2.1 x.2.1.2.2.2.2.2.2.2.1 x.2.1.2.2.2.2.2.2.2.2.1 K).symm (by kernel_rfl))) a r
end
section
variable {R : Type}
noncomputable def S96 (k g : Nat) (a : List PV) (r : List RowS) (K : List PV → List RowS → Option R) : Option R := callC T F k g a r K
theorem S96_eq (k : Nat) : S96 (R := R) k = callC T F k := by
  funext g a r K
  exact rfl
theorem e96 (k : Nat) (a0 : List ((Int × (Int × Unit)))) (K : List PV → List RowS → Option R) : callC T F k 96 [.val [(0, 0)] (.slice (.prod (.int .i64) (.prod (.int .i64) .unit))) a0] [] K = f96 k a0 (fun z0 => K [.val [] (.int .i64) z0] []) := by
  rw [f96_def]
  cases k with
  | zero => rfl
  | succ k =>
    refine Eq.trans (show _ = exec T an96 (modesOf F) 0 k 13 (callC T F k) (ending T Try.f96 an96 0 K) (bodyOf Try.f96) ⟨argEnv 0 [.val [(0, 0)] (.slice (.prod (.int .i64) (.prod (.int .i64) .unit))) a0] (fun _ => none), rowsOf []⟩ (ending T Try.f96 an96 0 K) (fun _ _ => none) from by kernel_rfl) ?_
    rw [← S96_eq k, ← execS_eq T an96 (modesOf F) 0 k 13 (S96 k) (fun _ _ _ _ _ => none) (bodyOf Try.f96) (cuts_of _ _ _ _ _ _ _ _ (bodyOf Try.f96) (l := []) (by kernel_rfl) trivial)]
    kernel_rfl
noncomputable def s96 (k : Nat) (a : List PV) (r : List RowS) (K : List PV → List RowS → Option R) : Option R :=
  onShape [.val [(0, 0)] (.slice (.prod (.int .i64) (.prod (.int .i64) .unit)))] [] (fun v => f96 k v.1.1 (fun z0 => K [.val [] (.int .i64) z0] [])) (callC T F k 96 a r K) a r
theorem s96_eq (k : Nat) (a : List PV) (r : List RowS) (K : List PV → List RowS → Option R) : s96 k a r K = callC T F k 96 a r K := by
  unfold s96
  exact onShape_eq (a := [.val [(0, 0)] (.slice (.prod (.int .i64) (.prod (.int .i64) .unit)))]) (b := []) (G := fun a r => callC T F k 96 a r K) (fun x y => Eq.trans (by kernel_rfl) (Eq.trans (e96 k x.1 K).symm (by kernel_rfl))) a r
end
section
variable {R : Type}
noncomputable def S97 (k g : Nat) (a : List PV) (r : List RowS) (K : List PV → List RowS → Option R) : Option R := callC T F k g a r K
theorem S97_eq (k : Nat) : S97 (R := R) k = callC T F k := by
  funext g a r K
  exact rfl
section
variable {R : Type} (k : Nat) (K : List PV → List RowS → Option R)
noncomputable def L97_0 (ws : List PV) (rs : List RowS) (N : St → Option R) (X : Nat → St → Option R) : Option R :=
  onShape [.val [(0, 0)] (.slice (.prod (.int .i64) (.prod (.int .i64) .unit))), .val [] (.int .i64), .val [] (.int .i64)] [] (fun v => f97_0 k (fun z0 => K [.val [] .bool z0] []) (N (sh jn97_0 [] [])) v.1.1 v.1.2.1 k v.1.2.2.1) (inner T an97 (modesOf F) 0 k 28 (S97 k) (ending T Try.f97 an97 0 K) cd97_0 (sh sp97_0 ws rs) N X) ws rs
noncomputable def L97 (id : Nat) (ws : List PV) (rs : List RowS) (N : St → Option R) (X : Nat → St → Option R) : Option R := bif id == 0 then L97_0 k K ws rs N X else none
theorem b97_0 (rec : St → Option R) (N : St → Option R) (X : Nat → St → Option R) (v0_0 : List ((Int × (Int × Unit)))) (v0_1 : Int) (v0_2 : Int) :
    execS T an97 (modesOf F) 0 k 28 (S97 k) (L97 k K) (ending T Try.f97 an97 0 K) bd97_0 (sh sp97_0 [.val [(0, 0)] (.slice (.prod (.int .i64) (.prod (.int .i64) .unit))) v0_0, .val [] (.int .i64) v0_1, .val [] (.int .i64) v0_2] []) (fun st => atHead an97 0 bd97_0 st rec) (outX an97 0 0 N X) =
      f97_0b k (fun v0_2 => rec (sh sp97_0 [.val [(0, 0)] (.slice (.prod (.int .i64) (.prod (.int .i64) .unit))) v0_0, .val [] (.int .i64) v0_1, .val [] (.int .i64) v0_2] [])) (fun z0 => K [.val [] .bool z0] []) (N (sh jn97_0 [] [])) v0_0 v0_1 v0_2 := by kernel_rfl
theorem i97_0 (N : St → Option R) (X : Nat → St → Option R) (v0_0 : List ((Int × (Int × Unit)))) (v0_1 : Int) (m : Nat) : ∀ (v0_2 : Int),
    iter (atHead an97 0 bd97_0) m (fun st N' => exec T an97 (modesOf F) 0 k 28 (S97 k) (ending T Try.f97 an97 0 K) bd97_0 st N' (outX an97 0 0 N X)) (sh sp97_0 [.val [(0, 0)] (.slice (.prod (.int .i64) (.prod (.int .i64) .unit))) v0_0, .val [] (.int .i64) v0_1, .val [] (.int .i64) v0_2] []) = f97_0d k (fun z0 => K [.val [] .bool z0] []) (N (sh jn97_0 [] [])) v0_0 v0_1 m v0_2 := by
  induction m with
  | zero => intros; rfl
  | succ m ih =>
    intro v0_2
    simp only [iter]
    rw [← execS_eq T an97 (modesOf F) 0 k 28 (S97 k) (L97 k K) bd97_0 (cuts_of _ _ _ _ _ _ _ _ bd97_0 (l := []) (by kernel_rfl) trivial)]
    refine (b97_0 k K _ N X v0_0 v0_1 v0_2).trans ?_
    simp only [f97_0d, ih]
theorem l97_0 (ws : List PV) (rs : List RowS) (N : St → Option R) (X : Nat → St → Option R) : L97 k K 0 ws rs N X = inner T an97 (modesOf F) 0 k 28 (S97 k) (ending T Try.f97 an97 0 K) cd97_0 (sh sp97_0 ws rs) N X := by
  show L97_0 k K ws rs N X = _
  unfold L97_0
  rw [f97_0_def]
  exact onShape_eq (a := [.val [(0, 0)] (.slice (.prod (.int .i64) (.prod (.int .i64) .unit))), .val [] (.int .i64), .val [] (.int .i64)]) (b := []) (G := fun ws rs => inner T an97 (modesOf F) 0 k 28 (S97 k) (ending T Try.f97 an97 0 K) cd97_0 (sh sp97_0 ws rs) N X) (fun x y => Eq.trans (by kernel_rfl) (Eq.trans (i97_0 k K N X x.1 x.2.1 k x.2.2.1).symm (by kernel_rfl))) ws rs
end
theorem e97 (k : Nat) (a0 : List ((Int × (Int × Unit)))) (a1 : Int) (K : List PV → List RowS → Option R) : callC T F k 97 [.val [(0, 0)] (.slice (.prod (.int .i64) (.prod (.int .i64) .unit))) a0, .val [] (.int .i64) a1] [] K = f97 k a0 a1 (fun z0 => K [.val [] .bool z0] []) := by
  rw [f97_def]
  cases k with
  | zero => rfl
  | succ k =>
    refine Eq.trans (show _ = exec T an97 (modesOf F) 0 k 28 (callC T F k) (ending T Try.f97 an97 0 K) (bodyOf Try.f97) ⟨argEnv 0 [.val [(0, 0)] (.slice (.prod (.int .i64) (.prod (.int .i64) .unit))) a0, .val [] (.int .i64) a1] (fun _ => none), rowsOf []⟩ (ending T Try.f97 an97 0 K) (fun _ _ => none) from by kernel_rfl) ?_
    rw [← S97_eq k, ← execS_eq T an97 (modesOf F) 0 k 28 (S97 k) (L97 k K) (bodyOf Try.f97) (cuts_of _ _ _ _ _ _ _ _ (bodyOf Try.f97) (l := [(0, sp97_0, cd97_0)]) (by kernel_rfl) ⟨l97_0 k K, trivial⟩)]
    kernel_rfl
noncomputable def s97 (k : Nat) (a : List PV) (r : List RowS) (K : List PV → List RowS → Option R) : Option R :=
  onShape [.val [(0, 0)] (.slice (.prod (.int .i64) (.prod (.int .i64) .unit))), .val [] (.int .i64)] [] (fun v => f97 k v.1.1 v.1.2.1 (fun z0 => K [.val [] .bool z0] [])) (callC T F k 97 a r K) a r
theorem s97_eq (k : Nat) (a : List PV) (r : List RowS) (K : List PV → List RowS → Option R) : s97 k a r K = callC T F k 97 a r K := by
  unfold s97
  exact onShape_eq (a := [.val [(0, 0)] (.slice (.prod (.int .i64) (.prod (.int .i64) .unit))), .val [] (.int .i64)]) (b := []) (G := fun a r => callC T F k 97 a r K) (fun x y => Eq.trans (by kernel_rfl) (Eq.trans (e97 k x.1 x.2.1 K).symm (by kernel_rfl))) a r
end
section
variable {R : Type}
noncomputable def S88 (k g : Nat) (a : List PV) (r : List RowS) (K : List PV → List RowS → Option R) : Option R := callC T F k g a r K
theorem S88_eq (k : Nat) : S88 (R := R) k = callC T F k := by
  funext g a r K
  exact rfl
section
variable {R : Type} (k : Nat) (K : List PV → List RowS → Option R)
noncomputable def L88_1000007 (ws : List PV) (rs : List RowS) (N : St → Option R) (X : Nat → St → Option R) : Option R :=
  onShape [.val [(0, 0)] (.slice (.prod (.int .i64) (.prod (.int .i64) .unit))), .val [] (.int .i64), .rw 1, .val [] (.int .i64), .val [] (.int .i64), .val [] .bool] [.arr [] (.prod (.int .i64) (.prod (.int .i64) .unit))] (fun v => f88_1000007 k (fun yN_3 => N (sh fi88_7 [.val [(0, 0)] (.slice (.prod (.int .i64) (.prod (.int .i64) .unit))) v.1.1, .val [] (.int .i64) v.1.2.1, .rw 1, .val [] (.int .i64) v.1.2.2.2.2.1] [⟨0, .arr [] (.prod (.int .i64) (.prod (.int .i64) .unit)) yN_3⟩])) v.1.1 v.1.2.1 v.1.2.2.2.1 v.1.2.2.2.2.1 v.1.2.2.2.2.2.1 v.2.1) (inner T an88 (modesOf F) 0 k 46 (S88 k) (ending T Try.f88 an88 0 K) cd88_1000007 (sh sp88_1000007 ws rs) N X) ws rs
noncomputable def L88_0 (ws : List PV) (rs : List RowS) (N : St → Option R) (X : Nat → St → Option R) : Option R :=
  onShape [.val [(0, 0)] (.slice (.prod (.int .i64) (.prod (.int .i64) .unit))), .val [] (.int .i64), .rw 1, .val [] (.int .i64), .val [] (.int .i64)] [.arr [] (.prod (.int .i64) (.prod (.int .i64) .unit))] (fun v => f88_0 k (fun y0_1 y0_2 => N (sh jn88_0 [.val [] (.int .i64) v.1.2.1, .rw 1, .val [] (.int .i64) y0_1] [⟨0, .arr [] (.prod (.int .i64) (.prod (.int .i64) .unit)) y0_2⟩])) v.1.1 v.1.2.1 k v.1.2.2.2.1 v.1.2.2.2.2.1 v.2.1) (inner T an88 (modesOf F) 0 k 46 (S88 k) (ending T Try.f88 an88 0 K) cd88_0 (sh sp88_0 ws rs) N X) ws rs
noncomputable def L88_1000010 (ws : List PV) (rs : List RowS) (N : St → Option R) (X : Nat → St → Option R) : Option R :=
  onShape [.val [] (.int .i64), .rw 1, .val [] (.int .i64), .val [] .bool] [.arr [] (.prod (.int .i64) (.prod (.int .i64) .unit))] (fun v => f88_1000010 k (fun yN_0 => N (sh fi88_10 [.rw 1] [⟨0, .arr [] (.prod (.int .i64) (.prod (.int .i64) .unit)) yN_0⟩])) v.1.1 v.1.2.2.1 v.1.2.2.2.1 v.2.1) (inner T an88 (modesOf F) 0 k 46 (S88 k) (ending T Try.f88 an88 0 K) cd88_1000010 (sh sp88_1000010 ws rs) N X) ws rs
noncomputable def L88 (id : Nat) (ws : List PV) (rs : List RowS) (N : St → Option R) (X : Nat → St → Option R) : Option R := bif id == 1000007 then L88_1000007 k K ws rs N X else bif id == 0 then L88_0 k K ws rs N X else bif id == 1000010 then L88_1000010 k K ws rs N X else none
theorem l88_1000007 (ws : List PV) (rs : List RowS) (N : St → Option R) (X : Nat → St → Option R) : L88 k K 1000007 ws rs N X = inner T an88 (modesOf F) 0 k 46 (S88 k) (ending T Try.f88 an88 0 K) cd88_1000007 (sh sp88_1000007 ws rs) N X := by
  show L88_1000007 k K ws rs N X = _
  unfold L88_1000007
  rw [f88_1000007_def]
  exact onShape_eq (a := [.val [(0, 0)] (.slice (.prod (.int .i64) (.prod (.int .i64) .unit))), .val [] (.int .i64), .rw 1, .val [] (.int .i64), .val [] (.int .i64), .val [] .bool]) (b := [.arr [] (.prod (.int .i64) (.prod (.int .i64) .unit))]) (G := fun ws rs => inner T an88 (modesOf F) 0 k 46 (S88 k) (ending T Try.f88 an88 0 K) cd88_1000007 (sh sp88_1000007 ws rs) N X) (fun x y => Eq.trans (by kernel_rfl) (innerS_eq T an88 (modesOf F) 0 k 46 (S88 k) (L88 k K) cd88_1000007 (l := []) (by kernel_rfl) trivial _ N X)) ws rs
theorem b88_0 (rec : St → Option R) (N : St → Option R) (X : Nat → St → Option R) (v0_0 : List ((Int × (Int × Unit)))) (v0_1 : Int) (v0_2 : Int) (v0_3 : Int) (v0_4 : List (Int × (Int × Unit))) :
    execS T an88 (modesOf F) 0 k 46 (S88 k) (L88 k K) (ending T Try.f88 an88 0 K) bd88_0 (sh sp88_0 [.val [(0, 0)] (.slice (.prod (.int .i64) (.prod (.int .i64) .unit))) v0_0, .val [] (.int .i64) v0_1, .rw 1, .val [] (.int .i64) v0_2, .val [] (.int .i64) v0_3] [⟨0, .arr [] (.prod (.int .i64) (.prod (.int .i64) .unit)) v0_4⟩]) (fun st => atHead an88 0 bd88_0 st rec) (outX an88 0 0 N X) =
      f88_0b k (fun v0_2 v0_3 v0_4 => rec (sh sp88_0 [.val [(0, 0)] (.slice (.prod (.int .i64) (.prod (.int .i64) .unit))) v0_0, .val [] (.int .i64) v0_1, .rw 1, .val [] (.int .i64) v0_2, .val [] (.int .i64) v0_3] [⟨0, .arr [] (.prod (.int .i64) (.prod (.int .i64) .unit)) v0_4⟩])) (fun y0_1 y0_2 => N (sh jn88_0 [.val [] (.int .i64) v0_1, .rw 1, .val [] (.int .i64) y0_1] [⟨0, .arr [] (.prod (.int .i64) (.prod (.int .i64) .unit)) y0_2⟩])) v0_0 v0_1 v0_2 v0_3 v0_4 := by kernel_rfl
theorem i88_0 (N : St → Option R) (X : Nat → St → Option R) (v0_0 : List ((Int × (Int × Unit)))) (v0_1 : Int) (m : Nat) : ∀ (v0_2 : Int) (v0_3 : Int) (v0_4 : List (Int × (Int × Unit))),
    iter (atHead an88 0 bd88_0) m (fun st N' => exec T an88 (modesOf F) 0 k 46 (S88 k) (ending T Try.f88 an88 0 K) bd88_0 st N' (outX an88 0 0 N X)) (sh sp88_0 [.val [(0, 0)] (.slice (.prod (.int .i64) (.prod (.int .i64) .unit))) v0_0, .val [] (.int .i64) v0_1, .rw 1, .val [] (.int .i64) v0_2, .val [] (.int .i64) v0_3] [⟨0, .arr [] (.prod (.int .i64) (.prod (.int .i64) .unit)) v0_4⟩]) = f88_0d k (fun y0_1 y0_2 => N (sh jn88_0 [.val [] (.int .i64) v0_1, .rw 1, .val [] (.int .i64) y0_1] [⟨0, .arr [] (.prod (.int .i64) (.prod (.int .i64) .unit)) y0_2⟩])) v0_0 v0_1 m v0_2 v0_3 v0_4 := by
  induction m with
  | zero => intros; rfl
  | succ m ih =>
    intro v0_2 v0_3 v0_4
    simp only [iter]
    rw [← execS_eq T an88 (modesOf F) 0 k 46 (S88 k) (L88 k K) bd88_0 (cuts_of _ _ _ _ _ _ _ _ bd88_0 (l := [(1000007, sp88_1000007, cd88_1000007)]) (by kernel_rfl) ⟨l88_1000007 k K, trivial⟩)]
    refine (b88_0 k K _ N X v0_0 v0_1 v0_2 v0_3 v0_4).trans ?_
    simp only [f88_0d, ih]
theorem l88_0 (ws : List PV) (rs : List RowS) (N : St → Option R) (X : Nat → St → Option R) : L88 k K 0 ws rs N X = inner T an88 (modesOf F) 0 k 46 (S88 k) (ending T Try.f88 an88 0 K) cd88_0 (sh sp88_0 ws rs) N X := by
  show L88_0 k K ws rs N X = _
  unfold L88_0
  rw [f88_0_def]
  exact onShape_eq (a := [.val [(0, 0)] (.slice (.prod (.int .i64) (.prod (.int .i64) .unit))), .val [] (.int .i64), .rw 1, .val [] (.int .i64), .val [] (.int .i64)]) (b := [.arr [] (.prod (.int .i64) (.prod (.int .i64) .unit))]) (G := fun ws rs => inner T an88 (modesOf F) 0 k 46 (S88 k) (ending T Try.f88 an88 0 K) cd88_0 (sh sp88_0 ws rs) N X) (fun x y => Eq.trans (by kernel_rfl) (Eq.trans (i88_0 k K N X x.1 x.2.1 k x.2.2.2.1 x.2.2.2.2.1 y.1).symm (by kernel_rfl))) ws rs
theorem l88_1000010 (ws : List PV) (rs : List RowS) (N : St → Option R) (X : Nat → St → Option R) : L88 k K 1000010 ws rs N X = inner T an88 (modesOf F) 0 k 46 (S88 k) (ending T Try.f88 an88 0 K) cd88_1000010 (sh sp88_1000010 ws rs) N X := by
  show L88_1000010 k K ws rs N X = _
  unfold L88_1000010
  rw [f88_1000010_def]
  exact onShape_eq (a := [.val [] (.int .i64), .rw 1, .val [] (.int .i64), .val [] .bool]) (b := [.arr [] (.prod (.int .i64) (.prod (.int .i64) .unit))]) (G := fun ws rs => inner T an88 (modesOf F) 0 k 46 (S88 k) (ending T Try.f88 an88 0 K) cd88_1000010 (sh sp88_1000010 ws rs) N X) (fun x y => Eq.trans (by kernel_rfl) (innerS_eq T an88 (modesOf F) 0 k 46 (S88 k) (L88 k K) cd88_1000010 (l := []) (by kernel_rfl) trivial _ N X)) ws rs
end
theorem e88 (k : Nat) (a0 : List ((Int × (Int × Unit)))) (a1 : Int) (K : List PV → List RowS → Option R) : callC T F k 88 [.val [(0, 0)] (.slice (.prod (.int .i64) (.prod (.int .i64) .unit))) a0, .val [] (.int .i64) a1] [] K = f88 k a0 a1 (fun z0 => K [.rw 1] [⟨0, .arr [] (.prod (.int .i64) (.prod (.int .i64) .unit)) z0⟩]) := by
  rw [f88_def]
  cases k with
  | zero => rfl
  | succ k =>
    refine Eq.trans (show _ = exec T an88 (modesOf F) 0 k 46 (callC T F k) (ending T Try.f88 an88 0 K) (bodyOf Try.f88) ⟨argEnv 0 [.val [(0, 0)] (.slice (.prod (.int .i64) (.prod (.int .i64) .unit))) a0, .val [] (.int .i64) a1] (fun _ => none), rowsOf []⟩ (ending T Try.f88 an88 0 K) (fun _ _ => none) from by kernel_rfl) ?_
    rw [← S88_eq k, ← execS_eq T an88 (modesOf F) 0 k 46 (S88 k) (L88 k K) (bodyOf Try.f88) (cuts_of _ _ _ _ _ _ _ _ (bodyOf Try.f88) (l := [(0, sp88_0, cd88_0), (1000010, sp88_1000010, cd88_1000010)]) (by kernel_rfl) ⟨l88_0 k K, l88_1000010 k K, trivial⟩)]
    kernel_rfl
noncomputable def s88 (k : Nat) (a : List PV) (r : List RowS) (K : List PV → List RowS → Option R) : Option R :=
  onShape [.val [(0, 0)] (.slice (.prod (.int .i64) (.prod (.int .i64) .unit))), .val [] (.int .i64)] [] (fun v => f88 k v.1.1 v.1.2.1 (fun z0 => K [.rw 1] [⟨0, .arr [] (.prod (.int .i64) (.prod (.int .i64) .unit)) z0⟩])) (callC T F k 88 a r K) a r
theorem s88_eq (k : Nat) (a : List PV) (r : List RowS) (K : List PV → List RowS → Option R) : s88 k a r K = callC T F k 88 a r K := by
  unfold s88
  exact onShape_eq (a := [.val [(0, 0)] (.slice (.prod (.int .i64) (.prod (.int .i64) .unit))), .val [] (.int .i64)]) (b := []) (G := fun a r => callC T F k 88 a r K) (fun x y => Eq.trans (by kernel_rfl) (Eq.trans (e88 k x.1 x.2.1 K).symm (by kernel_rfl))) a r
end
section
variable {R : Type}
noncomputable def S113 (k g : Nat) (a : List PV) (r : List RowS) (K : List PV → List RowS → Option R) : Option R := bif g == 88 then s88 k a r K else bif g == 118 then s118 k a r K else callC T F k g a r K
theorem S113_eq (k : Nat) : S113 (R := R) k = callC T F k := by
  funext g a r K
  exact pick_eq (fun e => by subst e; exact s88_eq k a r K) (pick_eq (fun e => by subst e; exact s118_eq k a r K) (rfl))
theorem e113 (k : Nat) (a0 : Int) (a1 : Int) (a2 : ByteArray) (a3 : List Int) (a4 : List ((Int × (Int × Unit)))) (a5 : Int) (a6 : Int) (a7 : Int) (a8 : Int) (K : List PV → List RowS → Option R) : callC T F k 113 [.agg [.val [] (.int .i64) a0, .val [] (.int .i64) a1, .val [] .str a2, .val [(0, 0)] (.slice (.int .u8)) a3, .val [(0, 0)] (.slice (.prod (.int .i64) (.prod (.int .i64) .unit))) a4, .val [] (.int .i64) a5, .val [] (.int .i64) a6, .val [] (.int .i64) a7, .val [] (.int .i64) a8]] [] K = f113 k a0 a1 a2 a3 a4 a5 a6 a7 a8 (fun z0 z1 => K [.rw 1, .val [] .bool z0] [⟨0, .arr [] (.prod (.int .i64) (.prod (.int .i64) .unit)) z1⟩]) := by
  rw [f113_def]
  cases k with
  | zero => rfl
  | succ k =>
    refine Eq.trans (show _ = exec T an113 (modesOf F) 0 k 16 (callC T F k) (ending T Try.f113 an113 0 K) (bodyOf Try.f113) ⟨argEnv 0 [.agg [.val [] (.int .i64) a0, .val [] (.int .i64) a1, .val [] .str a2, .val [(0, 0)] (.slice (.int .u8)) a3, .val [(0, 0)] (.slice (.prod (.int .i64) (.prod (.int .i64) .unit))) a4, .val [] (.int .i64) a5, .val [] (.int .i64) a6, .val [] (.int .i64) a7, .val [] (.int .i64) a8]] (fun _ => none), rowsOf []⟩ (ending T Try.f113 an113 0 K) (fun _ _ => none) from by kernel_rfl) ?_
    rw [← S113_eq k, ← execS_eq T an113 (modesOf F) 0 k 16 (S113 k) (fun _ _ _ _ _ => none) (bodyOf Try.f113) (cuts_of _ _ _ _ _ _ _ _ (bodyOf Try.f113) (l := []) (by kernel_rfl) trivial)]
    kernel_rfl
noncomputable def s113 (k : Nat) (a : List PV) (r : List RowS) (K : List PV → List RowS → Option R) : Option R :=
  onShape [.agg [.val [] (.int .i64), .val [] (.int .i64), .val [] .str, .val [(0, 0)] (.slice (.int .u8)), .val [(0, 0)] (.slice (.prod (.int .i64) (.prod (.int .i64) .unit))), .val [] (.int .i64), .val [] (.int .i64), .val [] (.int .i64), .val [] (.int .i64)]] [] (fun v => f113 k v.1.1.1 v.1.1.2.1 v.1.1.2.2.1 v.1.1.2.2.2.1 v.1.1.2.2.2.2.1 v.1.1.2.2.2.2.2.1 v.1.1.2.2.2.2.2.2.1 v.1.1.2.2.2.2.2.2.2.1 v.1.1.2.2.2.2.2.2.2.2.1 (fun z0 z1 => K [.rw 1, .val [] .bool z0] [⟨0, .arr [] (.prod (.int .i64) (.prod (.int .i64) .unit)) z1⟩])) (callC T F k 113 a r K) a r
theorem s113_eq (k : Nat) (a : List PV) (r : List RowS) (K : List PV → List RowS → Option R) : s113 k a r K = callC T F k 113 a r K := by
  unfold s113
  exact onShape_eq (a := [.agg [.val [] (.int .i64), .val [] (.int .i64), .val [] .str, .val [(0, 0)] (.slice (.int .u8)), .val [(0, 0)] (.slice (.prod (.int .i64) (.prod (.int .i64) .unit))), .val [] (.int .i64), .val [] (.int .i64), .val [] (.int .i64), .val [] (.int .i64)]]) (b := []) (G := fun a r => callC T F k 113 a r K) (fun x y => Eq.trans (by kernel_rfl) (Eq.trans (e113 k x.1.1 x.1.2.1 x.1.2.2.1 x.1.2.2.2.1 x.1.2.2.2.2.1 x.1.2.2.2.2.2.1 x.1.2.2.2.2.2.2.1 x.1.2.2.2.2.2.2.2.1 x.1.2.2.2.2.2.2.2.2.1 K).symm (by kernel_rfl))) a r
end
section
variable {R : Type}
noncomputable def S98 (k g : Nat) (a : List PV) (r : List RowS) (K : List PV → List RowS → Option R) : Option R := bif g == 113 then s113 k a r K else callC T F k g a r K
theorem S98_eq (k : Nat) : S98 (R := R) k = callC T F k := by
  funext g a r K
  exact pick_eq (fun e => by subst e; exact s113_eq k a r K) (rfl)
theorem e98 (k : Nat) (a0 : Int) (a1 : Int) (a2 : ByteArray) (a3 : List Int) (a4 : List ((Int × (Int × Unit)))) (a5 : Int) (a6 : Int) (a7 : Int) (a8 : Int) (K : List PV → List RowS → Option R) : callC T F k 98 [.agg [.val [] (.int .i64) a0, .val [] (.int .i64) a1, .val [] .str a2, .val [(0, 0)] (.slice (.int .u8)) a3, .val [(0, 0)] (.slice (.prod (.int .i64) (.prod (.int .i64) .unit))) a4, .val [] (.int .i64) a5, .val [] (.int .i64) a6, .val [] (.int .i64) a7, .val [] (.int .i64) a8]] [] K = f98 k a0 a1 a2 a3 a4 a5 a6 a7 a8 (fun z0 => K [.val [] .bool z0] []) := by
  rw [f98_def]
  cases k with
  | zero => rfl
  | succ k =>
    refine Eq.trans (show _ = exec T an98 (modesOf F) 0 k 16 (callC T F k) (ending T Try.f98 an98 0 K) (bodyOf Try.f98) ⟨argEnv 0 [.agg [.val [] (.int .i64) a0, .val [] (.int .i64) a1, .val [] .str a2, .val [(0, 0)] (.slice (.int .u8)) a3, .val [(0, 0)] (.slice (.prod (.int .i64) (.prod (.int .i64) .unit))) a4, .val [] (.int .i64) a5, .val [] (.int .i64) a6, .val [] (.int .i64) a7, .val [] (.int .i64) a8]] (fun _ => none), rowsOf []⟩ (ending T Try.f98 an98 0 K) (fun _ _ => none) from by kernel_rfl) ?_
    rw [← S98_eq k, ← execS_eq T an98 (modesOf F) 0 k 16 (S98 k) (fun _ _ _ _ _ => none) (bodyOf Try.f98) (cuts_of _ _ _ _ _ _ _ _ (bodyOf Try.f98) (l := []) (by kernel_rfl) trivial)]
    kernel_rfl
noncomputable def s98 (k : Nat) (a : List PV) (r : List RowS) (K : List PV → List RowS → Option R) : Option R :=
  onShape [.agg [.val [] (.int .i64), .val [] (.int .i64), .val [] .str, .val [(0, 0)] (.slice (.int .u8)), .val [(0, 0)] (.slice (.prod (.int .i64) (.prod (.int .i64) .unit))), .val [] (.int .i64), .val [] (.int .i64), .val [] (.int .i64), .val [] (.int .i64)]] [] (fun v => f98 k v.1.1.1 v.1.1.2.1 v.1.1.2.2.1 v.1.1.2.2.2.1 v.1.1.2.2.2.2.1 v.1.1.2.2.2.2.2.1 v.1.1.2.2.2.2.2.2.1 v.1.1.2.2.2.2.2.2.2.1 v.1.1.2.2.2.2.2.2.2.2.1 (fun z0 => K [.val [] .bool z0] [])) (callC T F k 98 a r K) a r
theorem s98_eq (k : Nat) (a : List PV) (r : List RowS) (K : List PV → List RowS → Option R) : s98 k a r K = callC T F k 98 a r K := by
  unfold s98
  exact onShape_eq (a := [.agg [.val [] (.int .i64), .val [] (.int .i64), .val [] .str, .val [(0, 0)] (.slice (.int .u8)), .val [(0, 0)] (.slice (.prod (.int .i64) (.prod (.int .i64) .unit))), .val [] (.int .i64), .val [] (.int .i64), .val [] (.int .i64), .val [] (.int .i64)]]) (b := []) (G := fun a r => callC T F k 98 a r K) (fun x y => Eq.trans (by kernel_rfl) (Eq.trans (e98 k x.1.1 x.1.2.1 x.1.2.2.1 x.1.2.2.2.1 x.1.2.2.2.2.1 x.1.2.2.2.2.2.1 x.1.2.2.2.2.2.2.1 x.1.2.2.2.2.2.2.2.1 x.1.2.2.2.2.2.2.2.2.1 K).symm (by kernel_rfl))) a r
end
section
variable {R : Type}
noncomputable def S57 (k g : Nat) (a : List PV) (r : List RowS) (K : List PV → List RowS → Option R) : Option R := bif g == 46 then s46 k a r K else bif g == 72 then s72 k a r K else bif g == 74 then s74 k a r K else bif g == 96 then s96 k a r K else bif g == 97 then s97 k a r K else bif g == 98 then s98 k a r K else callC T F k g a r K
theorem S57_eq (k : Nat) : S57 (R := R) k = callC T F k := by
  funext g a r K
  exact pick_eq (fun e => by subst e; exact s46_eq k a r K) (pick_eq (fun e => by subst e; exact s72_eq k a r K) (pick_eq (fun e => by subst e; exact s74_eq k a r K) (pick_eq (fun e => by subst e; exact s96_eq k a r K) (pick_eq (fun e => by subst e; exact s97_eq k a r K) (pick_eq (fun e => by subst e; exact s98_eq k a r K) (rfl))))))
section
variable {R : Type} (k : Nat) (K : List PV → List RowS → Option R)
noncomputable def L57_1000011 (ws : List PV) (rs : List RowS) (N : St → Option R) (X : Nat → St → Option R) : Option R :=
  onShape [.ptr 1 0, .val [] (.int .i64), .val [] .bool] [.vars [.val [] (.int .i64), .val [] (.int .i64), .val [] .str, .val [(0, 0)] (.slice (.int .u8)), .val [(0, 0)] (.slice (.prod (.int .i64) (.prod (.int .i64) .unit))), .val [] (.int .i64), .val [] (.int .i64), .val [] (.int .i64), .val [] (.int .i64)]] (fun v => f57_1000011 k (fun yN_0 => N (sh fi57_11 [.ptr 1 0, .val [] (.int .i64) yN_0] [⟨0, .vars [.val [] (.int .i64) v.2.1.1, .val [] (.int .i64) v.2.1.2.1, .val [] .str v.2.1.2.2.1, .val [(0, 0)] (.slice (.int .u8)) v.2.1.2.2.2.1, .val [(0, 0)] (.slice (.prod (.int .i64) (.prod (.int .i64) .unit))) v.2.1.2.2.2.2.1, .val [] (.int .i64) v.2.1.2.2.2.2.2.1, .val [] (.int .i64) v.2.1.2.2.2.2.2.2.1, .val [] (.int .i64) v.2.1.2.2.2.2.2.2.2.1, .val [] (.int .i64) v.2.1.2.2.2.2.2.2.2.2.1]⟩])) v.1.2.1 v.1.2.2.1 v.2.1.1 v.2.1.2.1 v.2.1.2.2.1 v.2.1.2.2.2.1 v.2.1.2.2.2.2.1 v.2.1.2.2.2.2.2.1 v.2.1.2.2.2.2.2.2.1 v.2.1.2.2.2.2.2.2.2.1 v.2.1.2.2.2.2.2.2.2.2.1) (inner T an57 (modesOf F) 0 k 143 (S57 k) (ending T Try.f57 an57 0 K) cd57_1000011 (sh sp57_1000011 ws rs) N X) ws rs
noncomputable def L57_0 (ws : List PV) (rs : List RowS) (N : St → Option R) (X : Nat → St → Option R) : Option R :=
  onShape [.ptr 1 0, .val [] (.int .i64)] [.vars [.val [] (.int .i64), .val [] (.int .i64), .val [] .str, .val [(0, 0)] (.slice (.int .u8)), .val [(0, 0)] (.slice (.prod (.int .i64) (.prod (.int .i64) .unit))), .val [] (.int .i64), .val [] (.int .i64), .val [] (.int .i64), .val [] (.int .i64)]] (fun v => f57_0 k (fun z0 => K [.val [] (.int .i64) z0] []) (N (sh jn57_0 [.ptr 1 0] [⟨0, .vars [.val [] (.int .i64) v.2.1.1, .val [] (.int .i64) v.2.1.2.1, .val [] .str v.2.1.2.2.1, .val [(0, 0)] (.slice (.int .u8)) v.2.1.2.2.2.1, .val [(0, 0)] (.slice (.prod (.int .i64) (.prod (.int .i64) .unit))) v.2.1.2.2.2.2.1, .val [] (.int .i64) v.2.1.2.2.2.2.2.1, .val [] (.int .i64) v.2.1.2.2.2.2.2.2.1, .val [] (.int .i64) v.2.1.2.2.2.2.2.2.2.1, .val [] (.int .i64) v.2.1.2.2.2.2.2.2.2.2.1]⟩])) v.2.1.1 v.2.1.2.1 v.2.1.2.2.1 v.2.1.2.2.2.1 v.2.1.2.2.2.2.1 v.2.1.2.2.2.2.2.1 v.2.1.2.2.2.2.2.2.1 v.2.1.2.2.2.2.2.2.2.1 v.2.1.2.2.2.2.2.2.2.2.1 k v.1.2.1) (inner T an57 (modesOf F) 0 k 143 (S57 k) (ending T Try.f57 an57 0 K) cd57_0 (sh sp57_0 ws rs) N X) ws rs
noncomputable def L57 (id : Nat) (ws : List PV) (rs : List RowS) (N : St → Option R) (X : Nat → St → Option R) : Option R := bif id == 1000011 then L57_1000011 k K ws rs N X else bif id == 0 then L57_0 k K ws rs N X else none
theorem l57_1000011 (ws : List PV) (rs : List RowS) (N : St → Option R) (X : Nat → St → Option R) : L57 k K 1000011 ws rs N X = inner T an57 (modesOf F) 0 k 143 (S57 k) (ending T Try.f57 an57 0 K) cd57_1000011 (sh sp57_1000011 ws rs) N X := by
  show L57_1000011 k K ws rs N X = _
  unfold L57_1000011
  rw [f57_1000011_def]
  exact onShape_eq (a := [.ptr 1 0, .val [] (.int .i64), .val [] .bool]) (b := [.vars [.val [] (.int .i64), .val [] (.int .i64), .val [] .str, .val [(0, 0)] (.slice (.int .u8)), .val [(0, 0)] (.slice (.prod (.int .i64) (.prod (.int .i64) .unit))), .val [] (.int .i64), .val [] (.int .i64), .val [] (.int .i64), .val [] (.int .i64)]]) (G := fun ws rs => inner T an57 (modesOf F) 0 k 143 (S57 k) (ending T Try.f57 an57 0 K) cd57_1000011 (sh sp57_1000011 ws rs) N X) (fun x y => Eq.trans (by kernel_rfl) (innerS_eq T an57 (modesOf F) 0 k 143 (S57 k) (L57 k K) cd57_1000011 (l := []) (by kernel_rfl) trivial _ N X)) ws rs
theorem b57_0 (rec : St → Option R) (N : St → Option R) (X : Nat → St → Option R) (v0_1 : Int) (v0_2 : Int) (v0_3 : ByteArray) (v0_4 : List Int) (v0_5 : List ((Int × (Int × Unit)))) (v0_6 : Int) (v0_7 : Int) (v0_8 : Int) (v0_9 : Int) (v0_0 : Int) :
    execS T an57 (modesOf F) 0 k 143 (S57 k) (L57 k K) (ending T Try.f57 an57 0 K) bd57_0 (sh sp57_0 [.ptr 1 0, .val [] (.int .i64) v0_0] [⟨0, .vars [.val [] (.int .i64) v0_1, .val [] (.int .i64) v0_2, .val [] .str v0_3, .val [(0, 0)] (.slice (.int .u8)) v0_4, .val [(0, 0)] (.slice (.prod (.int .i64) (.prod (.int .i64) .unit))) v0_5, .val [] (.int .i64) v0_6, .val [] (.int .i64) v0_7, .val [] (.int .i64) v0_8, .val [] (.int .i64) v0_9]⟩]) (fun st => atHead an57 0 bd57_0 st rec) (outX an57 0 0 N X) =
      f57_0b k (fun v0_0 => rec (sh sp57_0 [.ptr 1 0, .val [] (.int .i64) v0_0] [⟨0, .vars [.val [] (.int .i64) v0_1, .val [] (.int .i64) v0_2, .val [] .str v0_3, .val [(0, 0)] (.slice (.int .u8)) v0_4, .val [(0, 0)] (.slice (.prod (.int .i64) (.prod (.int .i64) .unit))) v0_5, .val [] (.int .i64) v0_6, .val [] (.int .i64) v0_7, .val [] (.int .i64) v0_8, .val [] (.int .i64) v0_9]⟩])) (fun z0 => K [.val [] (.int .i64) z0] []) (N (sh jn57_0 [.ptr 1 0] [⟨0, .vars [.val [] (.int .i64) v0_1, .val [] (.int .i64) v0_2, .val [] .str v0_3, .val [(0, 0)] (.slice (.int .u8)) v0_4, .val [(0, 0)] (.slice (.prod (.int .i64) (.prod (.int .i64) .unit))) v0_5, .val [] (.int .i64) v0_6, .val [] (.int .i64) v0_7, .val [] (.int .i64) v0_8, .val [] (.int .i64) v0_9]⟩])) v0_1 v0_2 v0_3 v0_4 v0_5 v0_6 v0_7 v0_8 v0_9 v0_0 := by kernel_rfl
theorem i57_0 (N : St → Option R) (X : Nat → St → Option R) (v0_1 : Int) (v0_2 : Int) (v0_3 : ByteArray) (v0_4 : List Int) (v0_5 : List ((Int × (Int × Unit)))) (v0_6 : Int) (v0_7 : Int) (v0_8 : Int) (v0_9 : Int) (m : Nat) : ∀ (v0_0 : Int),
    iter (atHead an57 0 bd57_0) m (fun st N' => exec T an57 (modesOf F) 0 k 143 (S57 k) (ending T Try.f57 an57 0 K) bd57_0 st N' (outX an57 0 0 N X)) (sh sp57_0 [.ptr 1 0, .val [] (.int .i64) v0_0] [⟨0, .vars [.val [] (.int .i64) v0_1, .val [] (.int .i64) v0_2, .val [] .str v0_3, .val [(0, 0)] (.slice (.int .u8)) v0_4, .val [(0, 0)] (.slice (.prod (.int .i64) (.prod (.int .i64) .unit))) v0_5, .val [] (.int .i64) v0_6, .val [] (.int .i64) v0_7, .val [] (.int .i64) v0_8, .val [] (.int .i64) v0_9]⟩]) = f57_0d k (fun z0 => K [.val [] (.int .i64) z0] []) (N (sh jn57_0 [.ptr 1 0] [⟨0, .vars [.val [] (.int .i64) v0_1, .val [] (.int .i64) v0_2, .val [] .str v0_3, .val [(0, 0)] (.slice (.int .u8)) v0_4, .val [(0, 0)] (.slice (.prod (.int .i64) (.prod (.int .i64) .unit))) v0_5, .val [] (.int .i64) v0_6, .val [] (.int .i64) v0_7, .val [] (.int .i64) v0_8, .val [] (.int .i64) v0_9]⟩])) v0_1 v0_2 v0_3 v0_4 v0_5 v0_6 v0_7 v0_8 v0_9 m v0_0 := by
  induction m with
  | zero => intros; rfl
  | succ m ih =>
    intro v0_0
    simp only [iter]
    rw [← execS_eq T an57 (modesOf F) 0 k 143 (S57 k) (L57 k K) bd57_0 (cuts_of _ _ _ _ _ _ _ _ bd57_0 (l := []) (by kernel_rfl) trivial)]
    refine (b57_0 k K _ N X v0_1 v0_2 v0_3 v0_4 v0_5 v0_6 v0_7 v0_8 v0_9 v0_0).trans ?_
    simp only [f57_0d, ih]
theorem l57_0 (ws : List PV) (rs : List RowS) (N : St → Option R) (X : Nat → St → Option R) : L57 k K 0 ws rs N X = inner T an57 (modesOf F) 0 k 143 (S57 k) (ending T Try.f57 an57 0 K) cd57_0 (sh sp57_0 ws rs) N X := by
  show L57_0 k K ws rs N X = _
  unfold L57_0
  rw [f57_0_def]
  exact onShape_eq (a := [.ptr 1 0, .val [] (.int .i64)]) (b := [.vars [.val [] (.int .i64), .val [] (.int .i64), .val [] .str, .val [(0, 0)] (.slice (.int .u8)), .val [(0, 0)] (.slice (.prod (.int .i64) (.prod (.int .i64) .unit))), .val [] (.int .i64), .val [] (.int .i64), .val [] (.int .i64), .val [] (.int .i64)]]) (G := fun ws rs => inner T an57 (modesOf F) 0 k 143 (S57 k) (ending T Try.f57 an57 0 K) cd57_0 (sh sp57_0 ws rs) N X) (fun x y => Eq.trans (by kernel_rfl) (Eq.trans (i57_0 k K N X y.1.1 y.1.2.1 y.1.2.2.1 y.1.2.2.2.1 y.1.2.2.2.2.1 y.1.2.2.2.2.2.1 y.1.2.2.2.2.2.2.1 y.1.2.2.2.2.2.2.2.1 y.1.2.2.2.2.2.2.2.2.1 k x.2.1).symm (by kernel_rfl))) ws rs
end
theorem e57 (k : Nat) (a0 : Int) (a1 : Int) (a2 : ByteArray) (a3 : List Int) (a4 : List ((Int × (Int × Unit)))) (a5 : Int) (a6 : Int) (a7 : Int) (a8 : Int) (K : List PV → List RowS → Option R) : callC T F k 57 [.agg [.val [] (.int .i64) a0, .val [] (.int .i64) a1, .val [] .str a2, .val [(0, 0)] (.slice (.int .u8)) a3, .val [(0, 0)] (.slice (.prod (.int .i64) (.prod (.int .i64) .unit))) a4, .val [] (.int .i64) a5, .val [] (.int .i64) a6, .val [] (.int .i64) a7, .val [] (.int .i64) a8]] [] K = f57 k a0 a1 a2 a3 a4 a5 a6 a7 a8 (fun z0 => K [.val [] (.int .i64) z0] []) := by
  rw [f57_def]
  cases k with
  | zero => rfl
  | succ k =>
    refine Eq.trans (show _ = exec T an57 (modesOf F) 0 k 143 (callC T F k) (ending T Try.f57 an57 0 K) (bodyOf Try.f57) ⟨argEnv 0 [.agg [.val [] (.int .i64) a0, .val [] (.int .i64) a1, .val [] .str a2, .val [(0, 0)] (.slice (.int .u8)) a3, .val [(0, 0)] (.slice (.prod (.int .i64) (.prod (.int .i64) .unit))) a4, .val [] (.int .i64) a5, .val [] (.int .i64) a6, .val [] (.int .i64) a7, .val [] (.int .i64) a8]] (fun _ => none), rowsOf []⟩ (ending T Try.f57 an57 0 K) (fun _ _ => none) from by kernel_rfl) ?_
    rw [← S57_eq k, ← execS_eq T an57 (modesOf F) 0 k 143 (S57 k) (L57 k K) (bodyOf Try.f57) (cuts_of _ _ _ _ _ _ _ _ (bodyOf Try.f57) (l := [(1000011, sp57_1000011, cd57_1000011), (0, sp57_0, cd57_0)]) (by kernel_rfl) ⟨l57_1000011 k K, l57_0 k K, trivial⟩)]
    kernel_rfl
noncomputable def s57 (k : Nat) (a : List PV) (r : List RowS) (K : List PV → List RowS → Option R) : Option R :=
  onShape [.agg [.val [] (.int .i64), .val [] (.int .i64), .val [] .str, .val [(0, 0)] (.slice (.int .u8)), .val [(0, 0)] (.slice (.prod (.int .i64) (.prod (.int .i64) .unit))), .val [] (.int .i64), .val [] (.int .i64), .val [] (.int .i64), .val [] (.int .i64)]] [] (fun v => f57 k v.1.1.1 v.1.1.2.1 v.1.1.2.2.1 v.1.1.2.2.2.1 v.1.1.2.2.2.2.1 v.1.1.2.2.2.2.2.1 v.1.1.2.2.2.2.2.2.1 v.1.1.2.2.2.2.2.2.2.1 v.1.1.2.2.2.2.2.2.2.2.1 (fun z0 => K [.val [] (.int .i64) z0] [])) (callC T F k 57 a r K) a r
theorem s57_eq (k : Nat) (a : List PV) (r : List RowS) (K : List PV → List RowS → Option R) : s57 k a r K = callC T F k 57 a r K := by
  unfold s57
  exact onShape_eq (a := [.agg [.val [] (.int .i64), .val [] (.int .i64), .val [] .str, .val [(0, 0)] (.slice (.int .u8)), .val [(0, 0)] (.slice (.prod (.int .i64) (.prod (.int .i64) .unit))), .val [] (.int .i64), .val [] (.int .i64), .val [] (.int .i64), .val [] (.int .i64)]]) (b := []) (G := fun a r => callC T F k 57 a r K) (fun x y => Eq.trans (by kernel_rfl) (Eq.trans (e57 k x.1.1 x.1.2.1 x.1.2.2.1 x.1.2.2.2.1 x.1.2.2.2.2.1 x.1.2.2.2.2.2.1 x.1.2.2.2.2.2.2.1 x.1.2.2.2.2.2.2.2.1 x.1.2.2.2.2.2.2.2.2.1 K).symm (by kernel_rfl))) a r
end
section
variable {R : Type}
noncomputable def S84 (k g : Nat) (a : List PV) (r : List RowS) (K : List PV → List RowS → Option R) : Option R := bif g == 23 then s23 k a r K else bif g == 57 then s57 k a r K else callC T F k g a r K
theorem S84_eq (k : Nat) : S84 (R := R) k = callC T F k := by
  funext g a r K
  exact pick_eq (fun e => by subst e; exact s23_eq k a r K) (pick_eq (fun e => by subst e; exact s57_eq k a r K) (rfl))
theorem e84 (k : Nat) (a0 : Int) (a1 : Int) (a2 : Int) (a3 : Int) (a4 : Int) (a5 : Int) (a6 : Int) (a7 : ByteArray) (a8 : List Int) (a9 : List ((Int × (Int × Unit)))) (a10 : Int) (a11 : Int) (a12 : Int) (a13 : Int) (K : List PV → List RowS → Option R) : callC T F k 84 [.agg [.val [] (.int .i64) a0, .val [] (.int .i64) a1, .val [] (.int .i64) a2, .val [] (.int .i64) a3, .val [] (.int .i64) a4], .agg [.val [] (.int .i64) a5, .val [] (.int .i64) a6, .val [] .str a7, .val [(0, 0)] (.slice (.int .u8)) a8, .val [(0, 0)] (.slice (.prod (.int .i64) (.prod (.int .i64) .unit))) a9, .val [] (.int .i64) a10, .val [] (.int .i64) a11, .val [] (.int .i64) a12, .val [] (.int .i64) a13]] [] K = f84 k a0 a1 a2 a3 a4 a5 a6 a7 a8 a9 a10 a11 a12 a13 (fun z0 => K [.val [] (.int .i64) z0] []) := by
  rw [f84_def]
  cases k with
  | zero => rfl
  | succ k =>
    refine Eq.trans (show _ = exec T an84 (modesOf F) 0 k 13 (callC T F k) (ending T Try.f84 an84 0 K) (bodyOf Try.f84) ⟨argEnv 0 [.agg [.val [] (.int .i64) a0, .val [] (.int .i64) a1, .val [] (.int .i64) a2, .val [] (.int .i64) a3, .val [] (.int .i64) a4], .agg [.val [] (.int .i64) a5, .val [] (.int .i64) a6, .val [] .str a7, .val [(0, 0)] (.slice (.int .u8)) a8, .val [(0, 0)] (.slice (.prod (.int .i64) (.prod (.int .i64) .unit))) a9, .val [] (.int .i64) a10, .val [] (.int .i64) a11, .val [] (.int .i64) a12, .val [] (.int .i64) a13]] (fun _ => none), rowsOf []⟩ (ending T Try.f84 an84 0 K) (fun _ _ => none) from by kernel_rfl) ?_
    rw [← S84_eq k, ← execS_eq T an84 (modesOf F) 0 k 13 (S84 k) (fun _ _ _ _ _ => none) (bodyOf Try.f84) (cuts_of _ _ _ _ _ _ _ _ (bodyOf Try.f84) (l := []) (by kernel_rfl) trivial)]
    kernel_rfl
noncomputable def s84 (k : Nat) (a : List PV) (r : List RowS) (K : List PV → List RowS → Option R) : Option R :=
  onShape [.agg [.val [] (.int .i64), .val [] (.int .i64), .val [] (.int .i64), .val [] (.int .i64), .val [] (.int .i64)], .agg [.val [] (.int .i64), .val [] (.int .i64), .val [] .str, .val [(0, 0)] (.slice (.int .u8)), .val [(0, 0)] (.slice (.prod (.int .i64) (.prod (.int .i64) .unit))), .val [] (.int .i64), .val [] (.int .i64), .val [] (.int .i64), .val [] (.int .i64)]] [] (fun v => f84 k v.1.1.1 v.1.1.2.1 v.1.1.2.2.1 v.1.1.2.2.2.1 v.1.1.2.2.2.2.1 v.1.2.1.1 v.1.2.1.2.1 v.1.2.1.2.2.1 v.1.2.1.2.2.2.1 v.1.2.1.2.2.2.2.1 v.1.2.1.2.2.2.2.2.1 v.1.2.1.2.2.2.2.2.2.1 v.1.2.1.2.2.2.2.2.2.2.1 v.1.2.1.2.2.2.2.2.2.2.2.1 (fun z0 => K [.val [] (.int .i64) z0] [])) (callC T F k 84 a r K) a r
theorem s84_eq (k : Nat) (a : List PV) (r : List RowS) (K : List PV → List RowS → Option R) : s84 k a r K = callC T F k 84 a r K := by
  unfold s84
  exact onShape_eq (a := [.agg [.val [] (.int .i64), .val [] (.int .i64), .val [] (.int .i64), .val [] (.int .i64), .val [] (.int .i64)], .agg [.val [] (.int .i64), .val [] (.int .i64), .val [] .str, .val [(0, 0)] (.slice (.int .u8)), .val [(0, 0)] (.slice (.prod (.int .i64) (.prod (.int .i64) .unit))), .val [] (.int .i64), .val [] (.int .i64), .val [] (.int .i64), .val [] (.int .i64)]]) (b := []) (G := fun a r => callC T F k 84 a r K) (fun x y => Eq.trans (by kernel_rfl) (Eq.trans (e84 k x.1.1 x.1.2.1 x.1.2.2.1 x.1.2.2.2.1 x.1.2.2.2.2.1 x.2.1.1 x.2.1.2.1 x.2.1.2.2.1 x.2.1.2.2.2.1 x.2.1.2.2.2.2.1 x.2.1.2.2.2.2.2.1 x.2.1.2.2.2.2.2.2.1 x.2.1.2.2.2.2.2.2.2.1 x.2.1.2.2.2.2.2.2.2.2.1 K).symm (by kernel_rfl))) a r
end
section
variable {R : Type}
noncomputable def S85 (k g : Nat) (a : List PV) (r : List RowS) (K : List PV → List RowS → Option R) : Option R := bif g == 75 then s75 k a r K else bif g == 113 then s113 k a r K else callC T F k g a r K
theorem S85_eq (k : Nat) : S85 (R := R) k = callC T F k := by
  funext g a r K
  exact pick_eq (fun e => by subst e; exact s75_eq k a r K) (pick_eq (fun e => by subst e; exact s113_eq k a r K) (rfl))
theorem e85 (k : Nat) (a0 : Int) (a1 : Int) (a2 : Int) (a3 : Int) (a4 : Int) (a5 : Int) (a6 : Int) (a7 : ByteArray) (a8 : List Int) (a9 : List ((Int × (Int × Unit)))) (a10 : Int) (a11 : Int) (a12 : Int) (a13 : Int) (K : List PV → List RowS → Option R) : callC T F k 85 [.agg [.val [] (.int .i64) a0, .val [] (.int .i64) a1, .val [] (.int .i64) a2, .val [] (.int .i64) a3, .val [] (.int .i64) a4], .agg [.val [] (.int .i64) a5, .val [] (.int .i64) a6, .val [] .str a7, .val [(0, 0)] (.slice (.int .u8)) a8, .val [(0, 0)] (.slice (.prod (.int .i64) (.prod (.int .i64) .unit))) a9, .val [] (.int .i64) a10, .val [] (.int .i64) a11, .val [] (.int .i64) a12, .val [] (.int .i64) a13]] [] K = f85 k a0 a1 a2 a3 a4 a5 a6 a7 a8 a9 a10 a11 a12 a13 (fun z0 z1 z2 z3 z4 z5 z6 z7 z8 z9 z10 => K [.agg [.val [] (.int .i64) z0, .val [] (.int .i64) z1, .val [] .str z2, .val [(0, 0)] (.slice (.int .u8)) z3, .val [(0, 0)] (.slice (.prod (.int .i64) (.prod (.int .i64) .unit))) z4, .val [] (.int .i64) z5, .val [] (.int .i64) z6, .val [] (.int .i64) z7, .val [] (.int .i64) z8], .rw 1, .val [] (.int .i64) z9] [⟨0, .arr [] (.prod (.int .i64) (.prod (.int .i64) (.prod .str (.prod (.int .i64) (.prod (.int .i64) (.prod (.int .i64) (.prod (.slice (.int .u8)) (.prod (.slice (.prod (.int .i64) (.prod (.int .i64) .unit))) (.prod .bool .unit))))))))) z10⟩]) := by
  rw [f85_def]
  cases k with
  | zero => rfl
  | succ k =>
    refine Eq.trans (show _ = exec T an85 (modesOf F) 0 k 61 (callC T F k) (ending T Try.f85 an85 0 K) (bodyOf Try.f85) ⟨argEnv 0 [.agg [.val [] (.int .i64) a0, .val [] (.int .i64) a1, .val [] (.int .i64) a2, .val [] (.int .i64) a3, .val [] (.int .i64) a4], .agg [.val [] (.int .i64) a5, .val [] (.int .i64) a6, .val [] .str a7, .val [(0, 0)] (.slice (.int .u8)) a8, .val [(0, 0)] (.slice (.prod (.int .i64) (.prod (.int .i64) .unit))) a9, .val [] (.int .i64) a10, .val [] (.int .i64) a11, .val [] (.int .i64) a12, .val [] (.int .i64) a13]] (fun _ => none), rowsOf []⟩ (ending T Try.f85 an85 0 K) (fun _ _ => none) from by kernel_rfl) ?_
    rw [← S85_eq k, ← execS_eq T an85 (modesOf F) 0 k 61 (S85 k) (fun _ _ _ _ _ => none) (bodyOf Try.f85) (cuts_of _ _ _ _ _ _ _ _ (bodyOf Try.f85) (l := []) (by kernel_rfl) trivial)]
    kernel_rfl
noncomputable def s85 (k : Nat) (a : List PV) (r : List RowS) (K : List PV → List RowS → Option R) : Option R :=
  onShape [.agg [.val [] (.int .i64), .val [] (.int .i64), .val [] (.int .i64), .val [] (.int .i64), .val [] (.int .i64)], .agg [.val [] (.int .i64), .val [] (.int .i64), .val [] .str, .val [(0, 0)] (.slice (.int .u8)), .val [(0, 0)] (.slice (.prod (.int .i64) (.prod (.int .i64) .unit))), .val [] (.int .i64), .val [] (.int .i64), .val [] (.int .i64), .val [] (.int .i64)]] [] (fun v => f85 k v.1.1.1 v.1.1.2.1 v.1.1.2.2.1 v.1.1.2.2.2.1 v.1.1.2.2.2.2.1 v.1.2.1.1 v.1.2.1.2.1 v.1.2.1.2.2.1 v.1.2.1.2.2.2.1 v.1.2.1.2.2.2.2.1 v.1.2.1.2.2.2.2.2.1 v.1.2.1.2.2.2.2.2.2.1 v.1.2.1.2.2.2.2.2.2.2.1 v.1.2.1.2.2.2.2.2.2.2.2.1 (fun z0 z1 z2 z3 z4 z5 z6 z7 z8 z9 z10 => K [.agg [.val [] (.int .i64) z0, .val [] (.int .i64) z1, .val [] .str z2, .val [(0, 0)] (.slice (.int .u8)) z3, .val [(0, 0)] (.slice (.prod (.int .i64) (.prod (.int .i64) .unit))) z4, .val [] (.int .i64) z5, .val [] (.int .i64) z6, .val [] (.int .i64) z7, .val [] (.int .i64) z8], .rw 1, .val [] (.int .i64) z9] [⟨0, .arr [] (.prod (.int .i64) (.prod (.int .i64) (.prod .str (.prod (.int .i64) (.prod (.int .i64) (.prod (.int .i64) (.prod (.slice (.int .u8)) (.prod (.slice (.prod (.int .i64) (.prod (.int .i64) .unit))) (.prod .bool .unit))))))))) z10⟩])) (callC T F k 85 a r K) a r
theorem s85_eq (k : Nat) (a : List PV) (r : List RowS) (K : List PV → List RowS → Option R) : s85 k a r K = callC T F k 85 a r K := by
  unfold s85
  exact onShape_eq (a := [.agg [.val [] (.int .i64), .val [] (.int .i64), .val [] (.int .i64), .val [] (.int .i64), .val [] (.int .i64)], .agg [.val [] (.int .i64), .val [] (.int .i64), .val [] .str, .val [(0, 0)] (.slice (.int .u8)), .val [(0, 0)] (.slice (.prod (.int .i64) (.prod (.int .i64) .unit))), .val [] (.int .i64), .val [] (.int .i64), .val [] (.int .i64), .val [] (.int .i64)]]) (b := []) (G := fun a r => callC T F k 85 a r K) (fun x y => Eq.trans (by kernel_rfl) (Eq.trans (e85 k x.1.1 x.1.2.1 x.1.2.2.1 x.1.2.2.2.1 x.1.2.2.2.2.1 x.2.1.1 x.2.1.2.1 x.2.1.2.2.1 x.2.1.2.2.2.1 x.2.1.2.2.2.2.1 x.2.1.2.2.2.2.2.1 x.2.1.2.2.2.2.2.2.1 x.2.1.2.2.2.2.2.2.2.1 x.2.1.2.2.2.2.2.2.2.2.1 K).symm (by kernel_rfl))) a r
end
section
variable {R : Type}
noncomputable def S35 (k g : Nat) (a : List PV) (r : List RowS) (K : List PV → List RowS → Option R) : Option R := bif g == 84 then s84 k a r K else bif g == 85 then s85 k a r K else callC T F k g a r K
theorem S35_eq (k : Nat) : S35 (R := R) k = callC T F k := by
  funext g a r K
  exact pick_eq (fun e => by subst e; exact s84_eq k a r K) (pick_eq (fun e => by subst e; exact s85_eq k a r K) (rfl))
theorem e35 (k : Nat) (a0 : Int) (a1 : Int) (a2 : Int) (a3 : Int) (a4 : Int) (a5 : Int) (a6 : Int) (a7 : ByteArray) (a8 : List Int) (a9 : List ((Int × (Int × Unit)))) (a10 : Int) (a11 : Int) (a12 : Int) (a13 : Int) (K : List PV → List RowS → Option R) : callC T F k 35 [.agg [.val [] (.int .i64) a0, .val [] (.int .i64) a1, .val [] (.int .i64) a2, .val [] (.int .i64) a3, .val [] (.int .i64) a4], .agg [.val [] (.int .i64) a5, .val [] (.int .i64) a6, .val [] .str a7, .val [(0, 0)] (.slice (.int .u8)) a8, .val [(0, 0)] (.slice (.prod (.int .i64) (.prod (.int .i64) .unit))) a9, .val [] (.int .i64) a10, .val [] (.int .i64) a11, .val [] (.int .i64) a12, .val [] (.int .i64) a13]] [] K = f35 k a0 a1 a2 a3 a4 a5 a6 a7 a8 a9 a10 a11 a12 a13 (fun z0 z1 z2 z3 z4 z5 z6 z7 z8 z9 z10 => K [.agg [.val [] (.int .i64) z0, .val [] (.int .i64) z1, .val [] .str z2, .val [(0, 0)] (.slice (.int .u8)) z3, .val [(0, 0)] (.slice (.prod (.int .i64) (.prod (.int .i64) .unit))) z4, .val [] (.int .i64) z5, .val [] (.int .i64) z6, .val [] (.int .i64) z7, .val [] (.int .i64) z8], .rw 1, .val [] (.int .i64) z9] [⟨0, .arr [] (.prod (.int .i64) (.prod (.int .i64) (.prod .str (.prod (.int .i64) (.prod (.int .i64) (.prod (.int .i64) (.prod (.slice (.int .u8)) (.prod (.slice (.prod (.int .i64) (.prod (.int .i64) .unit))) (.prod .bool .unit))))))))) z10⟩]) := by
  rw [f35_def]
  cases k with
  | zero => rfl
  | succ k =>
    refine Eq.trans (show _ = exec T an35 (modesOf F) 0 k 21 (callC T F k) (ending T Try.f35 an35 0 K) (bodyOf Try.f35) ⟨argEnv 0 [.agg [.val [] (.int .i64) a0, .val [] (.int .i64) a1, .val [] (.int .i64) a2, .val [] (.int .i64) a3, .val [] (.int .i64) a4], .agg [.val [] (.int .i64) a5, .val [] (.int .i64) a6, .val [] .str a7, .val [(0, 0)] (.slice (.int .u8)) a8, .val [(0, 0)] (.slice (.prod (.int .i64) (.prod (.int .i64) .unit))) a9, .val [] (.int .i64) a10, .val [] (.int .i64) a11, .val [] (.int .i64) a12, .val [] (.int .i64) a13]] (fun _ => none), rowsOf []⟩ (ending T Try.f35 an35 0 K) (fun _ _ => none) from by kernel_rfl) ?_
    rw [← S35_eq k, ← execS_eq T an35 (modesOf F) 0 k 21 (S35 k) (fun _ _ _ _ _ => none) (bodyOf Try.f35) (cuts_of _ _ _ _ _ _ _ _ (bodyOf Try.f35) (l := []) (by kernel_rfl) trivial)]
    kernel_rfl
noncomputable def s35 (k : Nat) (a : List PV) (r : List RowS) (K : List PV → List RowS → Option R) : Option R :=
  onShape [.agg [.val [] (.int .i64), .val [] (.int .i64), .val [] (.int .i64), .val [] (.int .i64), .val [] (.int .i64)], .agg [.val [] (.int .i64), .val [] (.int .i64), .val [] .str, .val [(0, 0)] (.slice (.int .u8)), .val [(0, 0)] (.slice (.prod (.int .i64) (.prod (.int .i64) .unit))), .val [] (.int .i64), .val [] (.int .i64), .val [] (.int .i64), .val [] (.int .i64)]] [] (fun v => f35 k v.1.1.1 v.1.1.2.1 v.1.1.2.2.1 v.1.1.2.2.2.1 v.1.1.2.2.2.2.1 v.1.2.1.1 v.1.2.1.2.1 v.1.2.1.2.2.1 v.1.2.1.2.2.2.1 v.1.2.1.2.2.2.2.1 v.1.2.1.2.2.2.2.2.1 v.1.2.1.2.2.2.2.2.2.1 v.1.2.1.2.2.2.2.2.2.2.1 v.1.2.1.2.2.2.2.2.2.2.2.1 (fun z0 z1 z2 z3 z4 z5 z6 z7 z8 z9 z10 => K [.agg [.val [] (.int .i64) z0, .val [] (.int .i64) z1, .val [] .str z2, .val [(0, 0)] (.slice (.int .u8)) z3, .val [(0, 0)] (.slice (.prod (.int .i64) (.prod (.int .i64) .unit))) z4, .val [] (.int .i64) z5, .val [] (.int .i64) z6, .val [] (.int .i64) z7, .val [] (.int .i64) z8], .rw 1, .val [] (.int .i64) z9] [⟨0, .arr [] (.prod (.int .i64) (.prod (.int .i64) (.prod .str (.prod (.int .i64) (.prod (.int .i64) (.prod (.int .i64) (.prod (.slice (.int .u8)) (.prod (.slice (.prod (.int .i64) (.prod (.int .i64) .unit))) (.prod .bool .unit))))))))) z10⟩])) (callC T F k 35 a r K) a r
theorem s35_eq (k : Nat) (a : List PV) (r : List RowS) (K : List PV → List RowS → Option R) : s35 k a r K = callC T F k 35 a r K := by
  unfold s35
  exact onShape_eq (a := [.agg [.val [] (.int .i64), .val [] (.int .i64), .val [] (.int .i64), .val [] (.int .i64), .val [] (.int .i64)], .agg [.val [] (.int .i64), .val [] (.int .i64), .val [] .str, .val [(0, 0)] (.slice (.int .u8)), .val [(0, 0)] (.slice (.prod (.int .i64) (.prod (.int .i64) .unit))), .val [] (.int .i64), .val [] (.int .i64), .val [] (.int .i64), .val [] (.int .i64)]]) (b := []) (G := fun a r => callC T F k 35 a r K) (fun x y => Eq.trans (by kernel_rfl) (Eq.trans (e35 k x.1.1 x.1.2.1 x.1.2.2.1 x.1.2.2.2.1 x.1.2.2.2.2.1 x.2.1.1 x.2.1.2.1 x.2.1.2.2.1 x.2.1.2.2.2.1 x.2.1.2.2.2.2.1 x.2.1.2.2.2.2.2.1 x.2.1.2.2.2.2.2.2.1 x.2.1.2.2.2.2.2.2.2.1 x.2.1.2.2.2.2.2.2.2.2.1 K).symm (by kernel_rfl))) a r
end
section
variable {R : Type}
noncomputable def S36 (k g : Nat) (a : List PV) (r : List RowS) (K : List PV → List RowS → Option R) : Option R := bif g == 56 then s56 k a r K else bif g == 83 then s83 k a r K else callC T F k g a r K
theorem S36_eq (k : Nat) : S36 (R := R) k = callC T F k := by
  funext g a r K
  exact pick_eq (fun e => by subst e; exact s56_eq k a r K) (pick_eq (fun e => by subst e; exact s83_eq k a r K) (rfl))
section
variable {R : Type} (k : Nat) (K : List PV → List RowS → Option R)
noncomputable def L36_1000007 (ws : List PV) (rs : List RowS) (N : St → Option R) (X : Nat → St → Option R) : Option R :=
  onShape [.ptr 1 0, .ptr 4 0, .val [] .bool] [.vars [.val [] (.int .i64), .val [] (.int .i64), .val [] .str, .rw 2, .rw 3, .val [] (.int .i64), .val [] (.int .i64), .val [] (.int .i64), .val [] (.int .i64)], .arr [] (.int .u8), .arr [] (.prod (.int .i64) (.prod (.int .i64) .unit)), .vars [.val [] (.int .i64), .val [] (.int .i64), .val [] .str, .nils, .nils, .val [] (.int .i64), .val [] (.int .i64), .val [] (.int .i64), .val [] (.int .i64)]] (fun v => f36_1000007 k (fun yN_0 => N (sh fi36_7 [.ptr 1 0, .ptr 4 0] [⟨0, .vars [.val [] (.int .i64) yN_0, .val [] (.int .i64) v.2.1.2.1, .val [] .str v.2.1.2.2.1, .rw 2, .rw 3, .val [] (.int .i64) v.2.1.2.2.2.2.2.1, .val [] (.int .i64) v.2.1.2.2.2.2.2.2.1, .val [] (.int .i64) v.2.1.2.2.2.2.2.2.2.1, .val [] (.int .i64) v.2.1.2.2.2.2.2.2.2.2.1]⟩, ⟨0, .arr [] (.int .u8) v.2.2.1⟩, ⟨0, .arr [] (.prod (.int .i64) (.prod (.int .i64) .unit)) v.2.2.2.1⟩, ⟨0, .vars [.val [] (.int .i64) v.2.2.2.2.1.1, .val [] (.int .i64) v.2.2.2.2.1.2.1, .val [] .str v.2.2.2.2.1.2.2.1, .nils, .nils, .val [] (.int .i64) v.2.2.2.2.1.2.2.2.2.2.1, .val [] (.int .i64) v.2.2.2.2.1.2.2.2.2.2.2.1, .val [] (.int .i64) v.2.2.2.2.1.2.2.2.2.2.2.2.1, .val [] (.int .i64) v.2.2.2.2.1.2.2.2.2.2.2.2.2.1]⟩])) v.1.2.2.1 v.2.1.1 v.2.1.2.1 v.2.1.2.2.1 v.2.1.2.2.2.2.2.1 v.2.1.2.2.2.2.2.2.1 v.2.1.2.2.2.2.2.2.2.1 v.2.1.2.2.2.2.2.2.2.2.1 v.2.2.1 v.2.2.2.1 v.2.2.2.2.1.1 v.2.2.2.2.1.2.1 v.2.2.2.2.1.2.2.1 v.2.2.2.2.1.2.2.2.2.2.1 v.2.2.2.2.1.2.2.2.2.2.2.1 v.2.2.2.2.1.2.2.2.2.2.2.2.1 v.2.2.2.2.1.2.2.2.2.2.2.2.2.1) (inner T an36 (modesOf F) 0 k 20 (S36 k) (ending T Try.f36 an36 0 K) cd36_1000007 (sh sp36_1000007 ws rs) N X) ws rs
noncomputable def L36 (id : Nat) (ws : List PV) (rs : List RowS) (N : St → Option R) (X : Nat → St → Option R) : Option R := bif id == 1000007 then L36_1000007 k K ws rs N X else none
theorem l36_1000007 (ws : List PV) (rs : List RowS) (N : St → Option R) (X : Nat → St → Option R) : L36 k K 1000007 ws rs N X = inner T an36 (modesOf F) 0 k 20 (S36 k) (ending T Try.f36 an36 0 K) cd36_1000007 (sh sp36_1000007 ws rs) N X := by
  show L36_1000007 k K ws rs N X = _
  unfold L36_1000007
  rw [f36_1000007_def]
  exact onShape_eq (a := [.ptr 1 0, .ptr 4 0, .val [] .bool]) (b := [.vars [.val [] (.int .i64), .val [] (.int .i64), .val [] .str, .rw 2, .rw 3, .val [] (.int .i64), .val [] (.int .i64), .val [] (.int .i64), .val [] (.int .i64)], .arr [] (.int .u8), .arr [] (.prod (.int .i64) (.prod (.int .i64) .unit)), .vars [.val [] (.int .i64), .val [] (.int .i64), .val [] .str, .nils, .nils, .val [] (.int .i64), .val [] (.int .i64), .val [] (.int .i64), .val [] (.int .i64)]]) (G := fun ws rs => inner T an36 (modesOf F) 0 k 20 (S36 k) (ending T Try.f36 an36 0 K) cd36_1000007 (sh sp36_1000007 ws rs) N X) (fun x y => Eq.trans (by kernel_rfl) (innerS_eq T an36 (modesOf F) 0 k 20 (S36 k) (L36 k K) cd36_1000007 (l := []) (by kernel_rfl) trivial _ N X)) ws rs
end
theorem e36 (k : Nat) (a0 : Int) (a1 : Int) (a2 : ByteArray) (a3 : List Int) (a4 : List ((Int × (Int × Unit)))) (a5 : Int) (a6 : Int) (a7 : Int) (a8 : Int) (K : List PV → List RowS → Option R) : callC T F k 36 [.agg [.val [] (.int .i64) a0, .val [] (.int .i64) a1, .val [] .str a2, .val [(0, 0)] (.slice (.int .u8)) a3, .val [(0, 0)] (.slice (.prod (.int .i64) (.prod (.int .i64) .unit))) a4, .val [] (.int .i64) a5, .val [] (.int .i64) a6, .val [] (.int .i64) a7, .val [] (.int .i64) a8]] [] K = f36 k a0 a1 a2 a3 a4 a5 a6 a7 a8 (fun z0 z1 z2 z3 z4 z5 z6 z7 z8 z9 => K [.agg [.val [] (.int .i64) z0, .val [] (.int .i64) z1, .val [] .str z2, .rw 1, .rw 2, .val [] (.int .i64) z3, .val [] (.int .i64) z4, .val [] (.int .i64) z5, .val [] (.int .i64) z6], .val [] (.int .i64) z7] [⟨0, .arr [] (.int .u8) z8⟩, ⟨0, .arr [] (.prod (.int .i64) (.prod (.int .i64) .unit)) z9⟩]) := by
  rw [f36_def]
  cases k with
  | zero => rfl
  | succ k =>
    refine Eq.trans (show _ = exec T an36 (modesOf F) 0 k 20 (callC T F k) (ending T Try.f36 an36 0 K) (bodyOf Try.f36) ⟨argEnv 0 [.agg [.val [] (.int .i64) a0, .val [] (.int .i64) a1, .val [] .str a2, .val [(0, 0)] (.slice (.int .u8)) a3, .val [(0, 0)] (.slice (.prod (.int .i64) (.prod (.int .i64) .unit))) a4, .val [] (.int .i64) a5, .val [] (.int .i64) a6, .val [] (.int .i64) a7, .val [] (.int .i64) a8]] (fun _ => none), rowsOf []⟩ (ending T Try.f36 an36 0 K) (fun _ _ => none) from by kernel_rfl) ?_
    rw [← S36_eq k, ← execS_eq T an36 (modesOf F) 0 k 20 (S36 k) (L36 k K) (bodyOf Try.f36) (cuts_of _ _ _ _ _ _ _ _ (bodyOf Try.f36) (l := [(1000007, sp36_1000007, cd36_1000007)]) (by kernel_rfl) ⟨l36_1000007 k K, trivial⟩)]
    kernel_rfl
noncomputable def s36 (k : Nat) (a : List PV) (r : List RowS) (K : List PV → List RowS → Option R) : Option R :=
  onShape [.agg [.val [] (.int .i64), .val [] (.int .i64), .val [] .str, .val [(0, 0)] (.slice (.int .u8)), .val [(0, 0)] (.slice (.prod (.int .i64) (.prod (.int .i64) .unit))), .val [] (.int .i64), .val [] (.int .i64), .val [] (.int .i64), .val [] (.int .i64)]] [] (fun v => f36 k v.1.1.1 v.1.1.2.1 v.1.1.2.2.1 v.1.1.2.2.2.1 v.1.1.2.2.2.2.1 v.1.1.2.2.2.2.2.1 v.1.1.2.2.2.2.2.2.1 v.1.1.2.2.2.2.2.2.2.1 v.1.1.2.2.2.2.2.2.2.2.1 (fun z0 z1 z2 z3 z4 z5 z6 z7 z8 z9 => K [.agg [.val [] (.int .i64) z0, .val [] (.int .i64) z1, .val [] .str z2, .rw 1, .rw 2, .val [] (.int .i64) z3, .val [] (.int .i64) z4, .val [] (.int .i64) z5, .val [] (.int .i64) z6], .val [] (.int .i64) z7] [⟨0, .arr [] (.int .u8) z8⟩, ⟨0, .arr [] (.prod (.int .i64) (.prod (.int .i64) .unit)) z9⟩])) (callC T F k 36 a r K) a r
theorem s36_eq (k : Nat) (a : List PV) (r : List RowS) (K : List PV → List RowS → Option R) : s36 k a r K = callC T F k 36 a r K := by
  unfold s36
  exact onShape_eq (a := [.agg [.val [] (.int .i64), .val [] (.int .i64), .val [] .str, .val [(0, 0)] (.slice (.int .u8)), .val [(0, 0)] (.slice (.prod (.int .i64) (.prod (.int .i64) .unit))), .val [] (.int .i64), .val [] (.int .i64), .val [] (.int .i64), .val [] (.int .i64)]]) (b := []) (G := fun a r => callC T F k 36 a r K) (fun x y => Eq.trans (by kernel_rfl) (Eq.trans (e36 k x.1.1 x.1.2.1 x.1.2.2.1 x.1.2.2.2.1 x.1.2.2.2.2.1 x.1.2.2.2.2.2.1 x.1.2.2.2.2.2.2.1 x.1.2.2.2.2.2.2.2.1 x.1.2.2.2.2.2.2.2.2.1 K).symm (by kernel_rfl))) a r
end
section
variable {R : Type}
noncomputable def S37 (k g : Nat) (a : List PV) (r : List RowS) (K : List PV → List RowS → Option R) : Option R := bif g == 57 then s57 k a r K else callC T F k g a r K
theorem S37_eq (k : Nat) : S37 (R := R) k = callC T F k := by
  funext g a r K
  exact pick_eq (fun e => by subst e; exact s57_eq k a r K) (rfl)
section
variable {R : Type} (k : Nat) (K : List PV → List RowS → Option R)
noncomputable def L37_1000006 (ws : List PV) (rs : List RowS) (N : St → Option R) (X : Nat → St → Option R) : Option R :=
  onShape [.ptr 1 0, .ptr 2 0, .val [] .bool] [.vars [.val [] (.int .i64), .val [] (.int .i64), .val [] .str, .val [(0, 0)] (.slice (.int .u8)), .val [(0, 0)] (.slice (.prod (.int .i64) (.prod (.int .i64) .unit))), .val [] (.int .i64), .val [] (.int .i64), .val [] (.int .i64), .val [] (.int .i64)], .vars [.val [] (.int .i64), .val [] (.int .i64), .val [] .str, .nils, .nils, .val [] (.int .i64), .val [] (.int .i64), .val [] (.int .i64), .val [] (.int .i64)]] (fun v => f37_1000006 k (fun yN_0 => N (sh fi37_6 [.ptr 1 0, .ptr 2 0] [⟨0, .vars [.val [] (.int .i64) yN_0, .val [] (.int .i64) v.2.1.2.1, .val [] .str v.2.1.2.2.1, .val [(0, 0)] (.slice (.int .u8)) v.2.1.2.2.2.1, .val [(0, 0)] (.slice (.prod (.int .i64) (.prod (.int .i64) .unit))) v.2.1.2.2.2.2.1, .val [] (.int .i64) v.2.1.2.2.2.2.2.1, .val [] (.int .i64) v.2.1.2.2.2.2.2.2.1, .val [] (.int .i64) v.2.1.2.2.2.2.2.2.2.1, .val [] (.int .i64) v.2.1.2.2.2.2.2.2.2.2.1]⟩, ⟨0, .vars [.val [] (.int .i64) v.2.2.1.1, .val [] (.int .i64) v.2.2.1.2.1, .val [] .str v.2.2.1.2.2.1, .nils, .nils, .val [] (.int .i64) v.2.2.1.2.2.2.2.2.1, .val [] (.int .i64) v.2.2.1.2.2.2.2.2.2.1, .val [] (.int .i64) v.2.2.1.2.2.2.2.2.2.2.1, .val [] (.int .i64) v.2.2.1.2.2.2.2.2.2.2.2.1]⟩])) v.1.2.2.1 v.2.1.1 v.2.1.2.1 v.2.1.2.2.1 v.2.1.2.2.2.1 v.2.1.2.2.2.2.1 v.2.1.2.2.2.2.2.1 v.2.1.2.2.2.2.2.2.1 v.2.1.2.2.2.2.2.2.2.1 v.2.1.2.2.2.2.2.2.2.2.1 v.2.2.1.1 v.2.2.1.2.1 v.2.2.1.2.2.1 v.2.2.1.2.2.2.2.2.1 v.2.2.1.2.2.2.2.2.2.1 v.2.2.1.2.2.2.2.2.2.2.1 v.2.2.1.2.2.2.2.2.2.2.2.1) (inner T an37 (modesOf F) 0 k 18 (S37 k) (ending T Try.f37 an37 0 K) cd37_1000006 (sh sp37_1000006 ws rs) N X) ws rs
noncomputable def L37 (id : Nat) (ws : List PV) (rs : List RowS) (N : St → Option R) (X : Nat → St → Option R) : Option R := bif id == 1000006 then L37_1000006 k K ws rs N X else none
theorem l37_1000006 (ws : List PV) (rs : List RowS) (N : St → Option R) (X : Nat → St → Option R) : L37 k K 1000006 ws rs N X = inner T an37 (modesOf F) 0 k 18 (S37 k) (ending T Try.f37 an37 0 K) cd37_1000006 (sh sp37_1000006 ws rs) N X := by
  show L37_1000006 k K ws rs N X = _
  unfold L37_1000006
  rw [f37_1000006_def]
  exact onShape_eq (a := [.ptr 1 0, .ptr 2 0, .val [] .bool]) (b := [.vars [.val [] (.int .i64), .val [] (.int .i64), .val [] .str, .val [(0, 0)] (.slice (.int .u8)), .val [(0, 0)] (.slice (.prod (.int .i64) (.prod (.int .i64) .unit))), .val [] (.int .i64), .val [] (.int .i64), .val [] (.int .i64), .val [] (.int .i64)], .vars [.val [] (.int .i64), .val [] (.int .i64), .val [] .str, .nils, .nils, .val [] (.int .i64), .val [] (.int .i64), .val [] (.int .i64), .val [] (.int .i64)]]) (G := fun ws rs => inner T an37 (modesOf F) 0 k 18 (S37 k) (ending T Try.f37 an37 0 K) cd37_1000006 (sh sp37_1000006 ws rs) N X) (fun x y => Eq.trans (by kernel_rfl) (innerS_eq T an37 (modesOf F) 0 k 18 (S37 k) (L37 k K) cd37_1000006 (l := []) (by kernel_rfl) trivial _ N X)) ws rs
end
theorem e37 (k : Nat) (a0 : Int) (a1 : Int) (a2 : ByteArray) (a3 : List Int) (a4 : List ((Int × (Int × Unit)))) (a5 : Int) (a6 : Int) (a7 : Int) (a8 : Int) (K : List PV → List RowS → Option R) : callC T F k 37 [.agg [.val [] (.int .i64) a0, .val [] (.int .i64) a1, .val [] .str a2, .val [(0, 0)] (.slice (.int .u8)) a3, .val [(0, 0)] (.slice (.prod (.int .i64) (.prod (.int .i64) .unit))) a4, .val [] (.int .i64) a5, .val [] (.int .i64) a6, .val [] (.int .i64) a7, .val [] (.int .i64) a8]] [] K = f37 k a0 a1 a2 a3 a4 a5 a6 a7 a8 (fun z0 z1 z2 z3 z4 z5 z6 z7 z8 z9 => K [.agg [.val [] (.int .i64) z0, .val [] (.int .i64) z1, .val [] .str z2, .val [(0, 0)] (.slice (.int .u8)) z3, .val [(0, 0)] (.slice (.prod (.int .i64) (.prod (.int .i64) .unit))) z4, .val [] (.int .i64) z5, .val [] (.int .i64) z6, .val [] (.int .i64) z7, .val [] (.int .i64) z8], .val [] (.int .i64) z9] []) := by
  rw [f37_def]
  cases k with
  | zero => rfl
  | succ k =>
    refine Eq.trans (show _ = exec T an37 (modesOf F) 0 k 18 (callC T F k) (ending T Try.f37 an37 0 K) (bodyOf Try.f37) ⟨argEnv 0 [.agg [.val [] (.int .i64) a0, .val [] (.int .i64) a1, .val [] .str a2, .val [(0, 0)] (.slice (.int .u8)) a3, .val [(0, 0)] (.slice (.prod (.int .i64) (.prod (.int .i64) .unit))) a4, .val [] (.int .i64) a5, .val [] (.int .i64) a6, .val [] (.int .i64) a7, .val [] (.int .i64) a8]] (fun _ => none), rowsOf []⟩ (ending T Try.f37 an37 0 K) (fun _ _ => none) from by kernel_rfl) ?_
    rw [← S37_eq k, ← execS_eq T an37 (modesOf F) 0 k 18 (S37 k) (L37 k K) (bodyOf Try.f37) (cuts_of _ _ _ _ _ _ _ _ (bodyOf Try.f37) (l := [(1000006, sp37_1000006, cd37_1000006)]) (by kernel_rfl) ⟨l37_1000006 k K, trivial⟩)]
    kernel_rfl
noncomputable def s37 (k : Nat) (a : List PV) (r : List RowS) (K : List PV → List RowS → Option R) : Option R :=
  onShape [.agg [.val [] (.int .i64), .val [] (.int .i64), .val [] .str, .val [(0, 0)] (.slice (.int .u8)), .val [(0, 0)] (.slice (.prod (.int .i64) (.prod (.int .i64) .unit))), .val [] (.int .i64), .val [] (.int .i64), .val [] (.int .i64), .val [] (.int .i64)]] [] (fun v => f37 k v.1.1.1 v.1.1.2.1 v.1.1.2.2.1 v.1.1.2.2.2.1 v.1.1.2.2.2.2.1 v.1.1.2.2.2.2.2.1 v.1.1.2.2.2.2.2.2.1 v.1.1.2.2.2.2.2.2.2.1 v.1.1.2.2.2.2.2.2.2.2.1 (fun z0 z1 z2 z3 z4 z5 z6 z7 z8 z9 => K [.agg [.val [] (.int .i64) z0, .val [] (.int .i64) z1, .val [] .str z2, .val [(0, 0)] (.slice (.int .u8)) z3, .val [(0, 0)] (.slice (.prod (.int .i64) (.prod (.int .i64) .unit))) z4, .val [] (.int .i64) z5, .val [] (.int .i64) z6, .val [] (.int .i64) z7, .val [] (.int .i64) z8], .val [] (.int .i64) z9] [])) (callC T F k 37 a r K) a r
theorem s37_eq (k : Nat) (a : List PV) (r : List RowS) (K : List PV → List RowS → Option R) : s37 k a r K = callC T F k 37 a r K := by
  unfold s37
  exact onShape_eq (a := [.agg [.val [] (.int .i64), .val [] (.int .i64), .val [] .str, .val [(0, 0)] (.slice (.int .u8)), .val [(0, 0)] (.slice (.prod (.int .i64) (.prod (.int .i64) .unit))), .val [] (.int .i64), .val [] (.int .i64), .val [] (.int .i64), .val [] (.int .i64)]]) (b := []) (G := fun a r => callC T F k 37 a r K) (fun x y => Eq.trans (by kernel_rfl) (Eq.trans (e37 k x.1.1 x.1.2.1 x.1.2.2.1 x.1.2.2.2.1 x.1.2.2.2.2.1 x.1.2.2.2.2.2.1 x.1.2.2.2.2.2.2.1 x.1.2.2.2.2.2.2.2.1 x.1.2.2.2.2.2.2.2.2.1 K).symm (by kernel_rfl))) a r
end
section
variable {R : Type}
noncomputable def S38 (k g : Nat) (a : List PV) (r : List RowS) (K : List PV → List RowS → Option R) : Option R := bif g == 40 then s40 k a r K else bif g == 51 then s51 k a r K else callC T F k g a r K
theorem S38_eq (k : Nat) : S38 (R := R) k = callC T F k := by
  funext g a r K
  exact pick_eq (fun e => by subst e; exact s40_eq k a r K) (pick_eq (fun e => by subst e; exact s51_eq k a r K) (rfl))
theorem e38 (k : Nat) (a0 : Int) (a1 : Int) (a2 : ByteArray) (a3 : List Int) (a4 : List ((Int × (Int × Unit)))) (a5 : Int) (a6 : Int) (a7 : Int) (a8 : Int) (a9 : Int) (a10 : Int) (a11 : ByteArray) (a12 : List Int) (a13 : List ((Int × (Int × Unit)))) (a14 : Int) (a15 : Int) (a16 : Int) (a17 : Int) (K : List PV → List RowS → Option R) : callC T F k 38 [.agg [.val [] (.int .i64) a0, .val [] (.int .i64) a1, .val [] .str a2, .val [(0, 0)] (.slice (.int .u8)) a3, .val [(0, 0)] (.slice (.prod (.int .i64) (.prod (.int .i64) .unit))) a4, .val [] (.int .i64) a5, .val [] (.int .i64) a6, .val [] (.int .i64) a7, .val [] (.int .i64) a8], .agg [.val [] (.int .i64) a9, .val [] (.int .i64) a10, .val [] .str a11, .val [(0, 0)] (.slice (.int .u8)) a12, .val [(0, 0)] (.slice (.prod (.int .i64) (.prod (.int .i64) .unit))) a13, .val [] (.int .i64) a14, .val [] (.int .i64) a15, .val [] (.int .i64) a16, .val [] (.int .i64) a17]] [] K = f38 k a0 a1 a2 a3 a4 a5 a6 a7 a8 a9 a10 a11 a12 a13 a14 a15 a16 a17 (fun z0 => K [.val [] .bool z0] []) := by
  rw [f38_def]
  cases k with
  | zero => rfl
  | succ k =>
    refine Eq.trans (show _ = exec T an38 (modesOf F) 0 k 66 (callC T F k) (ending T Try.f38 an38 0 K) (bodyOf Try.f38) ⟨argEnv 0 [.agg [.val [] (.int .i64) a0, .val [] (.int .i64) a1, .val [] .str a2, .val [(0, 0)] (.slice (.int .u8)) a3, .val [(0, 0)] (.slice (.prod (.int .i64) (.prod (.int .i64) .unit))) a4, .val [] (.int .i64) a5, .val [] (.int .i64) a6, .val [] (.int .i64) a7, .val [] (.int .i64) a8], .agg [.val [] (.int .i64) a9, .val [] (.int .i64) a10, .val [] .str a11, .val [(0, 0)] (.slice (.int .u8)) a12, .val [(0, 0)] (.slice (.prod (.int .i64) (.prod (.int .i64) .unit))) a13, .val [] (.int .i64) a14, .val [] (.int .i64) a15, .val [] (.int .i64) a16, .val [] (.int .i64) a17]] (fun _ => none), rowsOf []⟩ (ending T Try.f38 an38 0 K) (fun _ _ => none) from by kernel_rfl) ?_
    rw [← S38_eq k, ← execS_eq T an38 (modesOf F) 0 k 66 (S38 k) (fun _ _ _ _ _ => none) (bodyOf Try.f38) (cuts_of _ _ _ _ _ _ _ _ (bodyOf Try.f38) (l := []) (by kernel_rfl) trivial)]
    kernel_rfl
noncomputable def s38 (k : Nat) (a : List PV) (r : List RowS) (K : List PV → List RowS → Option R) : Option R :=
  onShape [.agg [.val [] (.int .i64), .val [] (.int .i64), .val [] .str, .val [(0, 0)] (.slice (.int .u8)), .val [(0, 0)] (.slice (.prod (.int .i64) (.prod (.int .i64) .unit))), .val [] (.int .i64), .val [] (.int .i64), .val [] (.int .i64), .val [] (.int .i64)], .agg [.val [] (.int .i64), .val [] (.int .i64), .val [] .str, .val [(0, 0)] (.slice (.int .u8)), .val [(0, 0)] (.slice (.prod (.int .i64) (.prod (.int .i64) .unit))), .val [] (.int .i64), .val [] (.int .i64), .val [] (.int .i64), .val [] (.int .i64)]] [] (fun v => f38 k v.1.1.1 v.1.1.2.1 v.1.1.2.2.1 v.1.1.2.2.2.1 v.1.1.2.2.2.2.1 v.1.1.2.2.2.2.2.1 v.1.1.2.2.2.2.2.2.1 v.1.1.2.2.2.2.2.2.2.1 v.1.1.2.2.2.2.2.2.2.2.1 v.1.2.1.1 v.1.2.1.2.1 v.1.2.1.2.2.1 v.1.2.1.2.2.2.1 v.1.2.1.2.2.2.2.1 v.1.2.1.2.2.2.2.2.1 v.1.2.1.2.2.2.2.2.2.1 v.1.2.1.2.2.2.2.2.2.2.1 v.1.2.1.2.2.2.2.2.2.2.2.1 (fun z0 => K [.val [] .bool z0] [])) (callC T F k 38 a r K) a r
theorem s38_eq (k : Nat) (a : List PV) (r : List RowS) (K : List PV → List RowS → Option R) : s38 k a r K = callC T F k 38 a r K := by
  unfold s38
  exact onShape_eq (a := [.agg [.val [] (.int .i64), .val [] (.int .i64), .val [] .str, .val [(0, 0)] (.slice (.int .u8)), .val [(0, 0)] (.slice (.prod (.int .i64) (.prod (.int .i64) .unit))), .val [] (.int .i64), .val [] (.int .i64), .val [] (.int .i64), .val [] (.int .i64)], .agg [.val [] (.int .i64), .val [] (.int .i64), .val [] .str, .val [(0, 0)] (.slice (.int .u8)), .val [(0, 0)] (.slice (.prod (.int .i64) (.prod (.int .i64) .unit))), .val [] (.int .i64), .val [] (.int .i64), .val [] (.int .i64), .val [] (.int .i64)]]) (b := []) (G := fun a r => callC T F k 38 a r K) (fun x y => Eq.trans (by kernel_rfl) (Eq.trans (e38 k x.1.1 x.1.2.1 x.1.2.2.1 x.1.2.2.2.1 x.1.2.2.2.2.1 x.1.2.2.2.2.2.1 x.1.2.2.2.2.2.2.1 x.1.2.2.2.2.2.2.2.1 x.1.2.2.2.2.2.2.2.2.1 x.2.1.1 x.2.1.2.1 x.2.1.2.2.1 x.2.1.2.2.2.1 x.2.1.2.2.2.2.1 x.2.1.2.2.2.2.2.1 x.2.1.2.2.2.2.2.2.1 x.2.1.2.2.2.2.2.2.2.1 x.2.1.2.2.2.2.2.2.2.2.1 K).symm (by kernel_rfl))) a r
end
section
variable {R : Type}
noncomputable def S5 (k g : Nat) (a : List PV) (r : List RowS) (K : List PV → List RowS → Option R) : Option R := bif g == 24 then s24 k a r K else bif g == 32 then s32 k a r K else bif g == 34 then s34 k a r K else bif g == 35 then s35 k a r K else bif g == 36 then s36 k a r K else bif g == 37 then s37 k a r K else bif g == 38 then s38 k a r K else callC T F k g a r K
theorem S5_eq (k : Nat) : S5 (R := R) k = callC T F k := by
  funext g a r K
  exact pick_eq (fun e => by subst e; exact s24_eq k a r K) (pick_eq (fun e => by subst e; exact s32_eq k a r K) (pick_eq (fun e => by subst e; exact s34_eq k a r K) (pick_eq (fun e => by subst e; exact s35_eq k a r K) (pick_eq (fun e => by subst e; exact s36_eq k a r K) (pick_eq (fun e => by subst e; exact s37_eq k a r K) (pick_eq (fun e => by subst e; exact s38_eq k a r K) (rfl)))))))
theorem e5 (k : Nat) (a0 : Int) (a1 : Int) (a2 : Int) (a3 : Int) (a4 : Int) (a5 : Int) (a6 : Int) (a7 : ByteArray) (a8 : List Int) (a9 : List ((Int × (Int × Unit)))) (a10 : Int) (a11 : Int) (a12 : Int) (a13 : Int) (K : List PV → List RowS → Option R) : callC T F k 5 [.agg [.val [] (.int .i64) a0, .val [] (.int .i64) a1, .val [] (.int .i64) a2, .val [] (.int .i64) a3, .val [] (.int .i64) a4], .agg [.val [] (.int .i64) a5, .val [] (.int .i64) a6, .val [] .str a7, .val [(0, 0)] (.slice (.int .u8)) a8, .val [(0, 0)] (.slice (.prod (.int .i64) (.prod (.int .i64) .unit))) a9, .val [] (.int .i64) a10, .val [] (.int .i64) a11, .val [] (.int .i64) a12, .val [] (.int .i64) a13]] [] K = f5 k a0 a1 a2 a3 a4 a5 a6 a7 a8 a9 a10 a11 a12 a13 (fun z0 => K [.val [] .bool z0] []) := by
  rw [f5_def]
  cases k with
  | zero => rfl
  | succ k =>
    refine Eq.trans (show _ = exec T an5 (modesOf F) 0 k 65 (callC T F k) (ending T Try.f5 an5 0 K) (bodyOf Try.f5) ⟨argEnv 0 [.agg [.val [] (.int .i64) a0, .val [] (.int .i64) a1, .val [] (.int .i64) a2, .val [] (.int .i64) a3, .val [] (.int .i64) a4], .agg [.val [] (.int .i64) a5, .val [] (.int .i64) a6, .val [] .str a7, .val [(0, 0)] (.slice (.int .u8)) a8, .val [(0, 0)] (.slice (.prod (.int .i64) (.prod (.int .i64) .unit))) a9, .val [] (.int .i64) a10, .val [] (.int .i64) a11, .val [] (.int .i64) a12, .val [] (.int .i64) a13]] (fun _ => none), rowsOf []⟩ (ending T Try.f5 an5 0 K) (fun _ _ => none) from by kernel_rfl) ?_
    rw [← S5_eq k, ← execS_eq T an5 (modesOf F) 0 k 65 (S5 k) (fun _ _ _ _ _ => none) (bodyOf Try.f5) (cuts_of _ _ _ _ _ _ _ _ (bodyOf Try.f5) (l := []) (by kernel_rfl) trivial)]
    kernel_rfl
noncomputable def s5 (k : Nat) (a : List PV) (r : List RowS) (K : List PV → List RowS → Option R) : Option R :=
  onShape [.agg [.val [] (.int .i64), .val [] (.int .i64), .val [] (.int .i64), .val [] (.int .i64), .val [] (.int .i64)], .agg [.val [] (.int .i64), .val [] (.int .i64), .val [] .str, .val [(0, 0)] (.slice (.int .u8)), .val [(0, 0)] (.slice (.prod (.int .i64) (.prod (.int .i64) .unit))), .val [] (.int .i64), .val [] (.int .i64), .val [] (.int .i64), .val [] (.int .i64)]] [] (fun v => f5 k v.1.1.1 v.1.1.2.1 v.1.1.2.2.1 v.1.1.2.2.2.1 v.1.1.2.2.2.2.1 v.1.2.1.1 v.1.2.1.2.1 v.1.2.1.2.2.1 v.1.2.1.2.2.2.1 v.1.2.1.2.2.2.2.1 v.1.2.1.2.2.2.2.2.1 v.1.2.1.2.2.2.2.2.2.1 v.1.2.1.2.2.2.2.2.2.2.1 v.1.2.1.2.2.2.2.2.2.2.2.1 (fun z0 => K [.val [] .bool z0] [])) (callC T F k 5 a r K) a r
theorem s5_eq (k : Nat) (a : List PV) (r : List RowS) (K : List PV → List RowS → Option R) : s5 k a r K = callC T F k 5 a r K := by
  unfold s5
  exact onShape_eq (a := [.agg [.val [] (.int .i64), .val [] (.int .i64), .val [] (.int .i64), .val [] (.int .i64), .val [] (.int .i64)], .agg [.val [] (.int .i64), .val [] (.int .i64), .val [] .str, .val [(0, 0)] (.slice (.int .u8)), .val [(0, 0)] (.slice (.prod (.int .i64) (.prod (.int .i64) .unit))), .val [] (.int .i64), .val [] (.int .i64), .val [] (.int .i64), .val [] (.int .i64)]]) (b := []) (G := fun a r => callC T F k 5 a r K) (fun x y => Eq.trans (by kernel_rfl) (Eq.trans (e5 k x.1.1 x.1.2.1 x.1.2.2.1 x.1.2.2.2.1 x.1.2.2.2.2.1 x.2.1.1 x.2.1.2.1 x.2.1.2.2.1 x.2.1.2.2.2.1 x.2.1.2.2.2.2.1 x.2.1.2.2.2.2.2.1 x.2.1.2.2.2.2.2.2.1 x.2.1.2.2.2.2.2.2.2.1 x.2.1.2.2.2.2.2.2.2.2.1 K).symm (by kernel_rfl))) a r
end
end Go.Proofs.Ytlcklflbhhnnhaa.PM
