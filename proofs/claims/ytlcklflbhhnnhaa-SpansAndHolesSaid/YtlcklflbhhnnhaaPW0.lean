/- The small machine's run is the typed form (printed by a program of this work). -/
import Derived.Test.YtlcklflbhhnnhaaPA0
set_option linter.unusedVariables false
set_option linter.unusedSimpArgs false
set_option maxRecDepth 100000
namespace Go.Proofs.Ytlcklflbhhnnhaa.PM
open Go
noncomputable def F : Nat → Option PFn := findN [(66, .code Try.f66 an66), (45, .code Try.f45 an45), (132, .code Try.f132 an132), (114, .code Try.f114 an114), (115, .ext [.any, .any] (sortSpec 116)), (86, .code Try.f86 an86), (39, .code Try.f39 an39), (64, .code Try.f64 an64), (18, .code Try.f18 an18), (24, .code Try.f24 an24), (40, .code Try.f40 an40), (41, .code Try.f41 an41), (6, .code Try.f6 an6), (87, .code Try.f87 an87), (42, .code Try.f42 an42), (72, .code Try.f72 an72), (46, .code Try.f46 an46), (88, .code Try.f88 an88), (43, .code Try.f43 an43), (89, .code Try.f89 an89), (44, .code Try.f44 an44), (7, .code Try.f7 an7), (8, .code Try.f8 an8)]
section
variable {R : Type}
noncomputable def S66 (k g : Nat) (a : List PV) (r : List RowS) (K : List PV → List RowS → Option R) : Option R := callC T F k g a r K
theorem S66_eq (k : Nat) : S66 (R := R) k = callC T F k := by
  funext g a r K
  exact rfl
theorem e66 (k : Nat) (a0 : Int) (a1 : Int) (a2 : Int) (K : List PV → List RowS → Option R) : callC T F k 66 [.val [] (.int .i64) a0, .val [] (.int .i64) a1, .val [] (.int .i64) a2] [] K = f66 k a0 a1 a2 (fun z0 => K [.val [] .bool z0] []) := by
  rw [f66_def]
  cases k with
  | zero => rfl
  | succ k =>
    refine Eq.trans (show _ = exec T an66 (modesOf F) 0 k 15 (callC T F k) (ending T Try.f66 an66 0 K) (bodyOf Try.f66) ⟨argEnv 0 [.val [] (.int .i64) a0, .val [] (.int .i64) a1, .val [] (.int .i64) a2] (fun _ => none), rowsOf []⟩ (ending T Try.f66 an66 0 K) (fun _ _ => none) from by kernel_rfl) ?_
    rw [← S66_eq k, ← execS_eq T an66 (modesOf F) 0 k 15 (S66 k) (fun _ _ _ _ _ => none) (bodyOf Try.f66) (cuts_of _ _ _ _ _ _ _ _ (bodyOf Try.f66) (l := []) (by kernel_rfl) trivial)]
    kernel_rfl
noncomputable def s66 (k : Nat) (a : List PV) (r : List RowS) (K : List PV → List RowS → Option R) : Option R :=
  onShape [.val [] (.int .i64), .val [] (.int .i64), .val [] (.int .i64)] [] (fun v => f66 k v.1.1 v.1.2.1 v.1.2.2.1 (fun z0 => K [.val [] .bool z0] [])) (callC T F k 66 a r K) a r
theorem s66_eq (k : Nat) (a : List PV) (r : List RowS) (K : List PV → List RowS → Option R) : s66 k a r K = callC T F k 66 a r K := by
  unfold s66
  exact onShape_eq (a := [.val [] (.int .i64), .val [] (.int .i64), .val [] (.int .i64)]) (b := []) (G := fun a r => callC T F k 66 a r K) (fun x y => Eq.trans (by kernel_rfl) (Eq.trans (e66 k x.1 x.2.1 x.2.2.1 K).symm (by kernel_rfl))) a r
end
section
variable {R : Type}
noncomputable def S45 (k g : Nat) (a : List PV) (r : List RowS) (K : List PV → List RowS → Option R) : Option R := bif g == 66 then s66 k a r K else callC T F k g a r K
theorem S45_eq (k : Nat) : S45 (R := R) k = callC T F k := by
  funext g a r K
  exact pick_eq (fun e => by subst e; exact s66_eq k a r K) (rfl)
section
variable {R : Type} (k : Nat) (K : List PV → List RowS → Option R)
noncomputable def L45_0 (ws : List PV) (rs : List RowS) (N : St → Option R) (X : Nat → St → Option R) : Option R :=
  onShape [.val [(0, 0)] (.slice (.prod (.int .i64) (.prod (.int .i64) .unit))), .val [] (.int .i64), .val [(0, 0)] (.slice (.prod (.int .i64) (.prod (.int .i64) .unit))), .val [] (.int .i64), .val [] (.int .i64)] [] (fun v => f45_0 k (fun z0 => K [.val [] (.int .i64) z0] []) (N (sh jn45_0 [] [])) v.1.1 v.1.2.1 v.1.2.2.1 v.1.2.2.2.1 k v.1.2.2.2.2.1) (inner T an45 (modesOf F) 0 k 51 (S45 k) (ending T Try.f45 an45 0 K) cd45_0 (sh sp45_0 ws rs) N X) ws rs
noncomputable def L45 (id : Nat) (ws : List PV) (rs : List RowS) (N : St → Option R) (X : Nat → St → Option R) : Option R := bif id == 0 then L45_0 k K ws rs N X else none
theorem b45_0 (rec : St → Option R) (N : St → Option R) (X : Nat → St → Option R) (v0_0 : List ((Int × (Int × Unit)))) (v0_1 : Int) (v0_2 : List ((Int × (Int × Unit)))) (v0_3 : Int) (v0_4 : Int) :
    execS T an45 (modesOf F) 0 k 51 (S45 k) (L45 k K) (ending T Try.f45 an45 0 K) bd45_0 (sh sp45_0 [.val [(0, 0)] (.slice (.prod (.int .i64) (.prod (.int .i64) .unit))) v0_0, .val [] (.int .i64) v0_1, .val [(0, 0)] (.slice (.prod (.int .i64) (.prod (.int .i64) .unit))) v0_2, .val [] (.int .i64) v0_3, .val [] (.int .i64) v0_4] []) (fun st => atHead an45 0 bd45_0 st rec) (outX an45 0 0 N X) =
      f45_0b k (fun v0_4 => rec (sh sp45_0 [.val [(0, 0)] (.slice (.prod (.int .i64) (.prod (.int .i64) .unit))) v0_0, .val [] (.int .i64) v0_1, .val [(0, 0)] (.slice (.prod (.int .i64) (.prod (.int .i64) .unit))) v0_2, .val [] (.int .i64) v0_3, .val [] (.int .i64) v0_4] [])) (fun z0 => K [.val [] (.int .i64) z0] []) (N (sh jn45_0 [] [])) v0_0 v0_1 v0_2 v0_3 v0_4 := by kernel_rfl
theorem i45_0 (N : St → Option R) (X : Nat → St → Option R) (v0_0 : List ((Int × (Int × Unit)))) (v0_1 : Int) (v0_2 : List ((Int × (Int × Unit)))) (v0_3 : Int) (m : Nat) : ∀ (v0_4 : Int),
    iter (atHead an45 0 bd45_0) m (fun st N' => exec T an45 (modesOf F) 0 k 51 (S45 k) (ending T Try.f45 an45 0 K) bd45_0 st N' (outX an45 0 0 N X)) (sh sp45_0 [.val [(0, 0)] (.slice (.prod (.int .i64) (.prod (.int .i64) .unit))) v0_0, .val [] (.int .i64) v0_1, .val [(0, 0)] (.slice (.prod (.int .i64) (.prod (.int .i64) .unit))) v0_2, .val [] (.int .i64) v0_3, .val [] (.int .i64) v0_4] []) = f45_0d k (fun z0 => K [.val [] (.int .i64) z0] []) (N (sh jn45_0 [] [])) v0_0 v0_1 v0_2 v0_3 m v0_4 := by
  induction m with
  | zero => intros; rfl
  | succ m ih =>
    intro v0_4
    simp only [iter]
    rw [← execS_eq T an45 (modesOf F) 0 k 51 (S45 k) (L45 k K) bd45_0 (cuts_of _ _ _ _ _ _ _ _ bd45_0 (l := []) (by kernel_rfl) trivial)]
    refine (b45_0 k K _ N X v0_0 v0_1 v0_2 v0_3 v0_4).trans ?_
    simp only [f45_0d, ih]
theorem l45_0 (ws : List PV) (rs : List RowS) (N : St → Option R) (X : Nat → St → Option R) : L45 k K 0 ws rs N X = inner T an45 (modesOf F) 0 k 51 (S45 k) (ending T Try.f45 an45 0 K) cd45_0 (sh sp45_0 ws rs) N X := by
  show L45_0 k K ws rs N X = _
  unfold L45_0
  rw [f45_0_def]
  exact onShape_eq (a := [.val [(0, 0)] (.slice (.prod (.int .i64) (.prod (.int .i64) .unit))), .val [] (.int .i64), .val [(0, 0)] (.slice (.prod (.int .i64) (.prod (.int .i64) .unit))), .val [] (.int .i64), .val [] (.int .i64)]) (b := []) (G := fun ws rs => inner T an45 (modesOf F) 0 k 51 (S45 k) (ending T Try.f45 an45 0 K) cd45_0 (sh sp45_0 ws rs) N X) (fun x y => Eq.trans (by kernel_rfl) (Eq.trans (i45_0 k K N X x.1 x.2.1 x.2.2.1 x.2.2.2.1 k x.2.2.2.2.1).symm (by kernel_rfl))) ws rs
end
theorem e45 (k : Nat) (a0 : List ((Int × (Int × Unit)))) (a1 : Int) (K : List PV → List RowS → Option R) : callC T F k 45 [.val [(0, 0)] (.slice (.prod (.int .i64) (.prod (.int .i64) .unit))) a0, .val [] (.int .i64) a1] [] K = f45 k a0 a1 (fun z0 => K [.val [] (.int .i64) z0] []) := by
  rw [f45_def]
  cases k with
  | zero => rfl
  | succ k =>
    refine Eq.trans (show _ = exec T an45 (modesOf F) 0 k 51 (callC T F k) (ending T Try.f45 an45 0 K) (bodyOf Try.f45) ⟨argEnv 0 [.val [(0, 0)] (.slice (.prod (.int .i64) (.prod (.int .i64) .unit))) a0, .val [] (.int .i64) a1] (fun _ => none), rowsOf []⟩ (ending T Try.f45 an45 0 K) (fun _ _ => none) from by kernel_rfl) ?_
    rw [← S45_eq k, ← execS_eq T an45 (modesOf F) 0 k 51 (S45 k) (L45 k K) (bodyOf Try.f45) (cuts_of _ _ _ _ _ _ _ _ (bodyOf Try.f45) (l := [(0, sp45_0, cd45_0)]) (by kernel_rfl) ⟨l45_0 k K, trivial⟩)]
    kernel_rfl
noncomputable def s45 (k : Nat) (a : List PV) (r : List RowS) (K : List PV → List RowS → Option R) : Option R :=
  onShape [.val [(0, 0)] (.slice (.prod (.int .i64) (.prod (.int .i64) .unit))), .val [] (.int .i64)] [] (fun v => f45 k v.1.1 v.1.2.1 (fun z0 => K [.val [] (.int .i64) z0] [])) (callC T F k 45 a r K) a r
theorem s45_eq (k : Nat) (a : List PV) (r : List RowS) (K : List PV → List RowS → Option R) : s45 k a r K = callC T F k 45 a r K := by
  unfold s45
  exact onShape_eq (a := [.val [(0, 0)] (.slice (.prod (.int .i64) (.prod (.int .i64) .unit))), .val [] (.int .i64)]) (b := []) (G := fun a r => callC T F k 45 a r K) (fun x y => Eq.trans (by kernel_rfl) (Eq.trans (e45 k x.1 x.2.1 K).symm (by kernel_rfl))) a r
end
section
variable {R : Type}
noncomputable def S132 (k g : Nat) (a : List PV) (r : List RowS) (K : List PV → List RowS → Option R) : Option R := callC T F k g a r K
theorem S132_eq (k : Nat) : S132 (R := R) k = callC T F k := by
  funext g a r K
  exact rfl
section
variable {R : Type} (k : Nat) (K : List PV → List RowS → Option R)
noncomputable def L132_1000002 (ws : List PV) (rs : List RowS) (N : St → Option R) (X : Nat → St → Option R) : Option R :=
  onShape [.nils, .val [] (.int .i64), .val [] .bool] [] (fun v => f132_1000002 k (N (sh fi132_2 [.nils, .val [] (.int .i64) v.1.2.1] [])) v.1.2.1 v.1.2.2.1) (inner T an132 (modesOf F) 0 k 27 (S132 k) (ending T Try.f132 an132 0 K) cd132_1000002 (sh sp132_1000002 ws rs) N X) ws rs
noncomputable def L132_1000005 (ws : List PV) (rs : List RowS) (N : St → Option R) (X : Nat → St → Option R) : Option R :=
  onShape [.nils, .val [] (.int .i64), .val [] .bool] [] (fun v => f132_1000005 k (fun yN_0 => N (sh fi132_5 [.rw 1] [⟨0, .arr [] (.prod (.int .i64) (.prod (.int .i64) .unit)) yN_0⟩])) v.1.2.1 v.1.2.2.1) (inner T an132 (modesOf F) 0 k 27 (S132 k) (ending T Try.f132 an132 0 K) cd132_1000005 (sh sp132_1000005 ws rs) N X) ws rs
noncomputable def L132 (id : Nat) (ws : List PV) (rs : List RowS) (N : St → Option R) (X : Nat → St → Option R) : Option R := bif id == 1000002 then L132_1000002 k K ws rs N X else bif id == 1000005 then L132_1000005 k K ws rs N X else none
theorem l132_1000002 (ws : List PV) (rs : List RowS) (N : St → Option R) (X : Nat → St → Option R) : L132 k K 1000002 ws rs N X = inner T an132 (modesOf F) 0 k 27 (S132 k) (ending T Try.f132 an132 0 K) cd132_1000002 (sh sp132_1000002 ws rs) N X := by
  show L132_1000002 k K ws rs N X = _
  unfold L132_1000002
  rw [f132_1000002_def]
  exact onShape_eq (a := [.nils, .val [] (.int .i64), .val [] .bool]) (b := []) (G := fun ws rs => inner T an132 (modesOf F) 0 k 27 (S132 k) (ending T Try.f132 an132 0 K) cd132_1000002 (sh sp132_1000002 ws rs) N X) (fun x y => Eq.trans (by kernel_rfl) (innerS_eq T an132 (modesOf F) 0 k 27 (S132 k) (L132 k K) cd132_1000002 (l := []) (by kernel_rfl) trivial _ N X)) ws rs
theorem l132_1000005 (ws : List PV) (rs : List RowS) (N : St → Option R) (X : Nat → St → Option R) : L132 k K 1000005 ws rs N X = inner T an132 (modesOf F) 0 k 27 (S132 k) (ending T Try.f132 an132 0 K) cd132_1000005 (sh sp132_1000005 ws rs) N X := by
  show L132_1000005 k K ws rs N X = _
  unfold L132_1000005
  rw [f132_1000005_def]
  exact onShape_eq (a := [.nils, .val [] (.int .i64), .val [] .bool]) (b := []) (G := fun ws rs => inner T an132 (modesOf F) 0 k 27 (S132 k) (ending T Try.f132 an132 0 K) cd132_1000005 (sh sp132_1000005 ws rs) N X) (fun x y => Eq.trans (by kernel_rfl) (innerS_eq T an132 (modesOf F) 0 k 27 (S132 k) (L132 k K) cd132_1000005 (l := []) (by kernel_rfl) trivial _ N X)) ws rs
end
theorem e132 (k : Nat) (a0 : Int) (K : List PV → List RowS → Option R) : callC T F k 132 [.nils, .val [] (.int .i64) a0] [] K = f132 k a0 (fun z0 => K [.rw 1] [⟨0, .arr [] (.prod (.int .i64) (.prod (.int .i64) .unit)) z0⟩]) := by
  rw [f132_def]
  cases k with
  | zero => rfl
  | succ k =>
    refine Eq.trans (show _ = exec T an132 (modesOf F) 0 k 27 (callC T F k) (ending T Try.f132 an132 0 K) (bodyOf Try.f132) ⟨argEnv 0 [.nils, .val [] (.int .i64) a0] (fun _ => none), rowsOf []⟩ (ending T Try.f132 an132 0 K) (fun _ _ => none) from by kernel_rfl) ?_
    rw [← S132_eq k, ← execS_eq T an132 (modesOf F) 0 k 27 (S132 k) (L132 k K) (bodyOf Try.f132) (cuts_of _ _ _ _ _ _ _ _ (bodyOf Try.f132) (l := [(1000002, sp132_1000002, cd132_1000002), (1000005, sp132_1000005, cd132_1000005)]) (by kernel_rfl) ⟨l132_1000002 k K, l132_1000005 k K, trivial⟩)]
    kernel_rfl
noncomputable def s132 (k : Nat) (a : List PV) (r : List RowS) (K : List PV → List RowS → Option R) : Option R :=
  onShape [.nils, .val [] (.int .i64)] [] (fun v => f132 k v.1.2.1 (fun z0 => K [.rw 1] [⟨0, .arr [] (.prod (.int .i64) (.prod (.int .i64) .unit)) z0⟩])) (callC T F k 132 a r K) a r
theorem s132_eq (k : Nat) (a : List PV) (r : List RowS) (K : List PV → List RowS → Option R) : s132 k a r K = callC T F k 132 a r K := by
  unfold s132
  exact onShape_eq (a := [.nils, .val [] (.int .i64)]) (b := []) (G := fun a r => callC T F k 132 a r K) (fun x y => Eq.trans (by kernel_rfl) (Eq.trans (e132 k x.2.1 K).symm (by kernel_rfl))) a r
end
section
variable {R : Type}
noncomputable def S114 (k g : Nat) (a : List PV) (r : List RowS) (K : List PV → List RowS → Option R) : Option R := bif g == 132 then s132 k a r K else callC T F k g a r K
theorem S114_eq (k : Nat) : S114 (R := R) k = callC T F k := by
  funext g a r K
  exact pick_eq (fun e => by subst e; exact s132_eq k a r K) (rfl)
section
variable {R : Type} (k : Nat) (K : List PV → List RowS → Option R)
noncomputable def L114_1000007 (ws : List PV) (rs : List RowS) (N : St → Option R) (X : Nat → St → Option R) : Option R :=
  onShape [.val [(0, 0)] (.slice (.slice (.prod (.int .i64) (.prod (.int .i64) .unit)))), .val [] (.int .i64), .val [(0, 0)] (.slice (.slice (.prod (.int .i64) (.prod (.int .i64) .unit)))), .val [] (.int .i64), .val [] (.int .i64), .val [] .bool] [] (fun v => f114_1000007 k (N (sh fi114_7 [.val [(0, 0)] (.slice (.slice (.prod (.int .i64) (.prod (.int .i64) .unit)))) v.1.1, .val [] (.int .i64) v.1.2.1, .val [(0, 0)] (.slice (.slice (.prod (.int .i64) (.prod (.int .i64) .unit)))) v.1.2.2.1, .val [] (.int .i64) v.1.2.2.2.1, .val [] (.int .i64) v.1.2.2.2.2.1] [])) v.1.1 v.1.2.1 v.1.2.2.1 v.1.2.2.2.1 v.1.2.2.2.2.1 v.1.2.2.2.2.2.1) (inner T an114 (modesOf F) 0 k 36 (S114 k) (ending T Try.f114 an114 0 K) cd114_1000007 (sh sp114_1000007 ws rs) N X) ws rs
noncomputable def L114_0 (ws : List PV) (rs : List RowS) (N : St → Option R) (X : Nat → St → Option R) : Option R :=
  onShape [.val [(0, 0)] (.slice (.slice (.prod (.int .i64) (.prod (.int .i64) .unit)))), .val [] (.int .i64), .val [(0, 0)] (.slice (.slice (.prod (.int .i64) (.prod (.int .i64) .unit)))), .val [] (.int .i64), .val [] (.int .i64)] [] (fun v => f114_0 k (fun y0_1 => N (sh jn114_0 [.val [(0, 0)] (.slice (.slice (.prod (.int .i64) (.prod (.int .i64) .unit)))) v.1.1, .val [] (.int .i64) y0_1] [])) v.1.1 v.1.2.2.1 v.1.2.2.2.1 k v.1.2.1 v.1.2.2.2.2.1) (inner T an114 (modesOf F) 0 k 36 (S114 k) (ending T Try.f114 an114 0 K) cd114_0 (sh sp114_0 ws rs) N X) ws rs
noncomputable def L114_2 (ws : List PV) (rs : List RowS) (N : St → Option R) (X : Nat → St → Option R) : Option R :=
  onShape [.rw 1, .val [(0, 0)] (.slice (.slice (.prod (.int .i64) (.prod (.int .i64) .unit)))), .val [] (.int .i64), .val [] (.int .i64)] [.arr [] (.prod (.int .i64) (.prod (.int .i64) .unit))] (fun v => f114_2 k (fun y2_0 => N (sh jn114_2 [.rw 1] [⟨0, .arr [] (.prod (.int .i64) (.prod (.int .i64) .unit)) y2_0⟩])) v.1.2.1 v.1.2.2.1 k v.1.2.2.2.1 v.2.1) (inner T an114 (modesOf F) 0 k 36 (S114 k) (ending T Try.f114 an114 0 K) cd114_2 (sh sp114_2 ws rs) N X) ws rs
noncomputable def L114 (id : Nat) (ws : List PV) (rs : List RowS) (N : St → Option R) (X : Nat → St → Option R) : Option R := bif id == 1000007 then L114_1000007 k K ws rs N X else bif id == 0 then L114_0 k K ws rs N X else bif id == 2 then L114_2 k K ws rs N X else none
theorem l114_1000007 (ws : List PV) (rs : List RowS) (N : St → Option R) (X : Nat → St → Option R) : L114 k K 1000007 ws rs N X = inner T an114 (modesOf F) 0 k 36 (S114 k) (ending T Try.f114 an114 0 K) cd114_1000007 (sh sp114_1000007 ws rs) N X := by
  show L114_1000007 k K ws rs N X = _
  unfold L114_1000007
  rw [f114_1000007_def]
  exact onShape_eq (a := [.val [(0, 0)] (.slice (.slice (.prod (.int .i64) (.prod (.int .i64) .unit)))), .val [] (.int .i64), .val [(0, 0)] (.slice (.slice (.prod (.int .i64) (.prod (.int .i64) .unit)))), .val [] (.int .i64), .val [] (.int .i64), .val [] .bool]) (b := []) (G := fun ws rs => inner T an114 (modesOf F) 0 k 36 (S114 k) (ending T Try.f114 an114 0 K) cd114_1000007 (sh sp114_1000007 ws rs) N X) (fun x y => Eq.trans (by kernel_rfl) (innerS_eq T an114 (modesOf F) 0 k 36 (S114 k) (L114 k K) cd114_1000007 (l := []) (by kernel_rfl) trivial _ N X)) ws rs
theorem b114_0 (rec : St → Option R) (N : St → Option R) (X : Nat → St → Option R) (v0_0 : List (List ((Int × (Int × Unit))))) (v0_2 : List (List ((Int × (Int × Unit))))) (v0_3 : Int) (v0_1 : Int) (v0_4 : Int) :
    execS T an114 (modesOf F) 0 k 36 (S114 k) (L114 k K) (ending T Try.f114 an114 0 K) bd114_0 (sh sp114_0 [.val [(0, 0)] (.slice (.slice (.prod (.int .i64) (.prod (.int .i64) .unit)))) v0_0, .val [] (.int .i64) v0_1, .val [(0, 0)] (.slice (.slice (.prod (.int .i64) (.prod (.int .i64) .unit)))) v0_2, .val [] (.int .i64) v0_3, .val [] (.int .i64) v0_4] []) (fun st => atHead an114 0 bd114_0 st rec) (outX an114 0 0 N X) =
      f114_0b k (fun v0_1 v0_4 => rec (sh sp114_0 [.val [(0, 0)] (.slice (.slice (.prod (.int .i64) (.prod (.int .i64) .unit)))) v0_0, .val [] (.int .i64) v0_1, .val [(0, 0)] (.slice (.slice (.prod (.int .i64) (.prod (.int .i64) .unit)))) v0_2, .val [] (.int .i64) v0_3, .val [] (.int .i64) v0_4] [])) (fun y0_1 => N (sh jn114_0 [.val [(0, 0)] (.slice (.slice (.prod (.int .i64) (.prod (.int .i64) .unit)))) v0_0, .val [] (.int .i64) y0_1] [])) v0_0 v0_2 v0_3 v0_1 v0_4 := by kernel_rfl
theorem i114_0 (N : St → Option R) (X : Nat → St → Option R) (v0_0 : List (List ((Int × (Int × Unit))))) (v0_2 : List (List ((Int × (Int × Unit))))) (v0_3 : Int) (m : Nat) : ∀ (v0_1 : Int) (v0_4 : Int),
    iter (atHead an114 0 bd114_0) m (fun st N' => exec T an114 (modesOf F) 0 k 36 (S114 k) (ending T Try.f114 an114 0 K) bd114_0 st N' (outX an114 0 0 N X)) (sh sp114_0 [.val [(0, 0)] (.slice (.slice (.prod (.int .i64) (.prod (.int .i64) .unit)))) v0_0, .val [] (.int .i64) v0_1, .val [(0, 0)] (.slice (.slice (.prod (.int .i64) (.prod (.int .i64) .unit)))) v0_2, .val [] (.int .i64) v0_3, .val [] (.int .i64) v0_4] []) = f114_0d k (fun y0_1 => N (sh jn114_0 [.val [(0, 0)] (.slice (.slice (.prod (.int .i64) (.prod (.int .i64) .unit)))) v0_0, .val [] (.int .i64) y0_1] [])) v0_0 v0_2 v0_3 m v0_1 v0_4 := by
  induction m with
  | zero => intros; rfl
  | succ m ih =>
    intro v0_1 v0_4
    simp only [iter]
    rw [← execS_eq T an114 (modesOf F) 0 k 36 (S114 k) (L114 k K) bd114_0 (cuts_of _ _ _ _ _ _ _ _ bd114_0 (l := [(1000007, sp114_1000007, cd114_1000007)]) (by kernel_rfl) ⟨l114_1000007 k K, trivial⟩)]
    refine (b114_0 k K _ N X v0_0 v0_2 v0_3 v0_1 v0_4).trans ?_
    simp only [f114_0d, ih]
theorem l114_0 (ws : List PV) (rs : List RowS) (N : St → Option R) (X : Nat → St → Option R) : L114 k K 0 ws rs N X = inner T an114 (modesOf F) 0 k 36 (S114 k) (ending T Try.f114 an114 0 K) cd114_0 (sh sp114_0 ws rs) N X := by
  show L114_0 k K ws rs N X = _
  unfold L114_0
  rw [f114_0_def]
  exact onShape_eq (a := [.val [(0, 0)] (.slice (.slice (.prod (.int .i64) (.prod (.int .i64) .unit)))), .val [] (.int .i64), .val [(0, 0)] (.slice (.slice (.prod (.int .i64) (.prod (.int .i64) .unit)))), .val [] (.int .i64), .val [] (.int .i64)]) (b := []) (G := fun ws rs => inner T an114 (modesOf F) 0 k 36 (S114 k) (ending T Try.f114 an114 0 K) cd114_0 (sh sp114_0 ws rs) N X) (fun x y => Eq.trans (by kernel_rfl) (Eq.trans (i114_0 k K N X x.1 x.2.2.1 x.2.2.2.1 k x.2.1 x.2.2.2.2.1).symm (by kernel_rfl))) ws rs
theorem b114_2 (rec : St → Option R) (N : St → Option R) (X : Nat → St → Option R) (v2_0 : List (List ((Int × (Int × Unit))))) (v2_1 : Int) (v2_2 : Int) (v2_3 : List (Int × (Int × Unit))) :
    execS T an114 (modesOf F) 0 k 36 (S114 k) (L114 k K) (ending T Try.f114 an114 0 K) bd114_2 (sh sp114_2 [.rw 1, .val [(0, 0)] (.slice (.slice (.prod (.int .i64) (.prod (.int .i64) .unit)))) v2_0, .val [] (.int .i64) v2_1, .val [] (.int .i64) v2_2] [⟨0, .arr [] (.prod (.int .i64) (.prod (.int .i64) .unit)) v2_3⟩]) (fun st => atHead an114 0 bd114_2 st rec) (outX an114 0 2 N X) =
      f114_2b k (fun v2_2 v2_3 => rec (sh sp114_2 [.rw 1, .val [(0, 0)] (.slice (.slice (.prod (.int .i64) (.prod (.int .i64) .unit)))) v2_0, .val [] (.int .i64) v2_1, .val [] (.int .i64) v2_2] [⟨0, .arr [] (.prod (.int .i64) (.prod (.int .i64) .unit)) v2_3⟩])) (fun y2_0 => N (sh jn114_2 [.rw 1] [⟨0, .arr [] (.prod (.int .i64) (.prod (.int .i64) .unit)) y2_0⟩])) v2_0 v2_1 v2_2 v2_3 := by kernel_rfl
theorem i114_2 (N : St → Option R) (X : Nat → St → Option R) (v2_0 : List (List ((Int × (Int × Unit))))) (v2_1 : Int) (m : Nat) : ∀ (v2_2 : Int) (v2_3 : List (Int × (Int × Unit))),
    iter (atHead an114 0 bd114_2) m (fun st N' => exec T an114 (modesOf F) 0 k 36 (S114 k) (ending T Try.f114 an114 0 K) bd114_2 st N' (outX an114 0 2 N X)) (sh sp114_2 [.rw 1, .val [(0, 0)] (.slice (.slice (.prod (.int .i64) (.prod (.int .i64) .unit)))) v2_0, .val [] (.int .i64) v2_1, .val [] (.int .i64) v2_2] [⟨0, .arr [] (.prod (.int .i64) (.prod (.int .i64) .unit)) v2_3⟩]) = f114_2d k (fun y2_0 => N (sh jn114_2 [.rw 1] [⟨0, .arr [] (.prod (.int .i64) (.prod (.int .i64) .unit)) y2_0⟩])) v2_0 v2_1 m v2_2 v2_3 := by
  induction m with
  | zero => intros; rfl
  | succ m ih =>
    intro v2_2 v2_3
    simp only [iter]
    rw [← execS_eq T an114 (modesOf F) 0 k 36 (S114 k) (L114 k K) bd114_2 (cuts_of _ _ _ _ _ _ _ _ bd114_2 (l := []) (by kernel_rfl) trivial)]
    refine (b114_2 k K _ N X v2_0 v2_1 v2_2 v2_3).trans ?_
    simp only [f114_2d, ih]
theorem l114_2 (ws : List PV) (rs : List RowS) (N : St → Option R) (X : Nat → St → Option R) : L114 k K 2 ws rs N X = inner T an114 (modesOf F) 0 k 36 (S114 k) (ending T Try.f114 an114 0 K) cd114_2 (sh sp114_2 ws rs) N X := by
  show L114_2 k K ws rs N X = _
  unfold L114_2
  rw [f114_2_def]
  exact onShape_eq (a := [.rw 1, .val [(0, 0)] (.slice (.slice (.prod (.int .i64) (.prod (.int .i64) .unit)))), .val [] (.int .i64), .val [] (.int .i64)]) (b := [.arr [] (.prod (.int .i64) (.prod (.int .i64) .unit))]) (G := fun ws rs => inner T an114 (modesOf F) 0 k 36 (S114 k) (ending T Try.f114 an114 0 K) cd114_2 (sh sp114_2 ws rs) N X) (fun x y => Eq.trans (by kernel_rfl) (Eq.trans (i114_2 k K N X x.2.1 x.2.2.1 k x.2.2.2.1 y.1).symm (by kernel_rfl))) ws rs
end
theorem e114 (k : Nat) (a0 : List (List ((Int × (Int × Unit))))) (K : List PV → List RowS → Option R) : callC T F k 114 [.val [(0, 0)] (.slice (.slice (.prod (.int .i64) (.prod (.int .i64) .unit)))) a0] [] K = f114 k a0 (fun z0 => K [.rw 1] [⟨0, .arr [] (.prod (.int .i64) (.prod (.int .i64) .unit)) z0⟩]) := by
  rw [f114_def]
  cases k with
  | zero => rfl
  | succ k =>
    refine Eq.trans (show _ = exec T an114 (modesOf F) 0 k 36 (callC T F k) (ending T Try.f114 an114 0 K) (bodyOf Try.f114) ⟨argEnv 0 [.val [(0, 0)] (.slice (.slice (.prod (.int .i64) (.prod (.int .i64) .unit)))) a0] (fun _ => none), rowsOf []⟩ (ending T Try.f114 an114 0 K) (fun _ _ => none) from by kernel_rfl) ?_
    rw [← S114_eq k, ← execS_eq T an114 (modesOf F) 0 k 36 (S114 k) (L114 k K) (bodyOf Try.f114) (cuts_of _ _ _ _ _ _ _ _ (bodyOf Try.f114) (l := [(0, sp114_0, cd114_0), (2, sp114_2, cd114_2)]) (by kernel_rfl) ⟨l114_0 k K, l114_2 k K, trivial⟩)]
    kernel_rfl
noncomputable def s114 (k : Nat) (a : List PV) (r : List RowS) (K : List PV → List RowS → Option R) : Option R :=
  onShape [.val [(0, 0)] (.slice (.slice (.prod (.int .i64) (.prod (.int .i64) .unit))))] [] (fun v => f114 k v.1.1 (fun z0 => K [.rw 1] [⟨0, .arr [] (.prod (.int .i64) (.prod (.int .i64) .unit)) z0⟩])) (callC T F k 114 a r K) a r
theorem s114_eq (k : Nat) (a : List PV) (r : List RowS) (K : List PV → List RowS → Option R) : s114 k a r K = callC T F k 114 a r K := by
  unfold s114
  exact onShape_eq (a := [.val [(0, 0)] (.slice (.slice (.prod (.int .i64) (.prod (.int .i64) .unit))))]) (b := []) (G := fun a r => callC T F k 114 a r K) (fun x y => Eq.trans (by kernel_rfl) (Eq.trans (e114 k x.1 K).symm (by kernel_rfl))) a r
end
section
variable {R : Type}
theorem e115 (k : Nat) (a0 : List (Int × (Int × Unit))) (K : List PV → List RowS → Option R) : callC T F k 115 [.rw 1, .fn 116 []] [⟨0, .arr [] (.prod (.int .i64) (.prod (.int .i64) .unit)) a0⟩] K = f115 k a0 (fun z0 => K [] [⟨0, .arr [] (.prod (.int .i64) (.prod (.int .i64) .unit)) z0⟩]) := by
  rw [f115_def]
  cases k with
  | zero => rfl
  | succ k => exact sort_call (m := [.any, .any]) (c := 116) (by kernel_rfl) a0 K
noncomputable def s115 (k : Nat) (a : List PV) (r : List RowS) (K : List PV → List RowS → Option R) : Option R :=
  onShape [.rw 1, .fn 116 []] [.arr [] (.prod (.int .i64) (.prod (.int .i64) .unit))] (fun v => f115 k v.2.1 (fun z0 => K [] [⟨0, .arr [] (.prod (.int .i64) (.prod (.int .i64) .unit)) z0⟩])) (callC T F k 115 a r K) a r
theorem s115_eq (k : Nat) (a : List PV) (r : List RowS) (K : List PV → List RowS → Option R) : s115 k a r K = callC T F k 115 a r K := by
  unfold s115
  exact onShape_eq (a := [.rw 1, .fn 116 []]) (b := [.arr [] (.prod (.int .i64) (.prod (.int .i64) .unit))]) (G := fun a r => callC T F k 115 a r K) (fun x y => Eq.trans (by kernel_rfl) (Eq.trans (e115 k y.1 K).symm (by kernel_rfl))) a r
end
section
variable {R : Type}
noncomputable def S86 (k g : Nat) (a : List PV) (r : List RowS) (K : List PV → List RowS → Option R) : Option R := bif g == 114 then s114 k a r K else bif g == 115 then s115 k a r K else callC T F k g a r K
theorem S86_eq (k : Nat) : S86 (R := R) k = callC T F k := by
  funext g a r K
  exact pick_eq (fun e => by subst e; exact s114_eq k a r K) (pick_eq (fun e => by subst e; exact s115_eq k a r K) (rfl))
section
variable {R : Type} (k : Nat) (K : List PV → List RowS → Option R)
noncomputable def L86_1000009 (ws : List PV) (rs : List RowS) (N : St → Option R) (X : Nat → St → Option R) : Option R :=
  onShape [.rw 1, .ptr 2 0, .val [] (.int .i64), .rw 3, .val [] (.int .i64), .val [] (.int .i64), .val [] .bool] [.arr [] (.prod (.int .i64) (.prod (.int .i64) .unit)), .vars [.val [] (.int .i64), .val [] (.int .i64)], .arr [] (.prod (.int .i64) (.prod (.int .i64) .unit))] (fun v => f86_1000009 k (fun yN_2 => N (sh fi86_9 [.rw 1, .rw 2, .val [] (.int .i64) v.1.2.2.2.2.1, .val [] (.int .i64) v.1.2.2.2.2.2.1] [⟨0, .arr [] (.prod (.int .i64) (.prod (.int .i64) .unit)) yN_2⟩, ⟨0, .arr [] (.prod (.int .i64) (.prod (.int .i64) .unit)) v.2.2.2.1⟩])) v.1.2.2.1 v.1.2.2.2.2.1 v.1.2.2.2.2.2.1 v.1.2.2.2.2.2.2.1 v.2.1 v.2.2.1.1 v.2.2.1.2.1 v.2.2.2.1) (inner T an86 (modesOf F) 0 k 57 (S86 k) (ending T Try.f86 an86 0 K) cd86_1000009 (sh sp86_1000009 ws rs) N X) ws rs
noncomputable def L86_0 (ws : List PV) (rs : List RowS) (N : St → Option R) (X : Nat → St → Option R) : Option R :=
  onShape [.rw 1, .rw 2, .val [] (.int .i64), .val [] (.int .i64)] [.arr [] (.prod (.int .i64) (.prod (.int .i64) .unit)), .arr [] (.prod (.int .i64) (.prod (.int .i64) .unit))] (fun v => f86_0 k (fun y0_0 => N (sh jn86_0 [.rw 1] [⟨0, .arr [] (.prod (.int .i64) (.prod (.int .i64) .unit)) y0_0⟩])) v.1.2.2.1 v.2.2.1 k v.1.2.2.2.1 v.2.1) (inner T an86 (modesOf F) 0 k 57 (S86 k) (ending T Try.f86 an86 0 K) cd86_0 (sh sp86_0 ws rs) N X) ws rs
noncomputable def L86 (id : Nat) (ws : List PV) (rs : List RowS) (N : St → Option R) (X : Nat → St → Option R) : Option R := bif id == 1000009 then L86_1000009 k K ws rs N X else bif id == 0 then L86_0 k K ws rs N X else none
theorem l86_1000009 (ws : List PV) (rs : List RowS) (N : St → Option R) (X : Nat → St → Option R) : L86 k K 1000009 ws rs N X = inner T an86 (modesOf F) 0 k 57 (S86 k) (ending T Try.f86 an86 0 K) cd86_1000009 (sh sp86_1000009 ws rs) N X := by
  show L86_1000009 k K ws rs N X = _
  unfold L86_1000009
  rw [f86_1000009_def]
  exact onShape_eq (a := [.rw 1, .ptr 2 0, .val [] (.int .i64), .rw 3, .val [] (.int .i64), .val [] (.int .i64), .val [] .bool]) (b := [.arr [] (.prod (.int .i64) (.prod (.int .i64) .unit)), .vars [.val [] (.int .i64), .val [] (.int .i64)], .arr [] (.prod (.int .i64) (.prod (.int .i64) .unit))]) (G := fun ws rs => inner T an86 (modesOf F) 0 k 57 (S86 k) (ending T Try.f86 an86 0 K) cd86_1000009 (sh sp86_1000009 ws rs) N X) (fun x y => Eq.trans (by kernel_rfl) (innerS_eq T an86 (modesOf F) 0 k 57 (S86 k) (L86 k K) cd86_1000009 (l := []) (by kernel_rfl) trivial _ N X)) ws rs
theorem b86_0 (rec : St → Option R) (N : St → Option R) (X : Nat → St → Option R) (v0_0 : Int) (v0_3 : List (Int × (Int × Unit))) (v0_1 : Int) (v0_2 : List (Int × (Int × Unit))) :
    execS T an86 (modesOf F) 0 k 57 (S86 k) (L86 k K) (ending T Try.f86 an86 0 K) bd86_0 (sh sp86_0 [.rw 1, .rw 2, .val [] (.int .i64) v0_0, .val [] (.int .i64) v0_1] [⟨0, .arr [] (.prod (.int .i64) (.prod (.int .i64) .unit)) v0_2⟩, ⟨0, .arr [] (.prod (.int .i64) (.prod (.int .i64) .unit)) v0_3⟩]) (fun st => atHead an86 0 bd86_0 st rec) (outX an86 0 0 N X) =
      f86_0b k (fun v0_1 v0_2 => rec (sh sp86_0 [.rw 1, .rw 2, .val [] (.int .i64) v0_0, .val [] (.int .i64) v0_1] [⟨0, .arr [] (.prod (.int .i64) (.prod (.int .i64) .unit)) v0_2⟩, ⟨0, .arr [] (.prod (.int .i64) (.prod (.int .i64) .unit)) v0_3⟩])) (fun y0_0 => N (sh jn86_0 [.rw 1] [⟨0, .arr [] (.prod (.int .i64) (.prod (.int .i64) .unit)) y0_0⟩])) v0_0 v0_3 v0_1 v0_2 := by kernel_rfl
theorem i86_0 (N : St → Option R) (X : Nat → St → Option R) (v0_0 : Int) (v0_3 : List (Int × (Int × Unit))) (m : Nat) : ∀ (v0_1 : Int) (v0_2 : List (Int × (Int × Unit))),
    iter (atHead an86 0 bd86_0) m (fun st N' => exec T an86 (modesOf F) 0 k 57 (S86 k) (ending T Try.f86 an86 0 K) bd86_0 st N' (outX an86 0 0 N X)) (sh sp86_0 [.rw 1, .rw 2, .val [] (.int .i64) v0_0, .val [] (.int .i64) v0_1] [⟨0, .arr [] (.prod (.int .i64) (.prod (.int .i64) .unit)) v0_2⟩, ⟨0, .arr [] (.prod (.int .i64) (.prod (.int .i64) .unit)) v0_3⟩]) = f86_0d k (fun y0_0 => N (sh jn86_0 [.rw 1] [⟨0, .arr [] (.prod (.int .i64) (.prod (.int .i64) .unit)) y0_0⟩])) v0_0 v0_3 m v0_1 v0_2 := by
  induction m with
  | zero => intros; rfl
  | succ m ih =>
    intro v0_1 v0_2
    simp only [iter]
    rw [← execS_eq T an86 (modesOf F) 0 k 57 (S86 k) (L86 k K) bd86_0 (cuts_of _ _ _ _ _ _ _ _ bd86_0 (l := [(1000009, sp86_1000009, cd86_1000009)]) (by kernel_rfl) ⟨l86_1000009 k K, trivial⟩)]
    refine (b86_0 k K _ N X v0_0 v0_3 v0_1 v0_2).trans ?_
    simp only [f86_0d, ih]
theorem l86_0 (ws : List PV) (rs : List RowS) (N : St → Option R) (X : Nat → St → Option R) : L86 k K 0 ws rs N X = inner T an86 (modesOf F) 0 k 57 (S86 k) (ending T Try.f86 an86 0 K) cd86_0 (sh sp86_0 ws rs) N X := by
  show L86_0 k K ws rs N X = _
  unfold L86_0
  rw [f86_0_def]
  exact onShape_eq (a := [.rw 1, .rw 2, .val [] (.int .i64), .val [] (.int .i64)]) (b := [.arr [] (.prod (.int .i64) (.prod (.int .i64) .unit)), .arr [] (.prod (.int .i64) (.prod (.int .i64) .unit))]) (G := fun ws rs => inner T an86 (modesOf F) 0 k 57 (S86 k) (ending T Try.f86 an86 0 K) cd86_0 (sh sp86_0 ws rs) N X) (fun x y => Eq.trans (by kernel_rfl) (Eq.trans (i86_0 k K N X x.2.2.1 y.2.1 k x.2.2.2.1 y.1).symm (by kernel_rfl))) ws rs
end
theorem e86 (k : Nat) (a0 : List ((Int × (Int × Unit)))) (a1 : List ((Int × (Int × Unit)))) (K : List PV → List RowS → Option R) : callC T F k 86 [.val [(0, 0)] (.slice (.prod (.int .i64) (.prod (.int .i64) .unit))) a0, .val [(0, 0)] (.slice (.prod (.int .i64) (.prod (.int .i64) .unit))) a1] [] K = f86 k a0 a1 (fun z0 => K [.rw 1] [⟨0, .arr [] (.prod (.int .i64) (.prod (.int .i64) .unit)) z0⟩]) := by
  rw [f86_def]
  cases k with
  | zero => rfl
  | succ k =>
    refine Eq.trans (show _ = exec T an86 (modesOf F) 0 k 57 (callC T F k) (ending T Try.f86 an86 0 K) (bodyOf Try.f86) ⟨argEnv 0 [.val [(0, 0)] (.slice (.prod (.int .i64) (.prod (.int .i64) .unit))) a0, .val [(0, 0)] (.slice (.prod (.int .i64) (.prod (.int .i64) .unit))) a1] (fun _ => none), rowsOf []⟩ (ending T Try.f86 an86 0 K) (fun _ _ => none) from by kernel_rfl) ?_
    rw [← S86_eq k, ← execS_eq T an86 (modesOf F) 0 k 57 (S86 k) (L86 k K) (bodyOf Try.f86) (cuts_of _ _ _ _ _ _ _ _ (bodyOf Try.f86) (l := [(0, sp86_0, cd86_0)]) (by kernel_rfl) ⟨l86_0 k K, trivial⟩)]
    kernel_rfl
noncomputable def s86 (k : Nat) (a : List PV) (r : List RowS) (K : List PV → List RowS → Option R) : Option R :=
  onShape [.val [(0, 0)] (.slice (.prod (.int .i64) (.prod (.int .i64) .unit))), .val [(0, 0)] (.slice (.prod (.int .i64) (.prod (.int .i64) .unit)))] [] (fun v => f86 k v.1.1 v.1.2.1 (fun z0 => K [.rw 1] [⟨0, .arr [] (.prod (.int .i64) (.prod (.int .i64) .unit)) z0⟩])) (callC T F k 86 a r K) a r
theorem s86_eq (k : Nat) (a : List PV) (r : List RowS) (K : List PV → List RowS → Option R) : s86 k a r K = callC T F k 86 a r K := by
  unfold s86
  exact onShape_eq (a := [.val [(0, 0)] (.slice (.prod (.int .i64) (.prod (.int .i64) .unit))), .val [(0, 0)] (.slice (.prod (.int .i64) (.prod (.int .i64) .unit)))]) (b := []) (G := fun a r => callC T F k 86 a r K) (fun x y => Eq.trans (by kernel_rfl) (Eq.trans (e86 k x.1 x.2.1 K).symm (by kernel_rfl))) a r
end
section
variable {R : Type}
noncomputable def S39 (k g : Nat) (a : List PV) (r : List RowS) (K : List PV → List RowS → Option R) : Option R := bif g == 45 then s45 k a r K else bif g == 86 then s86 k a r K else callC T F k g a r K
theorem S39_eq (k : Nat) : S39 (R := R) k = callC T F k := by
  funext g a r K
  exact pick_eq (fun e => by subst e; exact s45_eq k a r K) (pick_eq (fun e => by subst e; exact s86_eq k a r K) (rfl))
theorem e39 (k : Nat) (a0 : List ((Int × (Int × Unit)))) (a1 : List ((Int × (Int × Unit)))) (a2 : Int) (K : List PV → List RowS → Option R) : callC T F k 39 [.val [(0, 0)] (.slice (.prod (.int .i64) (.prod (.int .i64) .unit))) a0, .val [(0, 0)] (.slice (.prod (.int .i64) (.prod (.int .i64) .unit))) a1, .val [] (.int .i64) a2] [] K = f39 k a0 a1 a2 (fun z0 z1 => K [.rw 1, .val [] (.int .i64) z0] [⟨0, .arr [] (.prod (.int .i64) (.prod (.int .i64) .unit)) z1⟩]) := by
  rw [f39_def]
  cases k with
  | zero => rfl
  | succ k =>
    refine Eq.trans (show _ = exec T an39 (modesOf F) 0 k 30 (callC T F k) (ending T Try.f39 an39 0 K) (bodyOf Try.f39) ⟨argEnv 0 [.val [(0, 0)] (.slice (.prod (.int .i64) (.prod (.int .i64) .unit))) a0, .val [(0, 0)] (.slice (.prod (.int .i64) (.prod (.int .i64) .unit))) a1, .val [] (.int .i64) a2] (fun _ => none), rowsOf []⟩ (ending T Try.f39 an39 0 K) (fun _ _ => none) from by kernel_rfl) ?_
    rw [← S39_eq k, ← execS_eq T an39 (modesOf F) 0 k 30 (S39 k) (fun _ _ _ _ _ => none) (bodyOf Try.f39) (cuts_of _ _ _ _ _ _ _ _ (bodyOf Try.f39) (l := []) (by kernel_rfl) trivial)]
    kernel_rfl
noncomputable def s39 (k : Nat) (a : List PV) (r : List RowS) (K : List PV → List RowS → Option R) : Option R :=
  onShape [.val [(0, 0)] (.slice (.prod (.int .i64) (.prod (.int .i64) .unit))), .val [(0, 0)] (.slice (.prod (.int .i64) (.prod (.int .i64) .unit))), .val [] (.int .i64)] [] (fun v => f39 k v.1.1 v.1.2.1 v.1.2.2.1 (fun z0 z1 => K [.rw 1, .val [] (.int .i64) z0] [⟨0, .arr [] (.prod (.int .i64) (.prod (.int .i64) .unit)) z1⟩])) (callC T F k 39 a r K) a r
theorem s39_eq (k : Nat) (a : List PV) (r : List RowS) (K : List PV → List RowS → Option R) : s39 k a r K = callC T F k 39 a r K := by
  unfold s39
  exact onShape_eq (a := [.val [(0, 0)] (.slice (.prod (.int .i64) (.prod (.int .i64) .unit))), .val [(0, 0)] (.slice (.prod (.int .i64) (.prod (.int .i64) .unit))), .val [] (.int .i64)]) (b := []) (G := fun a r => callC T F k 39 a r K) (fun x y => Eq.trans (by kernel_rfl) (Eq.trans (e39 k x.1 x.2.1 x.2.2.1 K).symm (by kernel_rfl))) a r
end
section
variable {R : Type}
noncomputable def S64 (k g : Nat) (a : List PV) (r : List RowS) (K : List PV → List RowS → Option R) : Option R := callC T F k g a r K
theorem S64_eq (k : Nat) : S64 (R := R) k = callC T F k := by
  funext g a r K
  exact rfl
section
variable {R : Type} (k : Nat) (K : List PV → List RowS → Option R)
noncomputable def L64_0 (ws : List PV) (rs : List RowS) (N : St → Option R) (X : Nat → St → Option R) : Option R :=
  onShape [.val [] (.int .i64), .val [(0, 0)] (.slice (.int .u8)), .val [] (.int .i64), .val [] (.int .i64)] [] (fun v => f64_0 k (fun y0_0 => N (sh jn64_0 [.val [] (.int .i64) y0_0] [])) v.1.2.1 v.1.2.2.1 k v.1.1 v.1.2.2.2.1) (inner T an64 (modesOf F) 0 k 25 (S64 k) (ending T Try.f64 an64 0 K) cd64_0 (sh sp64_0 ws rs) N X) ws rs
noncomputable def L64 (id : Nat) (ws : List PV) (rs : List RowS) (N : St → Option R) (X : Nat → St → Option R) : Option R := bif id == 0 then L64_0 k K ws rs N X else none
theorem b64_0 (rec : St → Option R) (N : St → Option R) (X : Nat → St → Option R) (v0_1 : List Int) (v0_2 : Int) (v0_0 : Int) (v0_3 : Int) :
    execS T an64 (modesOf F) 0 k 25 (S64 k) (L64 k K) (ending T Try.f64 an64 0 K) bd64_0 (sh sp64_0 [.val [] (.int .i64) v0_0, .val [(0, 0)] (.slice (.int .u8)) v0_1, .val [] (.int .i64) v0_2, .val [] (.int .i64) v0_3] []) (fun st => atHead an64 0 bd64_0 st rec) (outX an64 0 0 N X) =
      f64_0b k (fun v0_0 v0_3 => rec (sh sp64_0 [.val [] (.int .i64) v0_0, .val [(0, 0)] (.slice (.int .u8)) v0_1, .val [] (.int .i64) v0_2, .val [] (.int .i64) v0_3] [])) (fun y0_0 => N (sh jn64_0 [.val [] (.int .i64) y0_0] [])) v0_1 v0_2 v0_0 v0_3 := by kernel_rfl
theorem i64_0 (N : St → Option R) (X : Nat → St → Option R) (v0_1 : List Int) (v0_2 : Int) (m : Nat) : ∀ (v0_0 : Int) (v0_3 : Int),
    iter (atHead an64 0 bd64_0) m (fun st N' => exec T an64 (modesOf F) 0 k 25 (S64 k) (ending T Try.f64 an64 0 K) bd64_0 st N' (outX an64 0 0 N X)) (sh sp64_0 [.val [] (.int .i64) v0_0, .val [(0, 0)] (.slice (.int .u8)) v0_1, .val [] (.int .i64) v0_2, .val [] (.int .i64) v0_3] []) = f64_0d k (fun y0_0 => N (sh jn64_0 [.val [] (.int .i64) y0_0] [])) v0_1 v0_2 m v0_0 v0_3 := by
  induction m with
  | zero => intros; rfl
  | succ m ih =>
    intro v0_0 v0_3
    simp only [iter]
    rw [← execS_eq T an64 (modesOf F) 0 k 25 (S64 k) (L64 k K) bd64_0 (cuts_of _ _ _ _ _ _ _ _ bd64_0 (l := []) (by kernel_rfl) trivial)]
    refine (b64_0 k K _ N X v0_1 v0_2 v0_0 v0_3).trans ?_
    simp only [f64_0d, ih]
theorem l64_0 (ws : List PV) (rs : List RowS) (N : St → Option R) (X : Nat → St → Option R) : L64 k K 0 ws rs N X = inner T an64 (modesOf F) 0 k 25 (S64 k) (ending T Try.f64 an64 0 K) cd64_0 (sh sp64_0 ws rs) N X := by
  show L64_0 k K ws rs N X = _
  unfold L64_0
  rw [f64_0_def]
  exact onShape_eq (a := [.val [] (.int .i64), .val [(0, 0)] (.slice (.int .u8)), .val [] (.int .i64), .val [] (.int .i64)]) (b := []) (G := fun ws rs => inner T an64 (modesOf F) 0 k 25 (S64 k) (ending T Try.f64 an64 0 K) cd64_0 (sh sp64_0 ws rs) N X) (fun x y => Eq.trans (by kernel_rfl) (Eq.trans (i64_0 k K N X x.2.1 x.2.2.1 k x.1 x.2.2.2.1).symm (by kernel_rfl))) ws rs
end
theorem e64 (k : Nat) (a0 : List Int) (K : List PV → List RowS → Option R) : callC T F k 64 [.val [(0, 0)] (.slice (.int .u8)) a0] [] K = f64 k a0 (fun z0 => K [.val [] (.int .i64) z0] []) := by
  rw [f64_def]
  cases k with
  | zero => rfl
  | succ k =>
    refine Eq.trans (show _ = exec T an64 (modesOf F) 0 k 25 (callC T F k) (ending T Try.f64 an64 0 K) (bodyOf Try.f64) ⟨argEnv 0 [.val [(0, 0)] (.slice (.int .u8)) a0] (fun _ => none), rowsOf []⟩ (ending T Try.f64 an64 0 K) (fun _ _ => none) from by kernel_rfl) ?_
    rw [← S64_eq k, ← execS_eq T an64 (modesOf F) 0 k 25 (S64 k) (L64 k K) (bodyOf Try.f64) (cuts_of _ _ _ _ _ _ _ _ (bodyOf Try.f64) (l := [(0, sp64_0, cd64_0)]) (by kernel_rfl) ⟨l64_0 k K, trivial⟩)]
    kernel_rfl
noncomputable def s64 (k : Nat) (a : List PV) (r : List RowS) (K : List PV → List RowS → Option R) : Option R :=
  onShape [.val [(0, 0)] (.slice (.int .u8))] [] (fun v => f64 k v.1.1 (fun z0 => K [.val [] (.int .i64) z0] [])) (callC T F k 64 a r K) a r
theorem s64_eq (k : Nat) (a : List PV) (r : List RowS) (K : List PV → List RowS → Option R) : s64 k a r K = callC T F k 64 a r K := by
  unfold s64
  exact onShape_eq (a := [.val [(0, 0)] (.slice (.int .u8))]) (b := []) (G := fun a r => callC T F k 64 a r K) (fun x y => Eq.trans (by kernel_rfl) (Eq.trans (e64 k x.1 K).symm (by kernel_rfl))) a r
end
section
variable {R : Type}
noncomputable def S18 (k g : Nat) (a : List PV) (r : List RowS) (K : List PV → List RowS → Option R) : Option R := bif g == 64 then s64 k a r K else callC T F k g a r K
theorem S18_eq (k : Nat) : S18 (R := R) k = callC T F k := by
  funext g a r K
  exact pick_eq (fun e => by subst e; exact s64_eq k a r K) (rfl)
theorem e18 (k : Nat) (a0 : List Int) (K : List PV → List RowS → Option R) : callC T F k 18 [.val [(0, 0)] (.slice (.int .u8)) a0] [] K = f18 k a0 (fun z0 z1 => K [.val [] (.int .i64) z0, .val [] (.int .i64) z1] []) := by
  rw [f18_def]
  cases k with
  | zero => rfl
  | succ k =>
    refine Eq.trans (show _ = exec T an18 (modesOf F) 0 k 9 (callC T F k) (ending T Try.f18 an18 0 K) (bodyOf Try.f18) ⟨argEnv 0 [.val [(0, 0)] (.slice (.int .u8)) a0] (fun _ => none), rowsOf []⟩ (ending T Try.f18 an18 0 K) (fun _ _ => none) from by kernel_rfl) ?_
    rw [← S18_eq k, ← execS_eq T an18 (modesOf F) 0 k 9 (S18 k) (fun _ _ _ _ _ => none) (bodyOf Try.f18) (cuts_of _ _ _ _ _ _ _ _ (bodyOf Try.f18) (l := []) (by kernel_rfl) trivial)]
    kernel_rfl
noncomputable def s18 (k : Nat) (a : List PV) (r : List RowS) (K : List PV → List RowS → Option R) : Option R :=
  onShape [.val [(0, 0)] (.slice (.int .u8))] [] (fun v => f18 k v.1.1 (fun z0 z1 => K [.val [] (.int .i64) z0, .val [] (.int .i64) z1] [])) (callC T F k 18 a r K) a r
theorem s18_eq (k : Nat) (a : List PV) (r : List RowS) (K : List PV → List RowS → Option R) : s18 k a r K = callC T F k 18 a r K := by
  unfold s18
  exact onShape_eq (a := [.val [(0, 0)] (.slice (.int .u8))]) (b := []) (G := fun a r => callC T F k 18 a r K) (fun x y => Eq.trans (by kernel_rfl) (Eq.trans (e18 k x.1 K).symm (by kernel_rfl))) a r
end
section
variable {R : Type}
noncomputable def S24 (k g : Nat) (a : List PV) (r : List RowS) (K : List PV → List RowS → Option R) : Option R := bif g == 18 then s18 k a r K else callC T F k g a r K
theorem S24_eq (k : Nat) : S24 (R := R) k = callC T F k := by
  funext g a r K
  exact pick_eq (fun e => by subst e; exact s18_eq k a r K) (rfl)
theorem e24 (k : Nat) (K : List PV → List RowS → Option R) : callC T F k 24 [] [] K = f24 k (fun z0 => K [.val [] .bool z0] []) := by
  rw [f24_def]
  cases k with
  | zero => rfl
  | succ k =>
    refine Eq.trans (show _ = exec T an24 (modesOf F) 0 k 14 (callC T F k) (ending T Try.f24 an24 0 K) (bodyOf Try.f24) ⟨argEnv 0 [] (fun _ => none), rowsOf []⟩ (ending T Try.f24 an24 0 K) (fun _ _ => none) from by kernel_rfl) ?_
    rw [← S24_eq k, ← execS_eq T an24 (modesOf F) 0 k 14 (S24 k) (fun _ _ _ _ _ => none) (bodyOf Try.f24) (cuts_of _ _ _ _ _ _ _ _ (bodyOf Try.f24) (l := []) (by kernel_rfl) trivial)]
    kernel_rfl
noncomputable def s24 (k : Nat) (a : List PV) (r : List RowS) (K : List PV → List RowS → Option R) : Option R :=
  onShape [] [] (fun v => f24 k (fun z0 => K [.val [] .bool z0] [])) (callC T F k 24 a r K) a r
theorem s24_eq (k : Nat) (a : List PV) (r : List RowS) (K : List PV → List RowS → Option R) : s24 k a r K = callC T F k 24 a r K := by
  unfold s24
  exact onShape_eq (a := []) (b := []) (G := fun a r => callC T F k 24 a r K) (fun x y => Eq.trans (by kernel_rfl) (Eq.trans (e24 k K).symm (by kernel_rfl))) a r
end
section
variable {R : Type}
noncomputable def S40 (k g : Nat) (a : List PV) (r : List RowS) (K : List PV → List RowS → Option R) : Option R := callC T F k g a r K
theorem S40_eq (k : Nat) : S40 (R := R) k = callC T F k := by
  funext g a r K
  exact rfl
section
variable {R : Type} (k : Nat) (K : List PV → List RowS → Option R)
noncomputable def L40_0 (ws : List PV) (rs : List RowS) (N : St → Option R) (X : Nat → St → Option R) : Option R :=
  onShape [.val [(0, 0)] (.slice (.prod (.int .i64) (.prod (.int .i64) .unit))), .val [(0, 0)] (.slice (.prod (.int .i64) (.prod (.int .i64) .unit))), .val [] (.int .i64), .val [] (.int .i64)] [] (fun v => f40_0 k (fun z0 => K [.val [] .bool z0] []) (N (sh jn40_0 [] [])) v.1.1 v.1.2.1 v.1.2.2.1 k v.1.2.2.2.1) (inner T an40 (modesOf F) 0 k 26 (S40 k) (ending T Try.f40 an40 0 K) cd40_0 (sh sp40_0 ws rs) N X) ws rs
noncomputable def L40 (id : Nat) (ws : List PV) (rs : List RowS) (N : St → Option R) (X : Nat → St → Option R) : Option R := bif id == 0 then L40_0 k K ws rs N X else none
theorem b40_0 (rec : St → Option R) (N : St → Option R) (X : Nat → St → Option R) (v0_0 : List ((Int × (Int × Unit)))) (v0_1 : List ((Int × (Int × Unit)))) (v0_2 : Int) (v0_3 : Int) :
    execS T an40 (modesOf F) 0 k 26 (S40 k) (L40 k K) (ending T Try.f40 an40 0 K) bd40_0 (sh sp40_0 [.val [(0, 0)] (.slice (.prod (.int .i64) (.prod (.int .i64) .unit))) v0_0, .val [(0, 0)] (.slice (.prod (.int .i64) (.prod (.int .i64) .unit))) v0_1, .val [] (.int .i64) v0_2, .val [] (.int .i64) v0_3] []) (fun st => atHead an40 0 bd40_0 st rec) (outX an40 0 0 N X) =
      f40_0b k (fun v0_3 => rec (sh sp40_0 [.val [(0, 0)] (.slice (.prod (.int .i64) (.prod (.int .i64) .unit))) v0_0, .val [(0, 0)] (.slice (.prod (.int .i64) (.prod (.int .i64) .unit))) v0_1, .val [] (.int .i64) v0_2, .val [] (.int .i64) v0_3] [])) (fun z0 => K [.val [] .bool z0] []) (N (sh jn40_0 [] [])) v0_0 v0_1 v0_2 v0_3 := by kernel_rfl
theorem i40_0 (N : St → Option R) (X : Nat → St → Option R) (v0_0 : List ((Int × (Int × Unit)))) (v0_1 : List ((Int × (Int × Unit)))) (v0_2 : Int) (m : Nat) : ∀ (v0_3 : Int),
    iter (atHead an40 0 bd40_0) m (fun st N' => exec T an40 (modesOf F) 0 k 26 (S40 k) (ending T Try.f40 an40 0 K) bd40_0 st N' (outX an40 0 0 N X)) (sh sp40_0 [.val [(0, 0)] (.slice (.prod (.int .i64) (.prod (.int .i64) .unit))) v0_0, .val [(0, 0)] (.slice (.prod (.int .i64) (.prod (.int .i64) .unit))) v0_1, .val [] (.int .i64) v0_2, .val [] (.int .i64) v0_3] []) = f40_0d k (fun z0 => K [.val [] .bool z0] []) (N (sh jn40_0 [] [])) v0_0 v0_1 v0_2 m v0_3 := by
  induction m with
  | zero => intros; rfl
  | succ m ih =>
    intro v0_3
    simp only [iter]
    rw [← execS_eq T an40 (modesOf F) 0 k 26 (S40 k) (L40 k K) bd40_0 (cuts_of _ _ _ _ _ _ _ _ bd40_0 (l := []) (by kernel_rfl) trivial)]
    refine (b40_0 k K _ N X v0_0 v0_1 v0_2 v0_3).trans ?_
    simp only [f40_0d, ih]
theorem l40_0 (ws : List PV) (rs : List RowS) (N : St → Option R) (X : Nat → St → Option R) : L40 k K 0 ws rs N X = inner T an40 (modesOf F) 0 k 26 (S40 k) (ending T Try.f40 an40 0 K) cd40_0 (sh sp40_0 ws rs) N X := by
  show L40_0 k K ws rs N X = _
  unfold L40_0
  rw [f40_0_def]
  exact onShape_eq (a := [.val [(0, 0)] (.slice (.prod (.int .i64) (.prod (.int .i64) .unit))), .val [(0, 0)] (.slice (.prod (.int .i64) (.prod (.int .i64) .unit))), .val [] (.int .i64), .val [] (.int .i64)]) (b := []) (G := fun ws rs => inner T an40 (modesOf F) 0 k 26 (S40 k) (ending T Try.f40 an40 0 K) cd40_0 (sh sp40_0 ws rs) N X) (fun x y => Eq.trans (by kernel_rfl) (Eq.trans (i40_0 k K N X x.1 x.2.1 x.2.2.1 k x.2.2.2.1).symm (by kernel_rfl))) ws rs
end
theorem e40 (k : Nat) (a0 : List ((Int × (Int × Unit)))) (a1 : List ((Int × (Int × Unit)))) (K : List PV → List RowS → Option R) : callC T F k 40 [.val [(0, 0)] (.slice (.prod (.int .i64) (.prod (.int .i64) .unit))) a0, .val [(0, 0)] (.slice (.prod (.int .i64) (.prod (.int .i64) .unit))) a1] [] K = f40 k a0 a1 (fun z0 => K [.val [] .bool z0] []) := by
  rw [f40_def]
  cases k with
  | zero => rfl
  | succ k =>
    refine Eq.trans (show _ = exec T an40 (modesOf F) 0 k 26 (callC T F k) (ending T Try.f40 an40 0 K) (bodyOf Try.f40) ⟨argEnv 0 [.val [(0, 0)] (.slice (.prod (.int .i64) (.prod (.int .i64) .unit))) a0, .val [(0, 0)] (.slice (.prod (.int .i64) (.prod (.int .i64) .unit))) a1] (fun _ => none), rowsOf []⟩ (ending T Try.f40 an40 0 K) (fun _ _ => none) from by kernel_rfl) ?_
    rw [← S40_eq k, ← execS_eq T an40 (modesOf F) 0 k 26 (S40 k) (L40 k K) (bodyOf Try.f40) (cuts_of _ _ _ _ _ _ _ _ (bodyOf Try.f40) (l := [(0, sp40_0, cd40_0)]) (by kernel_rfl) ⟨l40_0 k K, trivial⟩)]
    kernel_rfl
noncomputable def s40 (k : Nat) (a : List PV) (r : List RowS) (K : List PV → List RowS → Option R) : Option R :=
  onShape [.val [(0, 0)] (.slice (.prod (.int .i64) (.prod (.int .i64) .unit))), .val [(0, 0)] (.slice (.prod (.int .i64) (.prod (.int .i64) .unit)))] [] (fun v => f40 k v.1.1 v.1.2.1 (fun z0 => K [.val [] .bool z0] [])) (callC T F k 40 a r K) a r
theorem s40_eq (k : Nat) (a : List PV) (r : List RowS) (K : List PV → List RowS → Option R) : s40 k a r K = callC T F k 40 a r K := by
  unfold s40
  exact onShape_eq (a := [.val [(0, 0)] (.slice (.prod (.int .i64) (.prod (.int .i64) .unit))), .val [(0, 0)] (.slice (.prod (.int .i64) (.prod (.int .i64) .unit)))]) (b := []) (G := fun a r => callC T F k 40 a r K) (fun x y => Eq.trans (by kernel_rfl) (Eq.trans (e40 k x.1 x.2.1 K).symm (by kernel_rfl))) a r
end
section
variable {R : Type}
noncomputable def S41 (k g : Nat) (a : List PV) (r : List RowS) (K : List PV → List RowS → Option R) : Option R := callC T F k g a r K
theorem S41_eq (k : Nat) : S41 (R := R) k = callC T F k := by
  funext g a r K
  exact rfl
section
variable {R : Type} (k : Nat) (K : List PV → List RowS → Option R)
noncomputable def L41_0 (ws : List PV) (rs : List RowS) (N : St → Option R) (X : Nat → St → Option R) : Option R :=
  onShape [.val [(0, 0)] (.slice (.prod (.int .i64) (.prod (.int .i64) .unit))), .val [] (.int .i64), .val [] (.int .i64)] [] (fun v => f41_0 k (fun y0_0 => N (sh jn41_0 [.val [] (.int .i64) y0_0] [])) v.1.1 k v.1.2.1 v.1.2.2.1) (inner T an41 (modesOf F) 0 k 25 (S41 k) (ending T Try.f41 an41 0 K) cd41_0 (sh sp41_0 ws rs) N X) ws rs
noncomputable def L41 (id : Nat) (ws : List PV) (rs : List RowS) (N : St → Option R) (X : Nat → St → Option R) : Option R := bif id == 0 then L41_0 k K ws rs N X else none
theorem b41_0 (rec : St → Option R) (N : St → Option R) (X : Nat → St → Option R) (v0_0 : List ((Int × (Int × Unit)))) (v0_1 : Int) (v0_2 : Int) :
    execS T an41 (modesOf F) 0 k 25 (S41 k) (L41 k K) (ending T Try.f41 an41 0 K) bd41_0 (sh sp41_0 [.val [(0, 0)] (.slice (.prod (.int .i64) (.prod (.int .i64) .unit))) v0_0, .val [] (.int .i64) v0_1, .val [] (.int .i64) v0_2] []) (fun st => atHead an41 0 bd41_0 st rec) (outX an41 0 0 N X) =
      f41_0b k (fun v0_1 v0_2 => rec (sh sp41_0 [.val [(0, 0)] (.slice (.prod (.int .i64) (.prod (.int .i64) .unit))) v0_0, .val [] (.int .i64) v0_1, .val [] (.int .i64) v0_2] [])) (fun y0_0 => N (sh jn41_0 [.val [] (.int .i64) y0_0] [])) v0_0 v0_1 v0_2 := by kernel_rfl
theorem i41_0 (N : St → Option R) (X : Nat → St → Option R) (v0_0 : List ((Int × (Int × Unit)))) (m : Nat) : ∀ (v0_1 : Int) (v0_2 : Int),
    iter (atHead an41 0 bd41_0) m (fun st N' => exec T an41 (modesOf F) 0 k 25 (S41 k) (ending T Try.f41 an41 0 K) bd41_0 st N' (outX an41 0 0 N X)) (sh sp41_0 [.val [(0, 0)] (.slice (.prod (.int .i64) (.prod (.int .i64) .unit))) v0_0, .val [] (.int .i64) v0_1, .val [] (.int .i64) v0_2] []) = f41_0d k (fun y0_0 => N (sh jn41_0 [.val [] (.int .i64) y0_0] [])) v0_0 m v0_1 v0_2 := by
  induction m with
  | zero => intros; rfl
  | succ m ih =>
    intro v0_1 v0_2
    simp only [iter]
    rw [← execS_eq T an41 (modesOf F) 0 k 25 (S41 k) (L41 k K) bd41_0 (cuts_of _ _ _ _ _ _ _ _ bd41_0 (l := []) (by kernel_rfl) trivial)]
    refine (b41_0 k K _ N X v0_0 v0_1 v0_2).trans ?_
    simp only [f41_0d, ih]
theorem l41_0 (ws : List PV) (rs : List RowS) (N : St → Option R) (X : Nat → St → Option R) : L41 k K 0 ws rs N X = inner T an41 (modesOf F) 0 k 25 (S41 k) (ending T Try.f41 an41 0 K) cd41_0 (sh sp41_0 ws rs) N X := by
  show L41_0 k K ws rs N X = _
  unfold L41_0
  rw [f41_0_def]
  exact onShape_eq (a := [.val [(0, 0)] (.slice (.prod (.int .i64) (.prod (.int .i64) .unit))), .val [] (.int .i64), .val [] (.int .i64)]) (b := []) (G := fun ws rs => inner T an41 (modesOf F) 0 k 25 (S41 k) (ending T Try.f41 an41 0 K) cd41_0 (sh sp41_0 ws rs) N X) (fun x y => Eq.trans (by kernel_rfl) (Eq.trans (i41_0 k K N X x.1 k x.2.1 x.2.2.1).symm (by kernel_rfl))) ws rs
end
theorem e41 (k : Nat) (a0 : List ((Int × (Int × Unit)))) (K : List PV → List RowS → Option R) : callC T F k 41 [.val [(0, 0)] (.slice (.prod (.int .i64) (.prod (.int .i64) .unit))) a0] [] K = f41 k a0 (fun z0 => K [.val [] (.int .i64) z0] []) := by
  rw [f41_def]
  cases k with
  | zero => rfl
  | succ k =>
    refine Eq.trans (show _ = exec T an41 (modesOf F) 0 k 25 (callC T F k) (ending T Try.f41 an41 0 K) (bodyOf Try.f41) ⟨argEnv 0 [.val [(0, 0)] (.slice (.prod (.int .i64) (.prod (.int .i64) .unit))) a0] (fun _ => none), rowsOf []⟩ (ending T Try.f41 an41 0 K) (fun _ _ => none) from by kernel_rfl) ?_
    rw [← S41_eq k, ← execS_eq T an41 (modesOf F) 0 k 25 (S41 k) (L41 k K) (bodyOf Try.f41) (cuts_of _ _ _ _ _ _ _ _ (bodyOf Try.f41) (l := [(0, sp41_0, cd41_0)]) (by kernel_rfl) ⟨l41_0 k K, trivial⟩)]
    kernel_rfl
noncomputable def s41 (k : Nat) (a : List PV) (r : List RowS) (K : List PV → List RowS → Option R) : Option R :=
  onShape [.val [(0, 0)] (.slice (.prod (.int .i64) (.prod (.int .i64) .unit)))] [] (fun v => f41 k v.1.1 (fun z0 => K [.val [] (.int .i64) z0] [])) (callC T F k 41 a r K) a r
theorem s41_eq (k : Nat) (a : List PV) (r : List RowS) (K : List PV → List RowS → Option R) : s41 k a r K = callC T F k 41 a r K := by
  unfold s41
  exact onShape_eq (a := [.val [(0, 0)] (.slice (.prod (.int .i64) (.prod (.int .i64) .unit)))]) (b := []) (G := fun a r => callC T F k 41 a r K) (fun x y => Eq.trans (by kernel_rfl) (Eq.trans (e41 k x.1 K).symm (by kernel_rfl))) a r
end
section
variable {R : Type}
noncomputable def S6 (k g : Nat) (a : List PV) (r : List RowS) (K : List PV → List RowS → Option R) : Option R := bif g == 24 then s24 k a r K else bif g == 39 then s39 k a r K else bif g == 40 then s40 k a r K else bif g == 41 then s41 k a r K else callC T F k g a r K
theorem S6_eq (k : Nat) : S6 (R := R) k = callC T F k := by
  funext g a r K
  exact pick_eq (fun e => by subst e; exact s24_eq k a r K) (pick_eq (fun e => by subst e; exact s39_eq k a r K) (pick_eq (fun e => by subst e; exact s40_eq k a r K) (pick_eq (fun e => by subst e; exact s41_eq k a r K) (rfl))))
theorem e6 (k : Nat) (a0 : List ((Int × (Int × Unit)))) (a1 : List ((Int × (Int × Unit)))) (a2 : Int) (K : List PV → List RowS → Option R) : callC T F k 6 [.val [(0, 0)] (.slice (.prod (.int .i64) (.prod (.int .i64) .unit))) a0, .val [(0, 0)] (.slice (.prod (.int .i64) (.prod (.int .i64) .unit))) a1, .val [] (.int .i64) a2] [] K = f6 k a0 a1 a2 (fun z0 => K [.val [] .bool z0] []) := by
  rw [f6_def]
  cases k with
  | zero => rfl
  | succ k =>
    refine Eq.trans (show _ = exec T an6 (modesOf F) 0 k 88 (callC T F k) (ending T Try.f6 an6 0 K) (bodyOf Try.f6) ⟨argEnv 0 [.val [(0, 0)] (.slice (.prod (.int .i64) (.prod (.int .i64) .unit))) a0, .val [(0, 0)] (.slice (.prod (.int .i64) (.prod (.int .i64) .unit))) a1, .val [] (.int .i64) a2] (fun _ => none), rowsOf []⟩ (ending T Try.f6 an6 0 K) (fun _ _ => none) from by kernel_rfl) ?_
    rw [← S6_eq k, ← execS_eq T an6 (modesOf F) 0 k 88 (S6 k) (fun _ _ _ _ _ => none) (bodyOf Try.f6) (cuts_of _ _ _ _ _ _ _ _ (bodyOf Try.f6) (l := []) (by kernel_rfl) trivial)]
    kernel_rfl
noncomputable def s6 (k : Nat) (a : List PV) (r : List RowS) (K : List PV → List RowS → Option R) : Option R :=
  onShape [.val [(0, 0)] (.slice (.prod (.int .i64) (.prod (.int .i64) .unit))), .val [(0, 0)] (.slice (.prod (.int .i64) (.prod (.int .i64) .unit))), .val [] (.int .i64)] [] (fun v => f6 k v.1.1 v.1.2.1 v.1.2.2.1 (fun z0 => K [.val [] .bool z0] [])) (callC T F k 6 a r K) a r
theorem s6_eq (k : Nat) (a : List PV) (r : List RowS) (K : List PV → List RowS → Option R) : s6 k a r K = callC T F k 6 a r K := by
  unfold s6
  exact onShape_eq (a := [.val [(0, 0)] (.slice (.prod (.int .i64) (.prod (.int .i64) .unit))), .val [(0, 0)] (.slice (.prod (.int .i64) (.prod (.int .i64) .unit))), .val [] (.int .i64)]) (b := []) (G := fun a r => callC T F k 6 a r K) (fun x y => Eq.trans (by kernel_rfl) (Eq.trans (e6 k x.1 x.2.1 x.2.2.1 K).symm (by kernel_rfl))) a r
end
section
variable {R : Type}
noncomputable def S87 (k g : Nat) (a : List PV) (r : List RowS) (K : List PV → List RowS → Option R) : Option R := callC T F k g a r K
theorem S87_eq (k : Nat) : S87 (R := R) k = callC T F k := by
  funext g a r K
  exact rfl
section
variable {R : Type} (k : Nat) (K : List PV → List RowS → Option R)
noncomputable def L87_1000007 (ws : List PV) (rs : List RowS) (N : St → Option R) (X : Nat → St → Option R) : Option R :=
  onShape [.val [] (.int .i64), .rw 1, .val [] (.int .i64), .ptr 2 0, .val [(0, 0)] (.slice (.prod (.int .i64) (.prod (.int .i64) .unit))), .val [] (.int .i64), .val [] (.int .i64), .val [] .bool] [.arr [] (.prod (.int .i64) (.prod (.int .i64) .unit)), .vars [.val [] (.int .i64), .val [] (.int .i64)]] (fun v => f87_1000007 k (fun yN_4 => N (sh fi87_7 [.val [] (.int .i64) v.1.1, .rw 1, .ptr 2 0, .val [(0, 0)] (.slice (.prod (.int .i64) (.prod (.int .i64) .unit))) v.1.2.2.2.2.1, .val [] (.int .i64) v.1.2.2.2.2.2.1, .val [] (.int .i64) v.1.2.2.2.2.2.2.1] [⟨0, .arr [] (.prod (.int .i64) (.prod (.int .i64) .unit)) yN_4⟩, ⟨0, .vars [.val [] (.int .i64) v.2.2.1.1, .val [] (.int .i64) v.2.2.1.2.1]⟩])) v.1.1 v.1.2.2.1 v.1.2.2.2.2.1 v.1.2.2.2.2.2.1 v.1.2.2.2.2.2.2.1 v.1.2.2.2.2.2.2.2.1 v.2.1 v.2.2.1.1 v.2.2.1.2.1) (inner T an87 (modesOf F) 0 k 39 (S87 k) (ending T Try.f87 an87 0 K) cd87_1000007 (sh sp87_1000007 ws rs) N X) ws rs
noncomputable def L87_0 (ws : List PV) (rs : List RowS) (N : St → Option R) (X : Nat → St → Option R) : Option R :=
  onShape [.val [] (.int .i64), .rw 1, .val [] (.int .i64), .val [(0, 0)] (.slice (.prod (.int .i64) (.prod (.int .i64) .unit))), .val [] (.int .i64), .val [] (.int .i64)] [.arr [] (.prod (.int .i64) (.prod (.int .i64) .unit))] (fun v => f87_0 k (fun y0_1 y0_2 => N (sh jn87_0 [.val [] (.int .i64) v.1.1, .rw 1, .val [] (.int .i64) y0_1] [⟨0, .arr [] (.prod (.int .i64) (.prod (.int .i64) .unit)) y0_2⟩])) v.1.1 v.1.2.2.2.1 v.1.2.2.2.2.1 k v.1.2.2.1 v.1.2.2.2.2.2.1 v.2.1) (inner T an87 (modesOf F) 0 k 39 (S87 k) (ending T Try.f87 an87 0 K) cd87_0 (sh sp87_0 ws rs) N X) ws rs
noncomputable def L87_1000011 (ws : List PV) (rs : List RowS) (N : St → Option R) (X : Nat → St → Option R) : Option R :=
  onShape [.val [] (.int .i64), .rw 1, .val [] (.int .i64), .val [] .bool] [.arr [] (.prod (.int .i64) (.prod (.int .i64) .unit))] (fun v => f87_1000011 k (fun yN_0 => N (sh fi87_11 [.rw 1] [⟨0, .arr [] (.prod (.int .i64) (.prod (.int .i64) .unit)) yN_0⟩])) v.1.1 v.1.2.2.1 v.1.2.2.2.1 v.2.1) (inner T an87 (modesOf F) 0 k 39 (S87 k) (ending T Try.f87 an87 0 K) cd87_1000011 (sh sp87_1000011 ws rs) N X) ws rs
noncomputable def L87 (id : Nat) (ws : List PV) (rs : List RowS) (N : St → Option R) (X : Nat → St → Option R) : Option R := bif id == 1000007 then L87_1000007 k K ws rs N X else bif id == 0 then L87_0 k K ws rs N X else bif id == 1000011 then L87_1000011 k K ws rs N X else none
theorem l87_1000007 (ws : List PV) (rs : List RowS) (N : St → Option R) (X : Nat → St → Option R) : L87 k K 1000007 ws rs N X = inner T an87 (modesOf F) 0 k 39 (S87 k) (ending T Try.f87 an87 0 K) cd87_1000007 (sh sp87_1000007 ws rs) N X := by
  show L87_1000007 k K ws rs N X = _
  unfold L87_1000007
  rw [f87_1000007_def]
  exact onShape_eq (a := [.val [] (.int .i64), .rw 1, .val [] (.int .i64), .ptr 2 0, .val [(0, 0)] (.slice (.prod (.int .i64) (.prod (.int .i64) .unit))), .val [] (.int .i64), .val [] (.int .i64), .val [] .bool]) (b := [.arr [] (.prod (.int .i64) (.prod (.int .i64) .unit)), .vars [.val [] (.int .i64), .val [] (.int .i64)]]) (G := fun ws rs => inner T an87 (modesOf F) 0 k 39 (S87 k) (ending T Try.f87 an87 0 K) cd87_1000007 (sh sp87_1000007 ws rs) N X) (fun x y => Eq.trans (by kernel_rfl) (innerS_eq T an87 (modesOf F) 0 k 39 (S87 k) (L87 k K) cd87_1000007 (l := []) (by kernel_rfl) trivial _ N X)) ws rs
theorem b87_0 (rec : St → Option R) (N : St → Option R) (X : Nat → St → Option R) (v0_0 : Int) (v0_2 : List ((Int × (Int × Unit)))) (v0_3 : Int) (v0_1 : Int) (v0_4 : Int) (v0_5 : List (Int × (Int × Unit))) :
    execS T an87 (modesOf F) 0 k 39 (S87 k) (L87 k K) (ending T Try.f87 an87 0 K) bd87_0 (sh sp87_0 [.val [] (.int .i64) v0_0, .rw 1, .val [] (.int .i64) v0_1, .val [(0, 0)] (.slice (.prod (.int .i64) (.prod (.int .i64) .unit))) v0_2, .val [] (.int .i64) v0_3, .val [] (.int .i64) v0_4] [⟨0, .arr [] (.prod (.int .i64) (.prod (.int .i64) .unit)) v0_5⟩]) (fun st => atHead an87 0 bd87_0 st rec) (outX an87 0 0 N X) =
      f87_0b k (fun v0_1 v0_4 v0_5 => rec (sh sp87_0 [.val [] (.int .i64) v0_0, .rw 1, .val [] (.int .i64) v0_1, .val [(0, 0)] (.slice (.prod (.int .i64) (.prod (.int .i64) .unit))) v0_2, .val [] (.int .i64) v0_3, .val [] (.int .i64) v0_4] [⟨0, .arr [] (.prod (.int .i64) (.prod (.int .i64) .unit)) v0_5⟩])) (fun y0_1 y0_2 => N (sh jn87_0 [.val [] (.int .i64) v0_0, .rw 1, .val [] (.int .i64) y0_1] [⟨0, .arr [] (.prod (.int .i64) (.prod (.int .i64) .unit)) y0_2⟩])) v0_0 v0_2 v0_3 v0_1 v0_4 v0_5 := by kernel_rfl
theorem i87_0 (N : St → Option R) (X : Nat → St → Option R) (v0_0 : Int) (v0_2 : List ((Int × (Int × Unit)))) (v0_3 : Int) (m : Nat) : ∀ (v0_1 : Int) (v0_4 : Int) (v0_5 : List (Int × (Int × Unit))),
    iter (atHead an87 0 bd87_0) m (fun st N' => exec T an87 (modesOf F) 0 k 39 (S87 k) (ending T Try.f87 an87 0 K) bd87_0 st N' (outX an87 0 0 N X)) (sh sp87_0 [.val [] (.int .i64) v0_0, .rw 1, .val [] (.int .i64) v0_1, .val [(0, 0)] (.slice (.prod (.int .i64) (.prod (.int .i64) .unit))) v0_2, .val [] (.int .i64) v0_3, .val [] (.int .i64) v0_4] [⟨0, .arr [] (.prod (.int .i64) (.prod (.int .i64) .unit)) v0_5⟩]) = f87_0d k (fun y0_1 y0_2 => N (sh jn87_0 [.val [] (.int .i64) v0_0, .rw 1, .val [] (.int .i64) y0_1] [⟨0, .arr [] (.prod (.int .i64) (.prod (.int .i64) .unit)) y0_2⟩])) v0_0 v0_2 v0_3 m v0_1 v0_4 v0_5 := by
  induction m with
  | zero => intros; rfl
  | succ m ih =>
    intro v0_1 v0_4 v0_5
    simp only [iter]
    rw [← execS_eq T an87 (modesOf F) 0 k 39 (S87 k) (L87 k K) bd87_0 (cuts_of _ _ _ _ _ _ _ _ bd87_0 (l := [(1000007, sp87_1000007, cd87_1000007)]) (by kernel_rfl) ⟨l87_1000007 k K, trivial⟩)]
    refine (b87_0 k K _ N X v0_0 v0_2 v0_3 v0_1 v0_4 v0_5).trans ?_
    simp only [f87_0d, ih]
theorem l87_0 (ws : List PV) (rs : List RowS) (N : St → Option R) (X : Nat → St → Option R) : L87 k K 0 ws rs N X = inner T an87 (modesOf F) 0 k 39 (S87 k) (ending T Try.f87 an87 0 K) cd87_0 (sh sp87_0 ws rs) N X := by
  show L87_0 k K ws rs N X = _
  unfold L87_0
  rw [f87_0_def]
  exact onShape_eq (a := [.val [] (.int .i64), .rw 1, .val [] (.int .i64), .val [(0, 0)] (.slice (.prod (.int .i64) (.prod (.int .i64) .unit))), .val [] (.int .i64), .val [] (.int .i64)]) (b := [.arr [] (.prod (.int .i64) (.prod (.int .i64) .unit))]) (G := fun ws rs => inner T an87 (modesOf F) 0 k 39 (S87 k) (ending T Try.f87 an87 0 K) cd87_0 (sh sp87_0 ws rs) N X) (fun x y => Eq.trans (by kernel_rfl) (Eq.trans (i87_0 k K N X x.1 x.2.2.2.1 x.2.2.2.2.1 k x.2.2.1 x.2.2.2.2.2.1 y.1).symm (by kernel_rfl))) ws rs
theorem l87_1000011 (ws : List PV) (rs : List RowS) (N : St → Option R) (X : Nat → St → Option R) : L87 k K 1000011 ws rs N X = inner T an87 (modesOf F) 0 k 39 (S87 k) (ending T Try.f87 an87 0 K) cd87_1000011 (sh sp87_1000011 ws rs) N X := by
  show L87_1000011 k K ws rs N X = _
  unfold L87_1000011
  rw [f87_1000011_def]
  exact onShape_eq (a := [.val [] (.int .i64), .rw 1, .val [] (.int .i64), .val [] .bool]) (b := [.arr [] (.prod (.int .i64) (.prod (.int .i64) .unit))]) (G := fun ws rs => inner T an87 (modesOf F) 0 k 39 (S87 k) (ending T Try.f87 an87 0 K) cd87_1000011 (sh sp87_1000011 ws rs) N X) (fun x y => Eq.trans (by kernel_rfl) (innerS_eq T an87 (modesOf F) 0 k 39 (S87 k) (L87 k K) cd87_1000011 (l := []) (by kernel_rfl) trivial _ N X)) ws rs
end
theorem e87 (k : Nat) (a0 : List ((Int × (Int × Unit)))) (a1 : Int) (K : List PV → List RowS → Option R) : callC T F k 87 [.val [(0, 0)] (.slice (.prod (.int .i64) (.prod (.int .i64) .unit))) a0, .val [] (.int .i64) a1] [] K = f87 k a0 a1 (fun z0 => K [.rw 1] [⟨0, .arr [] (.prod (.int .i64) (.prod (.int .i64) .unit)) z0⟩]) := by
  rw [f87_def]
  cases k with
  | zero => rfl
  | succ k =>
    refine Eq.trans (show _ = exec T an87 (modesOf F) 0 k 39 (callC T F k) (ending T Try.f87 an87 0 K) (bodyOf Try.f87) ⟨argEnv 0 [.val [(0, 0)] (.slice (.prod (.int .i64) (.prod (.int .i64) .unit))) a0, .val [] (.int .i64) a1] (fun _ => none), rowsOf []⟩ (ending T Try.f87 an87 0 K) (fun _ _ => none) from by kernel_rfl) ?_
    rw [← S87_eq k, ← execS_eq T an87 (modesOf F) 0 k 39 (S87 k) (L87 k K) (bodyOf Try.f87) (cuts_of _ _ _ _ _ _ _ _ (bodyOf Try.f87) (l := [(0, sp87_0, cd87_0), (1000011, sp87_1000011, cd87_1000011)]) (by kernel_rfl) ⟨l87_0 k K, l87_1000011 k K, trivial⟩)]
    kernel_rfl
noncomputable def s87 (k : Nat) (a : List PV) (r : List RowS) (K : List PV → List RowS → Option R) : Option R :=
  onShape [.val [(0, 0)] (.slice (.prod (.int .i64) (.prod (.int .i64) .unit))), .val [] (.int .i64)] [] (fun v => f87 k v.1.1 v.1.2.1 (fun z0 => K [.rw 1] [⟨0, .arr [] (.prod (.int .i64) (.prod (.int .i64) .unit)) z0⟩])) (callC T F k 87 a r K) a r
theorem s87_eq (k : Nat) (a : List PV) (r : List RowS) (K : List PV → List RowS → Option R) : s87 k a r K = callC T F k 87 a r K := by
  unfold s87
  exact onShape_eq (a := [.val [(0, 0)] (.slice (.prod (.int .i64) (.prod (.int .i64) .unit))), .val [] (.int .i64)]) (b := []) (G := fun a r => callC T F k 87 a r K) (fun x y => Eq.trans (by kernel_rfl) (Eq.trans (e87 k x.1 x.2.1 K).symm (by kernel_rfl))) a r
end
section
variable {R : Type}
noncomputable def S42 (k g : Nat) (a : List PV) (r : List RowS) (K : List PV → List RowS → Option R) : Option R := bif g == 45 then s45 k a r K else bif g == 87 then s87 k a r K else callC T F k g a r K
theorem S42_eq (k : Nat) : S42 (R := R) k = callC T F k := by
  funext g a r K
  exact pick_eq (fun e => by subst e; exact s45_eq k a r K) (pick_eq (fun e => by subst e; exact s87_eq k a r K) (rfl))
theorem e42 (k : Nat) (a0 : List ((Int × (Int × Unit)))) (a1 : Int) (K : List PV → List RowS → Option R) : callC T F k 42 [.val [(0, 0)] (.slice (.prod (.int .i64) (.prod (.int .i64) .unit))) a0, .val [] (.int .i64) a1] [] K = f42 k a0 a1 (fun z0 z1 => K [.rw 1, .val [] (.int .i64) z0] [⟨0, .arr [] (.prod (.int .i64) (.prod (.int .i64) .unit)) z1⟩]) := by
  rw [f42_def]
  cases k with
  | zero => rfl
  | succ k =>
    refine Eq.trans (show _ = exec T an42 (modesOf F) 0 k 21 (callC T F k) (ending T Try.f42 an42 0 K) (bodyOf Try.f42) ⟨argEnv 0 [.val [(0, 0)] (.slice (.prod (.int .i64) (.prod (.int .i64) .unit))) a0, .val [] (.int .i64) a1] (fun _ => none), rowsOf []⟩ (ending T Try.f42 an42 0 K) (fun _ _ => none) from by kernel_rfl) ?_
    rw [← S42_eq k, ← execS_eq T an42 (modesOf F) 0 k 21 (S42 k) (fun _ _ _ _ _ => none) (bodyOf Try.f42) (cuts_of _ _ _ _ _ _ _ _ (bodyOf Try.f42) (l := []) (by kernel_rfl) trivial)]
    kernel_rfl
noncomputable def s42 (k : Nat) (a : List PV) (r : List RowS) (K : List PV → List RowS → Option R) : Option R :=
  onShape [.val [(0, 0)] (.slice (.prod (.int .i64) (.prod (.int .i64) .unit))), .val [] (.int .i64)] [] (fun v => f42 k v.1.1 v.1.2.1 (fun z0 z1 => K [.rw 1, .val [] (.int .i64) z0] [⟨0, .arr [] (.prod (.int .i64) (.prod (.int .i64) .unit)) z1⟩])) (callC T F k 42 a r K) a r
theorem s42_eq (k : Nat) (a : List PV) (r : List RowS) (K : List PV → List RowS → Option R) : s42 k a r K = callC T F k 42 a r K := by
  unfold s42
  exact onShape_eq (a := [.val [(0, 0)] (.slice (.prod (.int .i64) (.prod (.int .i64) .unit))), .val [] (.int .i64)]) (b := []) (G := fun a r => callC T F k 42 a r K) (fun x y => Eq.trans (by kernel_rfl) (Eq.trans (e42 k x.1 x.2.1 K).symm (by kernel_rfl))) a r
end
section
variable {R : Type}
noncomputable def S72 (k g : Nat) (a : List PV) (r : List RowS) (K : List PV → List RowS → Option R) : Option R := callC T F k g a r K
theorem S72_eq (k : Nat) : S72 (R := R) k = callC T F k := by
  funext g a r K
  exact rfl
theorem e72 (k : Nat) (a0 : Int) (a1 : Int) (a2 : Int) (K : List PV → List RowS → Option R) : callC T F k 72 [.val [] (.int .i64) a0, .val [] (.int .i64) a1, .val [] (.int .i64) a2] [] K = f72 k a0 a1 a2 (fun z0 => K [.val [] .bool z0] []) := by
  rw [f72_def]
  cases k with
  | zero => rfl
  | succ k =>
    refine Eq.trans (show _ = exec T an72 (modesOf F) 0 k 15 (callC T F k) (ending T Try.f72 an72 0 K) (bodyOf Try.f72) ⟨argEnv 0 [.val [] (.int .i64) a0, .val [] (.int .i64) a1, .val [] (.int .i64) a2] (fun _ => none), rowsOf []⟩ (ending T Try.f72 an72 0 K) (fun _ _ => none) from by kernel_rfl) ?_
    rw [← S72_eq k, ← execS_eq T an72 (modesOf F) 0 k 15 (S72 k) (fun _ _ _ _ _ => none) (bodyOf Try.f72) (cuts_of _ _ _ _ _ _ _ _ (bodyOf Try.f72) (l := []) (by kernel_rfl) trivial)]
    kernel_rfl
noncomputable def s72 (k : Nat) (a : List PV) (r : List RowS) (K : List PV → List RowS → Option R) : Option R :=
  onShape [.val [] (.int .i64), .val [] (.int .i64), .val [] (.int .i64)] [] (fun v => f72 k v.1.1 v.1.2.1 v.1.2.2.1 (fun z0 => K [.val [] .bool z0] [])) (callC T F k 72 a r K) a r
theorem s72_eq (k : Nat) (a : List PV) (r : List RowS) (K : List PV → List RowS → Option R) : s72 k a r K = callC T F k 72 a r K := by
  unfold s72
  exact onShape_eq (a := [.val [] (.int .i64), .val [] (.int .i64), .val [] (.int .i64)]) (b := []) (G := fun a r => callC T F k 72 a r K) (fun x y => Eq.trans (by kernel_rfl) (Eq.trans (e72 k x.1 x.2.1 x.2.2.1 K).symm (by kernel_rfl))) a r
end
section
variable {R : Type}
noncomputable def S46 (k g : Nat) (a : List PV) (r : List RowS) (K : List PV → List RowS → Option R) : Option R := bif g == 72 then s72 k a r K else callC T F k g a r K
theorem S46_eq (k : Nat) : S46 (R := R) k = callC T F k := by
  funext g a r K
  exact pick_eq (fun e => by subst e; exact s72_eq k a r K) (rfl)
section
variable {R : Type} (k : Nat) (K : List PV → List RowS → Option R)
noncomputable def L46_0 (ws : List PV) (rs : List RowS) (N : St → Option R) (X : Nat → St → Option R) : Option R :=
  onShape [.val [(0, 0)] (.slice (.prod (.int .i64) (.prod (.int .i64) .unit))), .val [] (.int .i64), .val [] (.int .i64)] [] (fun v => f46_0 k (fun z0 => K [.val [] (.int .i64) z0] []) (N (sh jn46_0 [] [])) v.1.1 v.1.2.1 k v.1.2.2.1) (inner T an46 (modesOf F) 0 k 60 (S46 k) (ending T Try.f46 an46 0 K) cd46_0 (sh sp46_0 ws rs) N X) ws rs
noncomputable def L46 (id : Nat) (ws : List PV) (rs : List RowS) (N : St → Option R) (X : Nat → St → Option R) : Option R := bif id == 0 then L46_0 k K ws rs N X else none
theorem b46_0 (rec : St → Option R) (N : St → Option R) (X : Nat → St → Option R) (v0_0 : List ((Int × (Int × Unit)))) (v0_1 : Int) (v0_2 : Int) :
    execS T an46 (modesOf F) 0 k 60 (S46 k) (L46 k K) (ending T Try.f46 an46 0 K) bd46_0 (sh sp46_0 [.val [(0, 0)] (.slice (.prod (.int .i64) (.prod (.int .i64) .unit))) v0_0, .val [] (.int .i64) v0_1, .val [] (.int .i64) v0_2] []) (fun st => atHead an46 0 bd46_0 st rec) (outX an46 0 0 N X) =
      f46_0b k (fun v0_2 => rec (sh sp46_0 [.val [(0, 0)] (.slice (.prod (.int .i64) (.prod (.int .i64) .unit))) v0_0, .val [] (.int .i64) v0_1, .val [] (.int .i64) v0_2] [])) (fun z0 => K [.val [] (.int .i64) z0] []) (N (sh jn46_0 [] [])) v0_0 v0_1 v0_2 := by kernel_rfl
theorem i46_0 (N : St → Option R) (X : Nat → St → Option R) (v0_0 : List ((Int × (Int × Unit)))) (v0_1 : Int) (m : Nat) : ∀ (v0_2 : Int),
    iter (atHead an46 0 bd46_0) m (fun st N' => exec T an46 (modesOf F) 0 k 60 (S46 k) (ending T Try.f46 an46 0 K) bd46_0 st N' (outX an46 0 0 N X)) (sh sp46_0 [.val [(0, 0)] (.slice (.prod (.int .i64) (.prod (.int .i64) .unit))) v0_0, .val [] (.int .i64) v0_1, .val [] (.int .i64) v0_2] []) = f46_0d k (fun z0 => K [.val [] (.int .i64) z0] []) (N (sh jn46_0 [] [])) v0_0 v0_1 m v0_2 := by
  induction m with
  | zero => intros; rfl
  | succ m ih =>
    intro v0_2
    simp only [iter]
    rw [← execS_eq T an46 (modesOf F) 0 k 60 (S46 k) (L46 k K) bd46_0 (cuts_of _ _ _ _ _ _ _ _ bd46_0 (l := []) (by kernel_rfl) trivial)]
    refine (b46_0 k K _ N X v0_0 v0_1 v0_2).trans ?_
    simp only [f46_0d, ih]
theorem l46_0 (ws : List PV) (rs : List RowS) (N : St → Option R) (X : Nat → St → Option R) : L46 k K 0 ws rs N X = inner T an46 (modesOf F) 0 k 60 (S46 k) (ending T Try.f46 an46 0 K) cd46_0 (sh sp46_0 ws rs) N X := by
  show L46_0 k K ws rs N X = _
  unfold L46_0
  rw [f46_0_def]
  exact onShape_eq (a := [.val [(0, 0)] (.slice (.prod (.int .i64) (.prod (.int .i64) .unit))), .val [] (.int .i64), .val [] (.int .i64)]) (b := []) (G := fun ws rs => inner T an46 (modesOf F) 0 k 60 (S46 k) (ending T Try.f46 an46 0 K) cd46_0 (sh sp46_0 ws rs) N X) (fun x y => Eq.trans (by kernel_rfl) (Eq.trans (i46_0 k K N X x.1 x.2.1 k x.2.2.1).symm (by kernel_rfl))) ws rs
end
theorem e46 (k : Nat) (a0 : List ((Int × (Int × Unit)))) (a1 : Int) (K : List PV → List RowS → Option R) : callC T F k 46 [.val [(0, 0)] (.slice (.prod (.int .i64) (.prod (.int .i64) .unit))) a0, .val [] (.int .i64) a1] [] K = f46 k a0 a1 (fun z0 => K [.val [] (.int .i64) z0] []) := by
  rw [f46_def]
  cases k with
  | zero => rfl
  | succ k =>
    refine Eq.trans (show _ = exec T an46 (modesOf F) 0 k 60 (callC T F k) (ending T Try.f46 an46 0 K) (bodyOf Try.f46) ⟨argEnv 0 [.val [(0, 0)] (.slice (.prod (.int .i64) (.prod (.int .i64) .unit))) a0, .val [] (.int .i64) a1] (fun _ => none), rowsOf []⟩ (ending T Try.f46 an46 0 K) (fun _ _ => none) from by kernel_rfl) ?_
    rw [← S46_eq k, ← execS_eq T an46 (modesOf F) 0 k 60 (S46 k) (L46 k K) (bodyOf Try.f46) (cuts_of _ _ _ _ _ _ _ _ (bodyOf Try.f46) (l := [(0, sp46_0, cd46_0)]) (by kernel_rfl) ⟨l46_0 k K, trivial⟩)]
    kernel_rfl
noncomputable def s46 (k : Nat) (a : List PV) (r : List RowS) (K : List PV → List RowS → Option R) : Option R :=
  onShape [.val [(0, 0)] (.slice (.prod (.int .i64) (.prod (.int .i64) .unit))), .val [] (.int .i64)] [] (fun v => f46 k v.1.1 v.1.2.1 (fun z0 => K [.val [] (.int .i64) z0] [])) (callC T F k 46 a r K) a r
theorem s46_eq (k : Nat) (a : List PV) (r : List RowS) (K : List PV → List RowS → Option R) : s46 k a r K = callC T F k 46 a r K := by
  unfold s46
  exact onShape_eq (a := [.val [(0, 0)] (.slice (.prod (.int .i64) (.prod (.int .i64) .unit))), .val [] (.int .i64)]) (b := []) (G := fun a r => callC T F k 46 a r K) (fun x y => Eq.trans (by kernel_rfl) (Eq.trans (e46 k x.1 x.2.1 K).symm (by kernel_rfl))) a r
end
section
variable {R : Type}
noncomputable def S88 (k g : Nat) (a : List PV) (r : List RowS) (K : List PV → List RowS → Option R) : Option R := callC T F k g a r K
theorem S88_eq (k : Nat) : S88 (R := R) k = callC T F k := by
  funext g a r K
  exact rfl
section
variable {R : Type} (k : Nat) (K : List PV → List RowS → Option R)
noncomputable def L88_1000007 (ws : List PV) (rs : List RowS) (N : St → Option R) (X : Nat → St → Option R) : Option R :=
  onShape [.val [(0, 0)] (.slice (.prod (.int .i64) (.prod (.int .i64) .unit))), .val [] (.int .i64), .rw 1, .val [] (.int .i64), .val [] (.int .i64), .val [] .bool] [.arr [] (.prod (.int .i64) (.prod (.int .i64) .unit))] (fun v => f88_1000007 k (fun yN_3 => N (sh fi88_7 [.val [(0, 0)] (.slice (.prod (.int .i64) (.prod (.int .i64) .unit))) v.1.1, .val [] (.int .i64) v.1.2.1, .rw 1, .val [] (.int .i64) v.1.2.2.2.2.1] [⟨0, .arr [] (.prod (.int .i64) (.prod (.int .i64) .unit)) yN_3⟩])) v.1.1 v.1.2.1 v.1.2.2.2.1 v.1.2.2.2.2.1 v.1.2.2.2.2.2.1 v.2.1) (inner T an88 (modesOf F) 0 k 46 (S88 k) (ending T Try.f88 an88 0 K) cd88_1000007 (sh sp88_1000007 ws rs) N X) ws rs
noncomputable def L88_0 (ws : List PV) (rs : List RowS) (N : St → Option R) (X : Nat → St → Option R) : Option R :=
  onShape [.val [(0, 0)] (.slice (.prod (.int .i64) (.prod (.int .i64) .unit))), .val [] (.int .i64), .rw 1, .val [] (.int .i64), .val [] (.int .i64)] [.arr [] (.prod (.int .i64) (.prod (.int .i64) .unit))] (fun v => f88_0 k (fun y0_1 y0_2 => N (sh jn88_0 [.val [] (.int .i64) v.1.2.1, .rw 1, .val [] (.int .i64) y0_1] [⟨0, .arr [] (.prod (.int .i64) (.prod (.int .i64) .unit)) y0_2⟩])) v.1.1 v.1.2.1 k v.1.2.2.2.1 v.1.2.2.2.2.1 v.2.1) (inner T an88 (modesOf F) 0 k 46 (S88 k) (ending T Try.f88 an88 0 K) cd88_0 (sh sp88_0 ws rs) N X) ws rs
noncomputable def L88_1000010 (ws : List PV) (rs : List RowS) (N : St → Option R) (X : Nat → St → Option R) : Option R :=
  onShape [.val [] (.int .i64), .rw 1, .val [] (.int .i64), .val [] .bool] [.arr [] (.prod (.int .i64) (.prod (.int .i64) .unit))] (fun v => f88_1000010 k (fun yN_0 => N (sh fi88_10 [.rw 1] [⟨0, .arr [] (.prod (.int .i64) (.prod (.int .i64) .unit)) yN_0⟩])) v.1.1 v.1.2.2.1 v.1.2.2.2.1 v.2.1) (inner T an88 (modesOf F) 0 k 46 (S88 k) (ending T Try.f88 an88 0 K) cd88_1000010 (sh sp88_1000010 ws rs) N X) ws rs
noncomputable def L88 (id : Nat) (ws : List PV) (rs : List RowS) (N : St → Option R) (X : Nat → St → Option R) : Option R := bif id == 1000007 then L88_1000007 k K ws rs N X else bif id == 0 then L88_0 k K ws rs N X else bif id == 1000010 then L88_1000010 k K ws rs N X else none
theorem l88_1000007 (ws : List PV) (rs : List RowS) (N : St → Option R) (X : Nat → St → Option R) : L88 k K 1000007 ws rs N X = inner T an88 (modesOf F) 0 k 46 (S88 k) (ending T Try.f88 an88 0 K) cd88_1000007 (sh sp88_1000007 ws rs) N X := by
  show L88_1000007 k K ws rs N X = _
  unfold L88_1000007
  rw [f88_1000007_def]
  exact onShape_eq (a := [.val [(0, 0)] (.slice (.prod (.int .i64) (.prod (.int .i64) .unit))), .val [] (.int .i64), .rw 1, .val [] (.int .i64), .val [] (.int .i64), .val [] .bool]) (b := [.arr [] (.prod (.int .i64) (.prod (.int .i64) .unit))]) (G := fun ws rs => inner T an88 (modesOf F) 0 k 46 (S88 k) (ending T Try.f88 an88 0 K) cd88_1000007 (sh sp88_1000007 ws rs) N X) (fun x y => Eq.trans (by kernel_rfl) (innerS_eq T an88 (modesOf F) 0 k 46 (S88 k) (L88 k K) cd88_1000007 (l := []) (by kernel_rfl) trivial _ N X)) ws rs
theorem b88_0 (rec : St → Option R) (N : St → Option R) (X : Nat → St → Option R) (v0_0 : List ((Int × (Int × Unit)))) (v0_1 : Int) (v0_2 : Int) (v0_3 : Int) (v0_4 : List (Int × (Int × Unit))) :
    execS T an88 (modesOf F) 0 k 46 (S88 k) (L88 k K) (ending T Try.f88 an88 0 K) bd88_0 (sh sp88_0 [.val [(0, 0)] (.slice (.prod (.int .i64) (.prod (.int .i64) .unit))) v0_0, .val [] (.int .i64) v0_1, .rw 1, .val [] (.int .i64) v0_2, .val [] (.int .i64) v0_3] [⟨0, .arr [] (.prod (.int .i64) (.prod (.int .i64) .unit)) v0_4⟩]) (fun st => atHead an88 0 bd88_0 st rec) (outX an88 0 0 N X) =
      f88_0b k (fun v0_2 v0_3 v0_4 => rec (sh sp88_0 [.val [(0, 0)] (.slice (.prod (.int .i64) (.prod (.int .i64) .unit))) v0_0, .val [] (.int .i64) v0_1, .rw 1, .val [] (.int .i64) v0_2, .val [] (.int .i64) v0_3] [⟨0, .arr [] (.prod (.int .i64) (.prod (.int .i64) .unit)) v0_4⟩])) (fun y0_1 y0_2 => N (sh jn88_0 [.val [] (.int .i64) v0_1, .rw 1, .val [] (.int .i64) y0_1] [⟨0, .arr [] (.prod (.int .i64) (.prod (.int .i64) .unit)) y0_2⟩])) v0_0 v0_1 v0_2 v0_3 v0_4 := by kernel_rfl
theorem i88_0 (N : St → Option R) (X : Nat → St → Option R) (v0_0 : List ((Int × (Int × Unit)))) (v0_1 : Int) (m : Nat) : ∀ (v0_2 : Int) (v0_3 : Int) (v0_4 : List (Int × (Int × Unit))),
    iter (atHead an88 0 bd88_0) m (fun st N' => exec T an88 (modesOf F) 0 k 46 (S88 k) (ending T Try.f88 an88 0 K) bd88_0 st N' (outX an88 0 0 N X)) (sh sp88_0 [.val [(0, 0)] (.slice (.prod (.int .i64) (.prod (.int .i64) .unit))) v0_0, .val [] (.int .i64) v0_1, .rw 1, .val [] (.int .i64) v0_2, .val [] (.int .i64) v0_3] [⟨0, .arr [] (.prod (.int .i64) (.prod (.int .i64) .unit)) v0_4⟩]) = f88_0d k (fun y0_1 y0_2 => N (sh jn88_0 [.val [] (.int .i64) v0_1, .rw 1, .val [] (.int .i64) y0_1] [⟨0, .arr [] (.prod (.int .i64) (.prod (.int .i64) .unit)) y0_2⟩])) v0_0 v0_1 m v0_2 v0_3 v0_4 := by
  induction m with
  | zero => intros; rfl
  | succ m ih =>
    intro v0_2 v0_3 v0_4
    simp only [iter]
    rw [← execS_eq T an88 (modesOf F) 0 k 46 (S88 k) (L88 k K) bd88_0 (cuts_of _ _ _ _ _ _ _ _ bd88_0 (l := [(1000007, sp88_1000007, cd88_1000007)]) (by kernel_rfl) ⟨l88_1000007 k K, trivial⟩)]
    refine (b88_0 k K _ N X v0_0 v0_1 v0_2 v0_3 v0_4).trans ?_
    simp only [f88_0d, ih]
theorem l88_0 (ws : List PV) (rs : List RowS) (N : St → Option R) (X : Nat → St → Option R) : L88 k K 0 ws rs N X = inner T an88 (modesOf F) 0 k 46 (S88 k) (ending T Try.f88 an88 0 K) cd88_0 (sh sp88_0 ws rs) N X := by
  show L88_0 k K ws rs N X = _
  unfold L88_0
  rw [f88_0_def]
  exact onShape_eq (a := [.val [(0, 0)] (.slice (.prod (.int .i64) (.prod (.int .i64) .unit))), .val [] (.int .i64), .rw 1, .val [] (.int .i64), .val [] (.int .i64)]) (b := [.arr [] (.prod (.int .i64) (.prod (.int .i64) .unit))]) (G := fun ws rs => inner T an88 (modesOf F) 0 k 46 (S88 k) (ending T Try.f88 an88 0 K) cd88_0 (sh sp88_0 ws rs) N X) (fun x y => Eq.trans (by kernel_rfl) (Eq.trans (i88_0 k K N X x.1 x.2.1 k x.2.2.2.1 x.2.2.2.2.1 y.1).symm (by kernel_rfl))) ws rs
theorem l88_1000010 (ws : List PV) (rs : List RowS) (N : St → Option R) (X : Nat → St → Option R) : L88 k K 1000010 ws rs N X = inner T an88 (modesOf F) 0 k 46 (S88 k) (ending T Try.f88 an88 0 K) cd88_1000010 (sh sp88_1000010 ws rs) N X := by
  show L88_1000010 k K ws rs N X = _
  unfold L88_1000010
  rw [f88_1000010_def]
  exact onShape_eq (a := [.val [] (.int .i64), .rw 1, .val [] (.int .i64), .val [] .bool]) (b := [.arr [] (.prod (.int .i64) (.prod (.int .i64) .unit))]) (G := fun ws rs => inner T an88 (modesOf F) 0 k 46 (S88 k) (ending T Try.f88 an88 0 K) cd88_1000010 (sh sp88_1000010 ws rs) N X) (fun x y => Eq.trans (by kernel_rfl) (innerS_eq T an88 (modesOf F) 0 k 46 (S88 k) (L88 k K) cd88_1000010 (l := []) (by kernel_rfl) trivial _ N X)) ws rs
end
theorem e88 (k : Nat) (a0 : List ((Int × (Int × Unit)))) (a1 : Int) (K : List PV → List RowS → Option R) : callC T F k 88 [.val [(0, 0)] (.slice (.prod (.int .i64) (.prod (.int .i64) .unit))) a0, .val [] (.int .i64) a1] [] K = f88 k a0 a1 (fun z0 => K [.rw 1] [⟨0, .arr [] (.prod (.int .i64) (.prod (.int .i64) .unit)) z0⟩]) := by
  rw [f88_def]
  cases k with
  | zero => rfl
  | succ k =>
    refine Eq.trans (show _ = exec T an88 (modesOf F) 0 k 46 (callC T F k) (ending T Try.f88 an88 0 K) (bodyOf Try.f88) ⟨argEnv 0 [.val [(0, 0)] (.slice (.prod (.int .i64) (.prod (.int .i64) .unit))) a0, .val [] (.int .i64) a1] (fun _ => none), rowsOf []⟩ (ending T Try.f88 an88 0 K) (fun _ _ => none) from by kernel_rfl) ?_
    rw [← S88_eq k, ← execS_eq T an88 (modesOf F) 0 k 46 (S88 k) (L88 k K) (bodyOf Try.f88) (cuts_of _ _ _ _ _ _ _ _ (bodyOf Try.f88) (l := [(0, sp88_0, cd88_0), (1000010, sp88_1000010, cd88_1000010)]) (by kernel_rfl) ⟨l88_0 k K, l88_1000010 k K, trivial⟩)]
    kernel_rfl
noncomputable def s88 (k : Nat) (a : List PV) (r : List RowS) (K : List PV → List RowS → Option R) : Option R :=
  onShape [.val [(0, 0)] (.slice (.prod (.int .i64) (.prod (.int .i64) .unit))), .val [] (.int .i64)] [] (fun v => f88 k v.1.1 v.1.2.1 (fun z0 => K [.rw 1] [⟨0, .arr [] (.prod (.int .i64) (.prod (.int .i64) .unit)) z0⟩])) (callC T F k 88 a r K) a r
theorem s88_eq (k : Nat) (a : List PV) (r : List RowS) (K : List PV → List RowS → Option R) : s88 k a r K = callC T F k 88 a r K := by
  unfold s88
  exact onShape_eq (a := [.val [(0, 0)] (.slice (.prod (.int .i64) (.prod (.int .i64) .unit))), .val [] (.int .i64)]) (b := []) (G := fun a r => callC T F k 88 a r K) (fun x y => Eq.trans (by kernel_rfl) (Eq.trans (e88 k x.1 x.2.1 K).symm (by kernel_rfl))) a r
end
section
variable {R : Type}
noncomputable def S43 (k g : Nat) (a : List PV) (r : List RowS) (K : List PV → List RowS → Option R) : Option R := bif g == 46 then s46 k a r K else bif g == 88 then s88 k a r K else callC T F k g a r K
theorem S43_eq (k : Nat) : S43 (R := R) k = callC T F k := by
  funext g a r K
  exact pick_eq (fun e => by subst e; exact s46_eq k a r K) (pick_eq (fun e => by subst e; exact s88_eq k a r K) (rfl))
theorem e43 (k : Nat) (a0 : List ((Int × (Int × Unit)))) (a1 : Int) (K : List PV → List RowS → Option R) : callC T F k 43 [.val [(0, 0)] (.slice (.prod (.int .i64) (.prod (.int .i64) .unit))) a0, .val [] (.int .i64) a1] [] K = f43 k a0 a1 (fun z0 z1 => K [.rw 1, .val [] (.int .i64) z0] [⟨0, .arr [] (.prod (.int .i64) (.prod (.int .i64) .unit)) z1⟩]) := by
  rw [f43_def]
  cases k with
  | zero => rfl
  | succ k =>
    refine Eq.trans (show _ = exec T an43 (modesOf F) 0 k 21 (callC T F k) (ending T Try.f43 an43 0 K) (bodyOf Try.f43) ⟨argEnv 0 [.val [(0, 0)] (.slice (.prod (.int .i64) (.prod (.int .i64) .unit))) a0, .val [] (.int .i64) a1] (fun _ => none), rowsOf []⟩ (ending T Try.f43 an43 0 K) (fun _ _ => none) from by kernel_rfl) ?_
    rw [← S43_eq k, ← execS_eq T an43 (modesOf F) 0 k 21 (S43 k) (fun _ _ _ _ _ => none) (bodyOf Try.f43) (cuts_of _ _ _ _ _ _ _ _ (bodyOf Try.f43) (l := []) (by kernel_rfl) trivial)]
    kernel_rfl
noncomputable def s43 (k : Nat) (a : List PV) (r : List RowS) (K : List PV → List RowS → Option R) : Option R :=
  onShape [.val [(0, 0)] (.slice (.prod (.int .i64) (.prod (.int .i64) .unit))), .val [] (.int .i64)] [] (fun v => f43 k v.1.1 v.1.2.1 (fun z0 z1 => K [.rw 1, .val [] (.int .i64) z0] [⟨0, .arr [] (.prod (.int .i64) (.prod (.int .i64) .unit)) z1⟩])) (callC T F k 43 a r K) a r
theorem s43_eq (k : Nat) (a : List PV) (r : List RowS) (K : List PV → List RowS → Option R) : s43 k a r K = callC T F k 43 a r K := by
  unfold s43
  exact onShape_eq (a := [.val [(0, 0)] (.slice (.prod (.int .i64) (.prod (.int .i64) .unit))), .val [] (.int .i64)]) (b := []) (G := fun a r => callC T F k 43 a r K) (fun x y => Eq.trans (by kernel_rfl) (Eq.trans (e43 k x.1 x.2.1 K).symm (by kernel_rfl))) a r
end
section
variable {R : Type}
noncomputable def S89 (k g : Nat) (a : List PV) (r : List RowS) (K : List PV → List RowS → Option R) : Option R := callC T F k g a r K
theorem S89_eq (k : Nat) : S89 (R := R) k = callC T F k := by
  funext g a r K
  exact rfl
section
variable {R : Type} (k : Nat) (K : List PV → List RowS → Option R)
noncomputable def L89_1000006 (ws : List PV) (rs : List RowS) (N : St → Option R) (X : Nat → St → Option R) : Option R :=
  onShape [.val [(0, 0)] (.slice (.prod (.int .i64) (.prod (.int .i64) .unit))), .val [(0, 0)] (.slice (.prod (.int .i64) (.prod (.int .i64) .unit))), .rw 1, .val [] (.int .i64), .val [] (.int .i64), .ptr 2 0, .val [] .bool] [.arr [] (.prod (.int .i64) (.prod (.int .i64) .unit)), .vars [.val [] (.int .i64), .val [] (.int .i64)]] (fun v => f89_1000006 k (fun yN_2 yN_3 yN_5 yN_6 => N (sh fi89_6 [.val [(0, 0)] (.slice (.prod (.int .i64) (.prod (.int .i64) .unit))) v.1.1, .val [(0, 0)] (.slice (.prod (.int .i64) (.prod (.int .i64) .unit))) v.1.2.1, .rw 1, .val [] (.int .i64) yN_2, .val [] (.int .i64) yN_3, .ptr 2 0] [⟨0, .arr [] (.prod (.int .i64) (.prod (.int .i64) .unit)) v.2.1⟩, ⟨0, .vars [.val [] (.int .i64) yN_5, .val [] (.int .i64) yN_6]⟩])) v.1.1 v.1.2.1 v.1.2.2.2.1 v.1.2.2.2.2.1 v.1.2.2.2.2.2.2.1 v.2.1 v.2.2.1.1 v.2.2.1.2.1) (inner T an89 (modesOf F) 0 k 89 (S89 k) (ending T Try.f89 an89 0 K) cd89_1000006 (sh sp89_1000006 ws rs) N X) ws rs
noncomputable def L89_1000012 (ws : List PV) (rs : List RowS) (N : St → Option R) (X : Nat → St → Option R) : Option R :=
  onShape [.val [(0, 0)] (.slice (.prod (.int .i64) (.prod (.int .i64) .unit))), .val [(0, 0)] (.slice (.prod (.int .i64) (.prod (.int .i64) .unit))), .rw 1, .val [] (.int .i64), .val [] (.int .i64), .ptr 2 0, .val [] (.int .i64), .val [] .bool] [.arr [] (.prod (.int .i64) (.prod (.int .i64) .unit)), .vars [.val [] (.int .i64), .val [] (.int .i64)]] (fun v => f89_1000012 k (fun yN_4 => N (sh fi89_12 [.val [(0, 0)] (.slice (.prod (.int .i64) (.prod (.int .i64) .unit))) v.1.1, .val [(0, 0)] (.slice (.prod (.int .i64) (.prod (.int .i64) .unit))) v.1.2.1, .rw 1, .val [] (.int .i64) v.1.2.2.2.1, .val [] (.int .i64) v.1.2.2.2.2.1] [⟨0, .arr [] (.prod (.int .i64) (.prod (.int .i64) .unit)) yN_4⟩])) v.1.1 v.1.2.1 v.1.2.2.2.1 v.1.2.2.2.2.1 v.1.2.2.2.2.2.2.1 v.1.2.2.2.2.2.2.2.1 v.2.1 v.2.2.1.1 v.2.2.1.2.1) (inner T an89 (modesOf F) 0 k 89 (S89 k) (ending T Try.f89 an89 0 K) cd89_1000012 (sh sp89_1000012 ws rs) N X) ws rs
noncomputable def L89_0 (ws : List PV) (rs : List RowS) (N : St → Option R) (X : Nat → St → Option R) : Option R :=
  onShape [.val [(0, 0)] (.slice (.prod (.int .i64) (.prod (.int .i64) .unit))), .val [(0, 0)] (.slice (.prod (.int .i64) (.prod (.int .i64) .unit))), .rw 1, .val [] (.int .i64), .val [] (.int .i64)] [.arr [] (.prod (.int .i64) (.prod (.int .i64) .unit))] (fun v => f89_0 k (fun y0_0 => N (sh jn89_0 [.rw 1] [⟨0, .arr [] (.prod (.int .i64) (.prod (.int .i64) .unit)) y0_0⟩])) v.1.1 v.1.2.1 k v.1.2.2.2.1 v.1.2.2.2.2.1 v.2.1) (inner T an89 (modesOf F) 0 k 89 (S89 k) (ending T Try.f89 an89 0 K) cd89_0 (sh sp89_0 ws rs) N X) ws rs
noncomputable def L89 (id : Nat) (ws : List PV) (rs : List RowS) (N : St → Option R) (X : Nat → St → Option R) : Option R := bif id == 1000006 then L89_1000006 k K ws rs N X else bif id == 1000012 then L89_1000012 k K ws rs N X else bif id == 0 then L89_0 k K ws rs N X else none
theorem l89_1000006 (ws : List PV) (rs : List RowS) (N : St → Option R) (X : Nat → St → Option R) : L89 k K 1000006 ws rs N X = inner T an89 (modesOf F) 0 k 89 (S89 k) (ending T Try.f89 an89 0 K) cd89_1000006 (sh sp89_1000006 ws rs) N X := by
  show L89_1000006 k K ws rs N X = _
  unfold L89_1000006
  rw [f89_1000006_def]
  exact onShape_eq (a := [.val [(0, 0)] (.slice (.prod (.int .i64) (.prod (.int .i64) .unit))), .val [(0, 0)] (.slice (.prod (.int .i64) (.prod (.int .i64) .unit))), .rw 1, .val [] (.int .i64), .val [] (.int .i64), .ptr 2 0, .val [] .bool]) (b := [.arr [] (.prod (.int .i64) (.prod (.int .i64) .unit)), .vars [.val [] (.int .i64), .val [] (.int .i64)]]) (G := fun ws rs => inner T an89 (modesOf F) 0 k 89 (S89 k) (ending T Try.f89 an89 0 K) cd89_1000006 (sh sp89_1000006 ws rs) N X) (fun x y => Eq.trans (by kernel_rfl) (innerS_eq T an89 (modesOf F) 0 k 89 (S89 k) (L89 k K) cd89_1000006 (l := []) (by kernel_rfl) trivial _ N X)) ws rs
theorem l89_1000012 (ws : List PV) (rs : List RowS) (N : St → Option R) (X : Nat → St → Option R) : L89 k K 1000012 ws rs N X = inner T an89 (modesOf F) 0 k 89 (S89 k) (ending T Try.f89 an89 0 K) cd89_1000012 (sh sp89_1000012 ws rs) N X := by
  show L89_1000012 k K ws rs N X = _
  unfold L89_1000012
  rw [f89_1000012_def]
  exact onShape_eq (a := [.val [(0, 0)] (.slice (.prod (.int .i64) (.prod (.int .i64) .unit))), .val [(0, 0)] (.slice (.prod (.int .i64) (.prod (.int .i64) .unit))), .rw 1, .val [] (.int .i64), .val [] (.int .i64), .ptr 2 0, .val [] (.int .i64), .val [] .bool]) (b := [.arr [] (.prod (.int .i64) (.prod (.int .i64) .unit)), .vars [.val [] (.int .i64), .val [] (.int .i64)]]) (G := fun ws rs => inner T an89 (modesOf F) 0 k 89 (S89 k) (ending T Try.f89 an89 0 K) cd89_1000012 (sh sp89_1000012 ws rs) N X) (fun x y => Eq.trans (by kernel_rfl) (innerS_eq T an89 (modesOf F) 0 k 89 (S89 k) (L89 k K) cd89_1000012 (l := []) (by kernel_rfl) trivial _ N X)) ws rs
theorem b89_0 (rec : St → Option R) (N : St → Option R) (X : Nat → St → Option R) (v0_0 : List ((Int × (Int × Unit)))) (v0_1 : List ((Int × (Int × Unit)))) (v0_2 : Int) (v0_3 : Int) (v0_4 : List (Int × (Int × Unit))) :
    execS T an89 (modesOf F) 0 k 89 (S89 k) (L89 k K) (ending T Try.f89 an89 0 K) bd89_0 (sh sp89_0 [.val [(0, 0)] (.slice (.prod (.int .i64) (.prod (.int .i64) .unit))) v0_0, .val [(0, 0)] (.slice (.prod (.int .i64) (.prod (.int .i64) .unit))) v0_1, .rw 1, .val [] (.int .i64) v0_2, .val [] (.int .i64) v0_3] [⟨0, .arr [] (.prod (.int .i64) (.prod (.int .i64) .unit)) v0_4⟩]) (fun st => atHead an89 0 bd89_0 st rec) (outX an89 0 0 N X) =
      f89_0b k (fun v0_2 v0_3 v0_4 => rec (sh sp89_0 [.val [(0, 0)] (.slice (.prod (.int .i64) (.prod (.int .i64) .unit))) v0_0, .val [(0, 0)] (.slice (.prod (.int .i64) (.prod (.int .i64) .unit))) v0_1, .rw 1, .val [] (.int .i64) v0_2, .val [] (.int .i64) v0_3] [⟨0, .arr [] (.prod (.int .i64) (.prod (.int .i64) .unit)) v0_4⟩])) (fun y0_0 => N (sh jn89_0 [.rw 1] [⟨0, .arr [] (.prod (.int .i64) (.prod (.int .i64) .unit)) y0_0⟩])) v0_0 v0_1 v0_2 v0_3 v0_4 := by kernel_rfl
theorem i89_0 (N : St → Option R) (X : Nat → St → Option R) (v0_0 : List ((Int × (Int × Unit)))) (v0_1 : List ((Int × (Int × Unit)))) (m : Nat) : ∀ (v0_2 : Int) (v0_3 : Int) (v0_4 : List (Int × (Int × Unit))),
    iter (atHead an89 0 bd89_0) m (fun st N' => exec T an89 (modesOf F) 0 k 89 (S89 k) (ending T Try.f89 an89 0 K) bd89_0 st N' (outX an89 0 0 N X)) (sh sp89_0 [.val [(0, 0)] (.slice (.prod (.int .i64) (.prod (.int .i64) .unit))) v0_0, .val [(0, 0)] (.slice (.prod (.int .i64) (.prod (.int .i64) .unit))) v0_1, .rw 1, .val [] (.int .i64) v0_2, .val [] (.int .i64) v0_3] [⟨0, .arr [] (.prod (.int .i64) (.prod (.int .i64) .unit)) v0_4⟩]) = f89_0d k (fun y0_0 => N (sh jn89_0 [.rw 1] [⟨0, .arr [] (.prod (.int .i64) (.prod (.int .i64) .unit)) y0_0⟩])) v0_0 v0_1 m v0_2 v0_3 v0_4 := by
  induction m with
  | zero => intros; rfl
  | succ m ih =>
    intro v0_2 v0_3 v0_4
    simp only [iter]
    rw [← execS_eq T an89 (modesOf F) 0 k 89 (S89 k) (L89 k K) bd89_0 (cuts_of _ _ _ _ _ _ _ _ bd89_0 (l := [(1000006, sp89_1000006, cd89_1000006), (1000012, sp89_1000012, cd89_1000012)]) (by kernel_rfl) ⟨l89_1000006 k K, l89_1000012 k K, trivial⟩)]
    refine (b89_0 k K _ N X v0_0 v0_1 v0_2 v0_3 v0_4).trans ?_
    simp only [f89_0d, ih]
theorem l89_0 (ws : List PV) (rs : List RowS) (N : St → Option R) (X : Nat → St → Option R) : L89 k K 0 ws rs N X = inner T an89 (modesOf F) 0 k 89 (S89 k) (ending T Try.f89 an89 0 K) cd89_0 (sh sp89_0 ws rs) N X := by
  show L89_0 k K ws rs N X = _
  unfold L89_0
  rw [f89_0_def]
  exact onShape_eq (a := [.val [(0, 0)] (.slice (.prod (.int .i64) (.prod (.int .i64) .unit))), .val [(0, 0)] (.slice (.prod (.int .i64) (.prod (.int .i64) .unit))), .rw 1, .val [] (.int .i64), .val [] (.int .i64)]) (b := [.arr [] (.prod (.int .i64) (.prod (.int .i64) .unit))]) (G := fun ws rs => inner T an89 (modesOf F) 0 k 89 (S89 k) (ending T Try.f89 an89 0 K) cd89_0 (sh sp89_0 ws rs) N X) (fun x y => Eq.trans (by kernel_rfl) (Eq.trans (i89_0 k K N X x.1 x.2.1 k x.2.2.2.1 x.2.2.2.2.1 y.1).symm (by kernel_rfl))) ws rs
end
theorem e89 (k : Nat) (a0 : List ((Int × (Int × Unit)))) (a1 : List ((Int × (Int × Unit)))) (K : List PV → List RowS → Option R) : callC T F k 89 [.val [(0, 0)] (.slice (.prod (.int .i64) (.prod (.int .i64) .unit))) a0, .val [(0, 0)] (.slice (.prod (.int .i64) (.prod (.int .i64) .unit))) a1] [] K = f89 k a0 a1 (fun z0 => K [.rw 1] [⟨0, .arr [] (.prod (.int .i64) (.prod (.int .i64) .unit)) z0⟩]) := by
  rw [f89_def]
  cases k with
  | zero => rfl
  | succ k =>
    refine Eq.trans (show _ = exec T an89 (modesOf F) 0 k 89 (callC T F k) (ending T Try.f89 an89 0 K) (bodyOf Try.f89) ⟨argEnv 0 [.val [(0, 0)] (.slice (.prod (.int .i64) (.prod (.int .i64) .unit))) a0, .val [(0, 0)] (.slice (.prod (.int .i64) (.prod (.int .i64) .unit))) a1] (fun _ => none), rowsOf []⟩ (ending T Try.f89 an89 0 K) (fun _ _ => none) from by kernel_rfl) ?_
    rw [← S89_eq k, ← execS_eq T an89 (modesOf F) 0 k 89 (S89 k) (L89 k K) (bodyOf Try.f89) (cuts_of _ _ _ _ _ _ _ _ (bodyOf Try.f89) (l := [(0, sp89_0, cd89_0)]) (by kernel_rfl) ⟨l89_0 k K, trivial⟩)]
    kernel_rfl
noncomputable def s89 (k : Nat) (a : List PV) (r : List RowS) (K : List PV → List RowS → Option R) : Option R :=
  onShape [.val [(0, 0)] (.slice (.prod (.int .i64) (.prod (.int .i64) .unit))), .val [(0, 0)] (.slice (.prod (.int .i64) (.prod (.int .i64) .unit)))] [] (fun v => f89 k v.1.1 v.1.2.1 (fun z0 => K [.rw 1] [⟨0, .arr [] (.prod (.int .i64) (.prod (.int .i64) .unit)) z0⟩])) (callC T F k 89 a r K) a r
theorem s89_eq (k : Nat) (a : List PV) (r : List RowS) (K : List PV → List RowS → Option R) : s89 k a r K = callC T F k 89 a r K := by
  unfold s89
  exact onShape_eq (a := [.val [(0, 0)] (.slice (.prod (.int .i64) (.prod (.int .i64) .unit))), .val [(0, 0)] (.slice (.prod (.int .i64) (.prod (.int .i64) .unit)))]) (b := []) (G := fun a r => callC T F k 89 a r K) (fun x y => Eq.trans (by kernel_rfl) (Eq.trans (e89 k x.1 x.2.1 K).symm (by kernel_rfl))) a r
end
section
variable {R : Type}
noncomputable def S44 (k g : Nat) (a : List PV) (r : List RowS) (K : List PV → List RowS → Option R) : Option R := bif g == 46 then s46 k a r K else bif g == 89 then s89 k a r K else callC T F k g a r K
theorem S44_eq (k : Nat) : S44 (R := R) k = callC T F k := by
  funext g a r K
  exact pick_eq (fun e => by subst e; exact s46_eq k a r K) (pick_eq (fun e => by subst e; exact s89_eq k a r K) (rfl))
theorem e44 (k : Nat) (a0 : List ((Int × (Int × Unit)))) (a1 : List ((Int × (Int × Unit)))) (a2 : Int) (K : List PV → List RowS → Option R) : callC T F k 44 [.val [(0, 0)] (.slice (.prod (.int .i64) (.prod (.int .i64) .unit))) a0, .val [(0, 0)] (.slice (.prod (.int .i64) (.prod (.int .i64) .unit))) a1, .val [] (.int .i64) a2] [] K = f44 k a0 a1 a2 (fun z0 z1 => K [.rw 1, .val [] (.int .i64) z0] [⟨0, .arr [] (.prod (.int .i64) (.prod (.int .i64) .unit)) z1⟩]) := by
  rw [f44_def]
  cases k with
  | zero => rfl
  | succ k =>
    refine Eq.trans (show _ = exec T an44 (modesOf F) 0 k 30 (callC T F k) (ending T Try.f44 an44 0 K) (bodyOf Try.f44) ⟨argEnv 0 [.val [(0, 0)] (.slice (.prod (.int .i64) (.prod (.int .i64) .unit))) a0, .val [(0, 0)] (.slice (.prod (.int .i64) (.prod (.int .i64) .unit))) a1, .val [] (.int .i64) a2] (fun _ => none), rowsOf []⟩ (ending T Try.f44 an44 0 K) (fun _ _ => none) from by kernel_rfl) ?_
    rw [← S44_eq k, ← execS_eq T an44 (modesOf F) 0 k 30 (S44 k) (fun _ _ _ _ _ => none) (bodyOf Try.f44) (cuts_of _ _ _ _ _ _ _ _ (bodyOf Try.f44) (l := []) (by kernel_rfl) trivial)]
    kernel_rfl
noncomputable def s44 (k : Nat) (a : List PV) (r : List RowS) (K : List PV → List RowS → Option R) : Option R :=
  onShape [.val [(0, 0)] (.slice (.prod (.int .i64) (.prod (.int .i64) .unit))), .val [(0, 0)] (.slice (.prod (.int .i64) (.prod (.int .i64) .unit))), .val [] (.int .i64)] [] (fun v => f44 k v.1.1 v.1.2.1 v.1.2.2.1 (fun z0 z1 => K [.rw 1, .val [] (.int .i64) z0] [⟨0, .arr [] (.prod (.int .i64) (.prod (.int .i64) .unit)) z1⟩])) (callC T F k 44 a r K) a r
theorem s44_eq (k : Nat) (a : List PV) (r : List RowS) (K : List PV → List RowS → Option R) : s44 k a r K = callC T F k 44 a r K := by
  unfold s44
  exact onShape_eq (a := [.val [(0, 0)] (.slice (.prod (.int .i64) (.prod (.int .i64) .unit))), .val [(0, 0)] (.slice (.prod (.int .i64) (.prod (.int .i64) .unit))), .val [] (.int .i64)]) (b := []) (G := fun a r => callC T F k 44 a r K) (fun x y => Eq.trans (by kernel_rfl) (Eq.trans (e44 k x.1 x.2.1 x.2.2.1 K).symm (by kernel_rfl))) a r
end
section
variable {R : Type}
noncomputable def S7 (k g : Nat) (a : List PV) (r : List RowS) (K : List PV → List RowS → Option R) : Option R := bif g == 24 then s24 k a r K else bif g == 39 then s39 k a r K else bif g == 40 then s40 k a r K else bif g == 42 then s42 k a r K else bif g == 43 then s43 k a r K else bif g == 44 then s44 k a r K else bif g == 45 then s45 k a r K else bif g == 46 then s46 k a r K else callC T F k g a r K
theorem S7_eq (k : Nat) : S7 (R := R) k = callC T F k := by
  funext g a r K
  exact pick_eq (fun e => by subst e; exact s24_eq k a r K) (pick_eq (fun e => by subst e; exact s39_eq k a r K) (pick_eq (fun e => by subst e; exact s40_eq k a r K) (pick_eq (fun e => by subst e; exact s42_eq k a r K) (pick_eq (fun e => by subst e; exact s43_eq k a r K) (pick_eq (fun e => by subst e; exact s44_eq k a r K) (pick_eq (fun e => by subst e; exact s45_eq k a r K) (pick_eq (fun e => by subst e; exact s46_eq k a r K) (rfl))))))))
theorem e7 (k : Nat) (a0 : List ((Int × (Int × Unit)))) (a1 : List ((Int × (Int × Unit)))) (a2 : Int) (K : List PV → List RowS → Option R) : callC T F k 7 [.val [(0, 0)] (.slice (.prod (.int .i64) (.prod (.int .i64) .unit))) a0, .val [(0, 0)] (.slice (.prod (.int .i64) (.prod (.int .i64) .unit))) a1, .val [] (.int .i64) a2] [] K = f7 k a0 a1 a2 (fun z0 => K [.val [] .bool z0] []) := by
  rw [f7_def]
  cases k with
  | zero => rfl
  | succ k =>
    refine Eq.trans (show _ = exec T an7 (modesOf F) 0 k 71 (callC T F k) (ending T Try.f7 an7 0 K) (bodyOf Try.f7) ⟨argEnv 0 [.val [(0, 0)] (.slice (.prod (.int .i64) (.prod (.int .i64) .unit))) a0, .val [(0, 0)] (.slice (.prod (.int .i64) (.prod (.int .i64) .unit))) a1, .val [] (.int .i64) a2] (fun _ => none), rowsOf []⟩ (ending T Try.f7 an7 0 K) (fun _ _ => none) from by kernel_rfl) ?_
    rw [← S7_eq k, ← execS_eq T an7 (modesOf F) 0 k 71 (S7 k) (fun _ _ _ _ _ => none) (bodyOf Try.f7) (cuts_of _ _ _ _ _ _ _ _ (bodyOf Try.f7) (l := []) (by kernel_rfl) trivial)]
    kernel_rfl
noncomputable def s7 (k : Nat) (a : List PV) (r : List RowS) (K : List PV → List RowS → Option R) : Option R :=
  onShape [.val [(0, 0)] (.slice (.prod (.int .i64) (.prod (.int .i64) .unit))), .val [(0, 0)] (.slice (.prod (.int .i64) (.prod (.int .i64) .unit))), .val [] (.int .i64)] [] (fun v => f7 k v.1.1 v.1.2.1 v.1.2.2.1 (fun z0 => K [.val [] .bool z0] [])) (callC T F k 7 a r K) a r
theorem s7_eq (k : Nat) (a : List PV) (r : List RowS) (K : List PV → List RowS → Option R) : s7 k a r K = callC T F k 7 a r K := by
  unfold s7
  exact onShape_eq (a := [.val [(0, 0)] (.slice (.prod (.int .i64) (.prod (.int .i64) .unit))), .val [(0, 0)] (.slice (.prod (.int .i64) (.prod (.int .i64) .unit))), .val [] (.int .i64)]) (b := []) (G := fun a r => callC T F k 7 a r K) (fun x y => Eq.trans (by kernel_rfl) (Eq.trans (e7 k x.1 x.2.1 x.2.2.1 K).symm (by kernel_rfl))) a r
end
section
variable {R : Type}
noncomputable def S8 (k g : Nat) (a : List PV) (r : List RowS) (K : List PV → List RowS → Option R) : Option R := bif g == 24 then s24 k a r K else bif g == 39 then s39 k a r K else bif g == 40 then s40 k a r K else bif g == 41 then s41 k a r K else bif g == 42 then s42 k a r K else callC T F k g a r K
theorem S8_eq (k : Nat) : S8 (R := R) k = callC T F k := by
  funext g a r K
  exact pick_eq (fun e => by subst e; exact s24_eq k a r K) (pick_eq (fun e => by subst e; exact s39_eq k a r K) (pick_eq (fun e => by subst e; exact s40_eq k a r K) (pick_eq (fun e => by subst e; exact s41_eq k a r K) (pick_eq (fun e => by subst e; exact s42_eq k a r K) (rfl)))))
theorem e8 (k : Nat) (a0 : List ((Int × (Int × Unit)))) (a1 : Int) (K : List PV → List RowS → Option R) : callC T F k 8 [.val [(0, 0)] (.slice (.prod (.int .i64) (.prod (.int .i64) .unit))) a0, .val [] (.int .i64) a1] [] K = f8 k a0 a1 (fun z0 => K [.val [] .bool z0] []) := by
  rw [f8_def]
  cases k with
  | zero => rfl
  | succ k =>
    refine Eq.trans (show _ = exec T an8 (modesOf F) 0 k 78 (callC T F k) (ending T Try.f8 an8 0 K) (bodyOf Try.f8) ⟨argEnv 0 [.val [(0, 0)] (.slice (.prod (.int .i64) (.prod (.int .i64) .unit))) a0, .val [] (.int .i64) a1] (fun _ => none), rowsOf []⟩ (ending T Try.f8 an8 0 K) (fun _ _ => none) from by kernel_rfl) ?_
    rw [← S8_eq k, ← execS_eq T an8 (modesOf F) 0 k 78 (S8 k) (fun _ _ _ _ _ => none) (bodyOf Try.f8) (cuts_of _ _ _ _ _ _ _ _ (bodyOf Try.f8) (l := []) (by kernel_rfl) trivial)]
    kernel_rfl
noncomputable def s8 (k : Nat) (a : List PV) (r : List RowS) (K : List PV → List RowS → Option R) : Option R :=
  onShape [.val [(0, 0)] (.slice (.prod (.int .i64) (.prod (.int .i64) .unit))), .val [] (.int .i64)] [] (fun v => f8 k v.1.1 v.1.2.1 (fun z0 => K [.val [] .bool z0] [])) (callC T F k 8 a r K) a r
theorem s8_eq (k : Nat) (a : List PV) (r : List RowS) (K : List PV → List RowS → Option R) : s8 k a r K = callC T F k 8 a r K := by
  unfold s8
  exact onShape_eq (a := [.val [(0, 0)] (.slice (.prod (.int .i64) (.prod (.int .i64) .unit))), .val [] (.int .i64)]) (b := []) (G := fun a r => callC T F k 8 a r K) (fun x y => Eq.trans (by kernel_rfl) (Eq.trans (e8 k x.1 x.2.1 K).symm (by kernel_rfl))) a r
end
end Go.Proofs.Ytlcklflbhhnnhaa.PM
