/- The small machine's run is the typed form (printed by a program of this work). -/
import Derived.Test.YtadkplikobhckaaPA0
set_option linter.unusedVariables false
set_option linter.unusedSimpArgs false
set_option maxRecDepth 100000
namespace Go.Proofs.Ytadkplikobhckaa.PM
open Go
noncomputable def F : Nat → Option PFn := findN [(62, .code Try.f62 an62), (48, .code Try.f48 an48), (25, .code Try.f25 an25), (24, .code Try.f24 an24), (21, .code Try.f21 an21), (74, .code Try.f74 an74), (70, .code Try.f70 an70), (65, .code Try.f65 an65), (82, .code Try.f82 an82), (101, .code Try.f101 an101), (96, .code Try.f96 an96), (83, .code Try.f83 an83), (49, .code Try.f49 an49), (97, .code Try.f97 an97), (85, .code Try.f85 an85), (51, .code Try.f51 an51), (86, .ext [.lend (.int .i64)] (cloneSpec (.int .i64) 8)), (102, .ext [.any] sortISpec), (98, .code Try.f98 an98), (59, .ext [.lend (.int .u8)] (cloneSpec (.int .u8) 1)), (84, .code Try.f84 an84), (50, .code Try.f50 an50), (12, .code Try.f12 an12), (47, .code Try.f47 an47), (52, .code Try.f52 an52), (13, .code Try.f13 an13), (63, .code Try.f63 an63), (57, .code Try.f57 an57), (88, .code Try.f88 an88), (89, .code Try.f89 an89), (99, .code Try.f99 an99), (103, .ext [.any, .any, .any] insSpec), (100, .code Try.f100 an100), (87, .code Try.f87 an87), (53, .code Try.f53 an53), (54, .code Try.f54 an54), (46, .code Try.f46 an46), (55, .code Try.f55 an55), (14, .code Try.f14 an14), (72, .code Try.f72 an72), (56, .code Try.f56 an56), (58, .code Try.f58 an58), (15, .code Try.f15 an15)]
section
variable {R : Type}
noncomputable def S62 (k g : Nat) (a : List PV) (r : List RowS) (K : List PV → List RowS → Option R) : Option R := callC T F k g a r K
theorem S62_eq (k : Nat) : S62 (R := R) k = callC T F k := by
  funext g a r K
  exact rfl
theorem e62 (k : Nat) (a0 : Int) (a1 : Int) (a2 : Int) (K : List PV → List RowS → Option R) : callC T F k 62 [.val [] (.int .i64) a0, .val [] (.int .i64) a1, .val [] (.int .i64) a2] [] K = f62 k a0 a1 a2 (fun z0 => K [.val [] .bool z0] []) := by
  rw [f62_def]
  cases k with
  | zero => rfl
  | succ k =>
    refine Eq.trans (show _ = exec T an62 (modesOf F) 0 k 15 (callC T F k) (ending T Try.f62 an62 0 K) (bodyOf Try.f62) ⟨argEnv 0 [.val [] (.int .i64) a0, .val [] (.int .i64) a1, .val [] (.int .i64) a2] (fun _ => none), rowsOf []⟩ (ending T Try.f62 an62 0 K) (fun _ _ => none) from by kernel_rfl) ?_
    rw [← S62_eq k, ← execS_eq T an62 (modesOf F) 0 k 15 (S62 k) (fun _ _ _ _ _ => none) (bodyOf Try.f62) (cuts_of _ _ _ _ _ _ _ _ (bodyOf Try.f62) (l := []) (by kernel_rfl) trivial)]
    kernel_rfl
noncomputable def s62 (k : Nat) (a : List PV) (r : List RowS) (K : List PV → List RowS → Option R) : Option R :=
  onShape [.val [] (.int .i64), .val [] (.int .i64), .val [] (.int .i64)] [] (fun v => f62 k v.1.1 v.1.2.1 v.1.2.2.1 (fun z0 => K [.val [] .bool z0] [])) (callC T F k 62 a r K) a r
theorem s62_eq (k : Nat) (a : List PV) (r : List RowS) (K : List PV → List RowS → Option R) : s62 k a r K = callC T F k 62 a r K := by
  unfold s62
  exact onShape_eq (a := [.val [] (.int .i64), .val [] (.int .i64), .val [] (.int .i64)]) (b := []) (G := fun a r => callC T F k 62 a r K) (fun x y => Eq.trans (by kernel_rfl) (Eq.trans (e62 k x.1 x.2.1 x.2.2.1 K).symm (by kernel_rfl))) a r
end
section
variable {R : Type}
noncomputable def S48 (k g : Nat) (a : List PV) (r : List RowS) (K : List PV → List RowS → Option R) : Option R := bif g == 62 then s62 k a r K else callC T F k g a r K
theorem S48_eq (k : Nat) : S48 (R := R) k = callC T F k := by
  funext g a r K
  exact pick_eq (fun e => by subst e; exact s62_eq k a r K) (rfl)
section
variable {R : Type} (k : Nat) (K : List PV → List RowS → Option R)
noncomputable def L48_1 (ws : List PV) (rs : List RowS) (N : St → Option R) (X : Nat → St → Option R) : Option R :=
  onShape [.ptr 1 0, .val [(0, 0)] (.slice (.int .i64)), .val [] (.int .i64), .val [] (.int .i64)] [.vars [.val [] (.int .i64), .val [] (.int .i64), .val [(0, 0)] (.slice (.int .i64))]] (fun v => f48_1 k (fun z0 => K [.val [] (.int .i64) z0] []) (N (sh jn48_1 [] [])) v.1.2.1 v.1.2.2.1 v.2.1.1 v.2.1.2.1 v.2.1.2.2.1 k v.1.2.2.2.1) (inner T an48 (modesOf F) 0 k 54 (S48 k) (ending T Try.f48 an48 0 K) cd48_1 (sh sp48_1 ws rs) N X) ws rs
noncomputable def L48 (id : Nat) (ws : List PV) (rs : List RowS) (N : St → Option R) (X : Nat → St → Option R) : Option R := bif id == 1 then L48_1 k K ws rs N X else none
theorem b48_1 (rec : St → Option R) (N : St → Option R) (X : Nat → St → Option R) (v1_0 : List Int) (v1_1 : Int) (v1_3 : Int) (v1_4 : Int) (v1_5 : List Int) (v1_2 : Int) :
    execS T an48 (modesOf F) 0 k 54 (S48 k) (L48 k K) (ending T Try.f48 an48 0 K) bd48_1 (sh sp48_1 [.ptr 1 0, .val [(0, 0)] (.slice (.int .i64)) v1_0, .val [] (.int .i64) v1_1, .val [] (.int .i64) v1_2] [⟨0, .vars [.val [] (.int .i64) v1_3, .val [] (.int .i64) v1_4, .val [(0, 0)] (.slice (.int .i64)) v1_5]⟩]) (fun st => atHead an48 0 bd48_1 st rec) (outX an48 0 1 N X) =
      f48_1b k (fun v1_2 => rec (sh sp48_1 [.ptr 1 0, .val [(0, 0)] (.slice (.int .i64)) v1_0, .val [] (.int .i64) v1_1, .val [] (.int .i64) v1_2] [⟨0, .vars [.val [] (.int .i64) v1_3, .val [] (.int .i64) v1_4, .val [(0, 0)] (.slice (.int .i64)) v1_5]⟩])) (fun z0 => K [.val [] (.int .i64) z0] []) (N (sh jn48_1 [] [])) v1_0 v1_1 v1_3 v1_4 v1_5 v1_2 := by kernel_rfl
theorem i48_1 (N : St → Option R) (X : Nat → St → Option R) (v1_0 : List Int) (v1_1 : Int) (v1_3 : Int) (v1_4 : Int) (v1_5 : List Int) (m : Nat) : ∀ (v1_2 : Int),
    iter (atHead an48 0 bd48_1) m (fun st N' => exec T an48 (modesOf F) 0 k 54 (S48 k) (ending T Try.f48 an48 0 K) bd48_1 st N' (outX an48 0 1 N X)) (sh sp48_1 [.ptr 1 0, .val [(0, 0)] (.slice (.int .i64)) v1_0, .val [] (.int .i64) v1_1, .val [] (.int .i64) v1_2] [⟨0, .vars [.val [] (.int .i64) v1_3, .val [] (.int .i64) v1_4, .val [(0, 0)] (.slice (.int .i64)) v1_5]⟩]) = f48_1d k (fun z0 => K [.val [] (.int .i64) z0] []) (N (sh jn48_1 [] [])) v1_0 v1_1 v1_3 v1_4 v1_5 m v1_2 := by
  induction m with
  | zero => intros; rfl
  | succ m ih =>
    intro v1_2
    simp only [iter]
    rw [← execS_eq T an48 (modesOf F) 0 k 54 (S48 k) (L48 k K) bd48_1 (cuts_of _ _ _ _ _ _ _ _ bd48_1 (l := []) (by kernel_rfl) trivial)]
    refine (b48_1 k K _ N X v1_0 v1_1 v1_3 v1_4 v1_5 v1_2).trans ?_
    simp only [f48_1d, ih]
theorem l48_1 (ws : List PV) (rs : List RowS) (N : St → Option R) (X : Nat → St → Option R) : L48 k K 1 ws rs N X = inner T an48 (modesOf F) 0 k 54 (S48 k) (ending T Try.f48 an48 0 K) cd48_1 (sh sp48_1 ws rs) N X := by
  show L48_1 k K ws rs N X = _
  unfold L48_1
  rw [f48_1_def]
  exact onShape_eq (a := [.ptr 1 0, .val [(0, 0)] (.slice (.int .i64)), .val [] (.int .i64), .val [] (.int .i64)]) (b := [.vars [.val [] (.int .i64), .val [] (.int .i64), .val [(0, 0)] (.slice (.int .i64))]]) (G := fun ws rs => inner T an48 (modesOf F) 0 k 54 (S48 k) (ending T Try.f48 an48 0 K) cd48_1 (sh sp48_1 ws rs) N X) (fun x y => Eq.trans (by kernel_rfl) (Eq.trans (i48_1 k K N X x.2.1 x.2.2.1 y.1.1 y.1.2.1 y.1.2.2.1 k x.2.2.2.1).symm (by kernel_rfl))) ws rs
end
theorem e48 (k : Nat) (a0 : Int) (a1 : Int) (a2 : List Int) (K : List PV → List RowS → Option R) : callC T F k 48 [.agg [.val [] (.int .i64) a0, .val [] (.int .i64) a1, .val [(0, 0)] (.slice (.int .i64)) a2]] [] K = f48 k a0 a1 a2 (fun z0 => K [.val [] (.int .i64) z0] []) := by
  rw [f48_def]
  cases k with
  | zero => rfl
  | succ k =>
    refine Eq.trans (show _ = exec T an48 (modesOf F) 0 k 54 (callC T F k) (ending T Try.f48 an48 0 K) (bodyOf Try.f48) ⟨argEnv 0 [.agg [.val [] (.int .i64) a0, .val [] (.int .i64) a1, .val [(0, 0)] (.slice (.int .i64)) a2]] (fun _ => none), rowsOf []⟩ (ending T Try.f48 an48 0 K) (fun _ _ => none) from by kernel_rfl) ?_
    rw [← S48_eq k, ← execS_eq T an48 (modesOf F) 0 k 54 (S48 k) (L48 k K) (bodyOf Try.f48) (cuts_of _ _ _ _ _ _ _ _ (bodyOf Try.f48) (l := [(1, sp48_1, cd48_1)]) (by kernel_rfl) ⟨l48_1 k K, trivial⟩)]
    kernel_rfl
noncomputable def s48 (k : Nat) (a : List PV) (r : List RowS) (K : List PV → List RowS → Option R) : Option R :=
  onShape [.agg [.val [] (.int .i64), .val [] (.int .i64), .val [(0, 0)] (.slice (.int .i64))]] [] (fun v => f48 k v.1.1.1 v.1.1.2.1 v.1.1.2.2.1 (fun z0 => K [.val [] (.int .i64) z0] [])) (callC T F k 48 a r K) a r
theorem s48_eq (k : Nat) (a : List PV) (r : List RowS) (K : List PV → List RowS → Option R) : s48 k a r K = callC T F k 48 a r K := by
  unfold s48
  exact onShape_eq (a := [.agg [.val [] (.int .i64), .val [] (.int .i64), .val [(0, 0)] (.slice (.int .i64))]]) (b := []) (G := fun a r => callC T F k 48 a r K) (fun x y => Eq.trans (by kernel_rfl) (Eq.trans (e48 k x.1.1 x.1.2.1 x.1.2.2.1 K).symm (by kernel_rfl))) a r
end
section
variable {R : Type}
noncomputable def S25 (k g : Nat) (a : List PV) (r : List RowS) (K : List PV → List RowS → Option R) : Option R := bif g == 62 then s62 k a r K else callC T F k g a r K
theorem S25_eq (k : Nat) : S25 (R := R) k = callC T F k := by
  funext g a r K
  exact pick_eq (fun e => by subst e; exact s62_eq k a r K) (rfl)
section
variable {R : Type} (k : Nat) (K : List PV → List RowS → Option R)
noncomputable def L25_1000008 (ws : List PV) (rs : List RowS) (N : St → Option R) (X : Nat → St → Option R) : Option R :=
  onShape [.ptr 1 0, .val [] (.int .u8), .val [] (.int .i64), .rw 2, .val [] (.int .i64), .val [] (.int .i64), .val [] .bool] [.vars [.val [] (.int .i64), .val [] .bool, .val [] .bool, .val [] .bool], .arr [] .bool] (fun v => f25_1000008 k (fun yN_0 => N (sh fi25_8 [.ptr 1 0, .val [] (.int .u8) yN_0, .rw 2, .val [] (.int .i64) v.1.2.2.2.2.1, .val [] (.int .i64) v.1.2.2.2.2.2.1] [⟨0, .vars [.val [] (.int .i64) v.2.1.1, .val [] .bool v.2.1.2.1, .val [] .bool v.2.1.2.2.1, .val [] .bool v.2.1.2.2.2.1]⟩, ⟨0, .arr [] .bool v.2.2.1⟩])) v.1.2.1 v.1.2.2.1 v.1.2.2.2.2.1 v.1.2.2.2.2.2.1 v.1.2.2.2.2.2.2.1 v.2.1.1 v.2.1.2.1 v.2.1.2.2.1 v.2.1.2.2.2.1 v.2.2.1) (inner T an25 (modesOf F) 0 k 35 (S25 k) (ending T Try.f25 an25 0 K) cd25_1000008 (sh sp25_1000008 ws rs) N X) ws rs
noncomputable def L25_0 (ws : List PV) (rs : List RowS) (N : St → Option R) (X : Nat → St → Option R) : Option R :=
  onShape [.ptr 1 0, .val [] (.int .u8), .rw 2, .val [] (.int .i64), .val [] (.int .i64)] [.vars [.val [] (.int .i64), .val [] .bool, .val [] .bool, .val [] .bool], .arr [] .bool] (fun v => f25_0 k (fun y0_0 => N (sh jn25_0 [.ptr 1 0, .val [] (.int .u8) y0_0] [⟨0, .vars [.val [] (.int .i64) v.2.1.1, .val [] .bool v.2.1.2.1, .val [] .bool v.2.1.2.2.1, .val [] .bool v.2.1.2.2.2.1]⟩])) v.1.2.2.2.1 v.2.1.1 v.2.1.2.1 v.2.1.2.2.1 v.2.1.2.2.2.1 v.2.2.1 k v.1.2.1 v.1.2.2.2.2.1) (inner T an25 (modesOf F) 0 k 35 (S25 k) (ending T Try.f25 an25 0 K) cd25_0 (sh sp25_0 ws rs) N X) ws rs
noncomputable def L25 (id : Nat) (ws : List PV) (rs : List RowS) (N : St → Option R) (X : Nat → St → Option R) : Option R := bif id == 1000008 then L25_1000008 k K ws rs N X else bif id == 0 then L25_0 k K ws rs N X else none
theorem l25_1000008 (ws : List PV) (rs : List RowS) (N : St → Option R) (X : Nat → St → Option R) : L25 k K 1000008 ws rs N X = inner T an25 (modesOf F) 0 k 35 (S25 k) (ending T Try.f25 an25 0 K) cd25_1000008 (sh sp25_1000008 ws rs) N X := by
  show L25_1000008 k K ws rs N X = _
  unfold L25_1000008
  rw [f25_1000008_def]
  exact onShape_eq (a := [.ptr 1 0, .val [] (.int .u8), .val [] (.int .i64), .rw 2, .val [] (.int .i64), .val [] (.int .i64), .val [] .bool]) (b := [.vars [.val [] (.int .i64), .val [] .bool, .val [] .bool, .val [] .bool], .arr [] .bool]) (G := fun ws rs => inner T an25 (modesOf F) 0 k 35 (S25 k) (ending T Try.f25 an25 0 K) cd25_1000008 (sh sp25_1000008 ws rs) N X) (fun x y => Eq.trans (by kernel_rfl) (innerS_eq T an25 (modesOf F) 0 k 35 (S25 k) (L25 k K) cd25_1000008 (l := []) (by kernel_rfl) trivial _ N X)) ws rs
theorem b25_0 (rec : St → Option R) (N : St → Option R) (X : Nat → St → Option R) (v0_1 : Int) (v0_3 : Int) (v0_4 : Bool) (v0_5 : Bool) (v0_6 : Bool) (v0_7 : List Bool) (v0_0 : Int) (v0_2 : Int) :
    execS T an25 (modesOf F) 0 k 35 (S25 k) (L25 k K) (ending T Try.f25 an25 0 K) bd25_0 (sh sp25_0 [.ptr 1 0, .val [] (.int .u8) v0_0, .rw 2, .val [] (.int .i64) v0_1, .val [] (.int .i64) v0_2] [⟨0, .vars [.val [] (.int .i64) v0_3, .val [] .bool v0_4, .val [] .bool v0_5, .val [] .bool v0_6]⟩, ⟨0, .arr [] .bool v0_7⟩]) (fun st => atHead an25 0 bd25_0 st rec) (outX an25 0 0 N X) =
      f25_0b k (fun v0_0 v0_2 => rec (sh sp25_0 [.ptr 1 0, .val [] (.int .u8) v0_0, .rw 2, .val [] (.int .i64) v0_1, .val [] (.int .i64) v0_2] [⟨0, .vars [.val [] (.int .i64) v0_3, .val [] .bool v0_4, .val [] .bool v0_5, .val [] .bool v0_6]⟩, ⟨0, .arr [] .bool v0_7⟩])) (fun y0_0 => N (sh jn25_0 [.ptr 1 0, .val [] (.int .u8) y0_0] [⟨0, .vars [.val [] (.int .i64) v0_3, .val [] .bool v0_4, .val [] .bool v0_5, .val [] .bool v0_6]⟩])) v0_1 v0_3 v0_4 v0_5 v0_6 v0_7 v0_0 v0_2 := by kernel_rfl
theorem i25_0 (N : St → Option R) (X : Nat → St → Option R) (v0_1 : Int) (v0_3 : Int) (v0_4 : Bool) (v0_5 : Bool) (v0_6 : Bool) (v0_7 : List Bool) (m : Nat) : ∀ (v0_0 : Int) (v0_2 : Int),
    iter (atHead an25 0 bd25_0) m (fun st N' => exec T an25 (modesOf F) 0 k 35 (S25 k) (ending T Try.f25 an25 0 K) bd25_0 st N' (outX an25 0 0 N X)) (sh sp25_0 [.ptr 1 0, .val [] (.int .u8) v0_0, .rw 2, .val [] (.int .i64) v0_1, .val [] (.int .i64) v0_2] [⟨0, .vars [.val [] (.int .i64) v0_3, .val [] .bool v0_4, .val [] .bool v0_5, .val [] .bool v0_6]⟩, ⟨0, .arr [] .bool v0_7⟩]) = f25_0d k (fun y0_0 => N (sh jn25_0 [.ptr 1 0, .val [] (.int .u8) y0_0] [⟨0, .vars [.val [] (.int .i64) v0_3, .val [] .bool v0_4, .val [] .bool v0_5, .val [] .bool v0_6]⟩])) v0_1 v0_3 v0_4 v0_5 v0_6 v0_7 m v0_0 v0_2 := by
  induction m with
  | zero => intros; rfl
  | succ m ih =>
    intro v0_0 v0_2
    simp only [iter]
    rw [← execS_eq T an25 (modesOf F) 0 k 35 (S25 k) (L25 k K) bd25_0 (cuts_of _ _ _ _ _ _ _ _ bd25_0 (l := [(1000008, sp25_1000008, cd25_1000008)]) (by kernel_rfl) ⟨l25_1000008 k K, trivial⟩)]
    refine (b25_0 k K _ N X v0_1 v0_3 v0_4 v0_5 v0_6 v0_7 v0_0 v0_2).trans ?_
    simp only [f25_0d, ih]
theorem l25_0 (ws : List PV) (rs : List RowS) (N : St → Option R) (X : Nat → St → Option R) : L25 k K 0 ws rs N X = inner T an25 (modesOf F) 0 k 35 (S25 k) (ending T Try.f25 an25 0 K) cd25_0 (sh sp25_0 ws rs) N X := by
  show L25_0 k K ws rs N X = _
  unfold L25_0
  rw [f25_0_def]
  exact onShape_eq (a := [.ptr 1 0, .val [] (.int .u8), .rw 2, .val [] (.int .i64), .val [] (.int .i64)]) (b := [.vars [.val [] (.int .i64), .val [] .bool, .val [] .bool, .val [] .bool], .arr [] .bool]) (G := fun ws rs => inner T an25 (modesOf F) 0 k 35 (S25 k) (ending T Try.f25 an25 0 K) cd25_0 (sh sp25_0 ws rs) N X) (fun x y => Eq.trans (by kernel_rfl) (Eq.trans (i25_0 k K N X x.2.2.2.1 y.1.1 y.1.2.1 y.1.2.2.1 y.1.2.2.2.1 y.2.1 k x.2.1 x.2.2.2.2.1).symm (by kernel_rfl))) ws rs
end
theorem e25 (k : Nat) (a0 : Int) (a1 : Bool) (a2 : Bool) (a3 : Bool) (K : List PV → List RowS → Option R) : callC T F k 25 [.agg [.val [] (.int .i64) a0, .val [] .bool a1, .val [] .bool a2, .val [] .bool a3]] [] K = f25 k a0 a1 a2 a3 (fun z0 z1 => K [.rw 1, .val [] (.int .i64) z0] [⟨0, .arr [] (.int .u8) z1⟩]) := by
  rw [f25_def]
  cases k with
  | zero => rfl
  | succ k =>
    refine Eq.trans (show _ = exec T an25 (modesOf F) 0 k 35 (callC T F k) (ending T Try.f25 an25 0 K) (bodyOf Try.f25) ⟨argEnv 0 [.agg [.val [] (.int .i64) a0, .val [] .bool a1, .val [] .bool a2, .val [] .bool a3]] (fun _ => none), rowsOf []⟩ (ending T Try.f25 an25 0 K) (fun _ _ => none) from by kernel_rfl) ?_
    rw [← S25_eq k, ← execS_eq T an25 (modesOf F) 0 k 35 (S25 k) (L25 k K) (bodyOf Try.f25) (cuts_of _ _ _ _ _ _ _ _ (bodyOf Try.f25) (l := [(0, sp25_0, cd25_0)]) (by kernel_rfl) ⟨l25_0 k K, trivial⟩)]
    kernel_rfl
noncomputable def s25 (k : Nat) (a : List PV) (r : List RowS) (K : List PV → List RowS → Option R) : Option R :=
  onShape [.agg [.val [] (.int .i64), .val [] .bool, .val [] .bool, .val [] .bool]] [] (fun v => f25 k v.1.1.1 v.1.1.2.1 v.1.1.2.2.1 v.1.1.2.2.2.1 (fun z0 z1 => K [.rw 1, .val [] (.int .i64) z0] [⟨0, .arr [] (.int .u8) z1⟩])) (callC T F k 25 a r K) a r
theorem s25_eq (k : Nat) (a : List PV) (r : List RowS) (K : List PV → List RowS → Option R) : s25 k a r K = callC T F k 25 a r K := by
  unfold s25
  exact onShape_eq (a := [.agg [.val [] (.int .i64), .val [] .bool, .val [] .bool, .val [] .bool]]) (b := []) (G := fun a r => callC T F k 25 a r K) (fun x y => Eq.trans (by kernel_rfl) (Eq.trans (e25 k x.1.1 x.1.2.1 x.1.2.2.1 x.1.2.2.2.1 K).symm (by kernel_rfl))) a r
end
section
variable {R : Type}
noncomputable def S24 (k g : Nat) (a : List PV) (r : List RowS) (K : List PV → List RowS → Option R) : Option R := callC T F k g a r K
theorem S24_eq (k : Nat) : S24 (R := R) k = callC T F k := by
  funext g a r K
  exact rfl
section
variable {R : Type} (k : Nat) (K : List PV → List RowS → Option R)
noncomputable def L24_0 (ws : List PV) (rs : List RowS) (N : St → Option R) (X : Nat → St → Option R) : Option R :=
  onShape [.val [(0, 0)] (.slice (.int .u8)), .val [(0, 0)] (.slice (.int .u8)), .val [] (.int .i64), .val [] (.int .i64)] [] (fun v => f24_0 k (fun z0 => K [.val [] .bool z0] []) (N (sh jn24_0 [] [])) v.1.1 v.1.2.1 v.1.2.2.1 k v.1.2.2.2.1) (inner T an24 (modesOf F) 0 k 26 (S24 k) (ending T Try.f24 an24 0 K) cd24_0 (sh sp24_0 ws rs) N X) ws rs
noncomputable def L24 (id : Nat) (ws : List PV) (rs : List RowS) (N : St → Option R) (X : Nat → St → Option R) : Option R := bif id == 0 then L24_0 k K ws rs N X else none
theorem b24_0 (rec : St → Option R) (N : St → Option R) (X : Nat → St → Option R) (v0_0 : List Int) (v0_1 : List Int) (v0_2 : Int) (v0_3 : Int) :
    execS T an24 (modesOf F) 0 k 26 (S24 k) (L24 k K) (ending T Try.f24 an24 0 K) bd24_0 (sh sp24_0 [.val [(0, 0)] (.slice (.int .u8)) v0_0, .val [(0, 0)] (.slice (.int .u8)) v0_1, .val [] (.int .i64) v0_2, .val [] (.int .i64) v0_3] []) (fun st => atHead an24 0 bd24_0 st rec) (outX an24 0 0 N X) =
      f24_0b k (fun v0_3 => rec (sh sp24_0 [.val [(0, 0)] (.slice (.int .u8)) v0_0, .val [(0, 0)] (.slice (.int .u8)) v0_1, .val [] (.int .i64) v0_2, .val [] (.int .i64) v0_3] [])) (fun z0 => K [.val [] .bool z0] []) (N (sh jn24_0 [] [])) v0_0 v0_1 v0_2 v0_3 := by kernel_rfl
theorem i24_0 (N : St → Option R) (X : Nat → St → Option R) (v0_0 : List Int) (v0_1 : List Int) (v0_2 : Int) (m : Nat) : ∀ (v0_3 : Int),
    iter (atHead an24 0 bd24_0) m (fun st N' => exec T an24 (modesOf F) 0 k 26 (S24 k) (ending T Try.f24 an24 0 K) bd24_0 st N' (outX an24 0 0 N X)) (sh sp24_0 [.val [(0, 0)] (.slice (.int .u8)) v0_0, .val [(0, 0)] (.slice (.int .u8)) v0_1, .val [] (.int .i64) v0_2, .val [] (.int .i64) v0_3] []) = f24_0d k (fun z0 => K [.val [] .bool z0] []) (N (sh jn24_0 [] [])) v0_0 v0_1 v0_2 m v0_3 := by
  induction m with
  | zero => intros; rfl
  | succ m ih =>
    intro v0_3
    simp only [iter]
    rw [← execS_eq T an24 (modesOf F) 0 k 26 (S24 k) (L24 k K) bd24_0 (cuts_of _ _ _ _ _ _ _ _ bd24_0 (l := []) (by kernel_rfl) trivial)]
    refine (b24_0 k K _ N X v0_0 v0_1 v0_2 v0_3).trans ?_
    simp only [f24_0d, ih]
theorem l24_0 (ws : List PV) (rs : List RowS) (N : St → Option R) (X : Nat → St → Option R) : L24 k K 0 ws rs N X = inner T an24 (modesOf F) 0 k 26 (S24 k) (ending T Try.f24 an24 0 K) cd24_0 (sh sp24_0 ws rs) N X := by
  show L24_0 k K ws rs N X = _
  unfold L24_0
  rw [f24_0_def]
  exact onShape_eq (a := [.val [(0, 0)] (.slice (.int .u8)), .val [(0, 0)] (.slice (.int .u8)), .val [] (.int .i64), .val [] (.int .i64)]) (b := []) (G := fun ws rs => inner T an24 (modesOf F) 0 k 26 (S24 k) (ending T Try.f24 an24 0 K) cd24_0 (sh sp24_0 ws rs) N X) (fun x y => Eq.trans (by kernel_rfl) (Eq.trans (i24_0 k K N X x.1 x.2.1 x.2.2.1 k x.2.2.2.1).symm (by kernel_rfl))) ws rs
end
theorem e24 (k : Nat) (a0 : List Int) (a1 : List Int) (K : List PV → List RowS → Option R) : callC T F k 24 [.val [(0, 0)] (.slice (.int .u8)) a0, .val [(0, 0)] (.slice (.int .u8)) a1] [] K = f24 k a0 a1 (fun z0 => K [.val [] .bool z0] []) := by
  rw [f24_def]
  cases k with
  | zero => rfl
  | succ k =>
    refine Eq.trans (show _ = exec T an24 (modesOf F) 0 k 26 (callC T F k) (ending T Try.f24 an24 0 K) (bodyOf Try.f24) ⟨argEnv 0 [.val [(0, 0)] (.slice (.int .u8)) a0, .val [(0, 0)] (.slice (.int .u8)) a1] (fun _ => none), rowsOf []⟩ (ending T Try.f24 an24 0 K) (fun _ _ => none) from by kernel_rfl) ?_
    rw [← S24_eq k, ← execS_eq T an24 (modesOf F) 0 k 26 (S24 k) (L24 k K) (bodyOf Try.f24) (cuts_of _ _ _ _ _ _ _ _ (bodyOf Try.f24) (l := [(0, sp24_0, cd24_0)]) (by kernel_rfl) ⟨l24_0 k K, trivial⟩)]
    kernel_rfl
noncomputable def s24 (k : Nat) (a : List PV) (r : List RowS) (K : List PV → List RowS → Option R) : Option R :=
  onShape [.val [(0, 0)] (.slice (.int .u8)), .val [(0, 0)] (.slice (.int .u8))] [] (fun v => f24 k v.1.1 v.1.2.1 (fun z0 => K [.val [] .bool z0] [])) (callC T F k 24 a r K) a r
theorem s24_eq (k : Nat) (a : List PV) (r : List RowS) (K : List PV → List RowS → Option R) : s24 k a r K = callC T F k 24 a r K := by
  unfold s24
  exact onShape_eq (a := [.val [(0, 0)] (.slice (.int .u8)), .val [(0, 0)] (.slice (.int .u8))]) (b := []) (G := fun a r => callC T F k 24 a r K) (fun x y => Eq.trans (by kernel_rfl) (Eq.trans (e24 k x.1 x.2.1 K).symm (by kernel_rfl))) a r
end
section
variable {R : Type}
noncomputable def S21 (k g : Nat) (a : List PV) (r : List RowS) (K : List PV → List RowS → Option R) : Option R := bif g == 24 then s24 k a r K else bif g == 25 then s25 k a r K else callC T F k g a r K
theorem S21_eq (k : Nat) : S21 (R := R) k = callC T F k := by
  funext g a r K
  exact pick_eq (fun e => by subst e; exact s24_eq k a r K) (pick_eq (fun e => by subst e; exact s25_eq k a r K) (rfl))
theorem e21 (k : Nat) (K : List PV → List RowS → Option R) : callC T F k 21 [] [] K = f21 k (fun z0 => K [.val [] .bool z0] []) := by
  rw [f21_def]
  cases k with
  | zero => rfl
  | succ k =>
    refine Eq.trans (show _ = exec T an21 (modesOf F) 0 k 15 (callC T F k) (ending T Try.f21 an21 0 K) (bodyOf Try.f21) ⟨argEnv 0 [] (fun _ => none), rowsOf []⟩ (ending T Try.f21 an21 0 K) (fun _ _ => none) from by kernel_rfl) ?_
    rw [← S21_eq k, ← execS_eq T an21 (modesOf F) 0 k 15 (S21 k) (fun _ _ _ _ _ => none) (bodyOf Try.f21) (cuts_of _ _ _ _ _ _ _ _ (bodyOf Try.f21) (l := []) (by kernel_rfl) trivial)]
    kernel_rfl
noncomputable def s21 (k : Nat) (a : List PV) (r : List RowS) (K : List PV → List RowS → Option R) : Option R :=
  onShape [] [] (fun v => f21 k (fun z0 => K [.val [] .bool z0] [])) (callC T F k 21 a r K) a r
theorem s21_eq (k : Nat) (a : List PV) (r : List RowS) (K : List PV → List RowS → Option R) : s21 k a r K = callC T F k 21 a r K := by
  unfold s21
  exact onShape_eq (a := []) (b := []) (G := fun a r => callC T F k 21 a r K) (fun x y => Eq.trans (by kernel_rfl) (Eq.trans (e21 k K).symm (by kernel_rfl))) a r
end
section
variable {R : Type}
noncomputable def S74 (k g : Nat) (a : List PV) (r : List RowS) (K : List PV → List RowS → Option R) : Option R := bif g == 62 then s62 k a r K else callC T F k g a r K
theorem S74_eq (k : Nat) : S74 (R := R) k = callC T F k := by
  funext g a r K
  exact pick_eq (fun e => by subst e; exact s62_eq k a r K) (rfl)
theorem e74 (k : Nat) (a0 : Int) (a1 : Int) (a2 : Int) (K : List PV → List RowS → Option R) : callC T F k 74 [.val [] (.int .i64) a0, .val [] (.int .i64) a1, .val [] (.int .i64) a2] [] K = f74 k a0 a1 a2 (fun z0 => K [.val [] (.int .i64) z0] []) := by
  rw [f74_def]
  cases k with
  | zero => rfl
  | succ k =>
    refine Eq.trans (show _ = exec T an74 (modesOf F) 0 k 12 (callC T F k) (ending T Try.f74 an74 0 K) (bodyOf Try.f74) ⟨argEnv 0 [.val [] (.int .i64) a0, .val [] (.int .i64) a1, .val [] (.int .i64) a2] (fun _ => none), rowsOf []⟩ (ending T Try.f74 an74 0 K) (fun _ _ => none) from by kernel_rfl) ?_
    rw [← S74_eq k, ← execS_eq T an74 (modesOf F) 0 k 12 (S74 k) (fun _ _ _ _ _ => none) (bodyOf Try.f74) (cuts_of _ _ _ _ _ _ _ _ (bodyOf Try.f74) (l := []) (by kernel_rfl) trivial)]
    kernel_rfl
noncomputable def s74 (k : Nat) (a : List PV) (r : List RowS) (K : List PV → List RowS → Option R) : Option R :=
  onShape [.val [] (.int .i64), .val [] (.int .i64), .val [] (.int .i64)] [] (fun v => f74 k v.1.1 v.1.2.1 v.1.2.2.1 (fun z0 => K [.val [] (.int .i64) z0] [])) (callC T F k 74 a r K) a r
theorem s74_eq (k : Nat) (a : List PV) (r : List RowS) (K : List PV → List RowS → Option R) : s74 k a r K = callC T F k 74 a r K := by
  unfold s74
  exact onShape_eq (a := [.val [] (.int .i64), .val [] (.int .i64), .val [] (.int .i64)]) (b := []) (G := fun a r => callC T F k 74 a r K) (fun x y => Eq.trans (by kernel_rfl) (Eq.trans (e74 k x.1 x.2.1 x.2.2.1 K).symm (by kernel_rfl))) a r
end
section
variable {R : Type}
noncomputable def S70 (k g : Nat) (a : List PV) (r : List RowS) (K : List PV → List RowS → Option R) : Option R := callC T F k g a r K
theorem S70_eq (k : Nat) : S70 (R := R) k = callC T F k := by
  funext g a r K
  exact rfl
theorem e70 (k : Nat) (a0 : List Int) (K : List PV → List RowS → Option R) : callC T F k 70 [.val [(0, 0)] (.slice (.int .u8)) a0] [] K = f70 k a0 (fun z0 => K [.val [] (.int .i64) z0] []) := by
  rw [f70_def]
  cases k with
  | zero => rfl
  | succ k =>
    refine Eq.trans (show _ = exec T an70 (modesOf F) 0 k 11 (callC T F k) (ending T Try.f70 an70 0 K) (bodyOf Try.f70) ⟨argEnv 0 [.val [(0, 0)] (.slice (.int .u8)) a0] (fun _ => none), rowsOf []⟩ (ending T Try.f70 an70 0 K) (fun _ _ => none) from by kernel_rfl) ?_
    rw [← S70_eq k, ← execS_eq T an70 (modesOf F) 0 k 11 (S70 k) (fun _ _ _ _ _ => none) (bodyOf Try.f70) (cuts_of _ _ _ _ _ _ _ _ (bodyOf Try.f70) (l := []) (by kernel_rfl) trivial)]
    kernel_rfl
noncomputable def s70 (k : Nat) (a : List PV) (r : List RowS) (K : List PV → List RowS → Option R) : Option R :=
  onShape [.val [(0, 0)] (.slice (.int .u8))] [] (fun v => f70 k v.1.1 (fun z0 => K [.val [] (.int .i64) z0] [])) (callC T F k 70 a r K) a r
theorem s70_eq (k : Nat) (a : List PV) (r : List RowS) (K : List PV → List RowS → Option R) : s70 k a r K = callC T F k 70 a r K := by
  unfold s70
  exact onShape_eq (a := [.val [(0, 0)] (.slice (.int .u8))]) (b := []) (G := fun a r => callC T F k 70 a r K) (fun x y => Eq.trans (by kernel_rfl) (Eq.trans (e70 k x.1 K).symm (by kernel_rfl))) a r
end
section
variable {R : Type}
noncomputable def S65 (k g : Nat) (a : List PV) (r : List RowS) (K : List PV → List RowS → Option R) : Option R := callC T F k g a r K
theorem S65_eq (k : Nat) : S65 (R := R) k = callC T F k := by
  funext g a r K
  exact rfl
section
variable {R : Type} (k : Nat) (K : List PV → List RowS → Option R)
noncomputable def L65_0 (ws : List PV) (rs : List RowS) (N : St → Option R) (X : Nat → St → Option R) : Option R :=
  onShape [.val [(0, 0)] (.slice (.int .i64)), .val [] (.int .i64), .val [] (.int .i64)] [] (fun v => f65_0 k (fun z0 => K [.val [] (.int .i64) z0] []) (N (sh jn65_0 [] [])) v.1.1 v.1.2.1 k v.1.2.2.1) (inner T an65 (modesOf F) 0 k 15 (S65 k) (ending T Try.f65 an65 0 K) cd65_0 (sh sp65_0 ws rs) N X) ws rs
noncomputable def L65 (id : Nat) (ws : List PV) (rs : List RowS) (N : St → Option R) (X : Nat → St → Option R) : Option R := bif id == 0 then L65_0 k K ws rs N X else none
theorem b65_0 (rec : St → Option R) (N : St → Option R) (X : Nat → St → Option R) (v0_0 : List Int) (v0_1 : Int) (v0_2 : Int) :
    execS T an65 (modesOf F) 0 k 15 (S65 k) (L65 k K) (ending T Try.f65 an65 0 K) bd65_0 (sh sp65_0 [.val [(0, 0)] (.slice (.int .i64)) v0_0, .val [] (.int .i64) v0_1, .val [] (.int .i64) v0_2] []) (fun st => atHead an65 0 bd65_0 st rec) (outX an65 0 0 N X) =
      f65_0b k (fun v0_2 => rec (sh sp65_0 [.val [(0, 0)] (.slice (.int .i64)) v0_0, .val [] (.int .i64) v0_1, .val [] (.int .i64) v0_2] [])) (fun z0 => K [.val [] (.int .i64) z0] []) (N (sh jn65_0 [] [])) v0_0 v0_1 v0_2 := by kernel_rfl
theorem i65_0 (N : St → Option R) (X : Nat → St → Option R) (v0_0 : List Int) (v0_1 : Int) (m : Nat) : ∀ (v0_2 : Int),
    iter (atHead an65 0 bd65_0) m (fun st N' => exec T an65 (modesOf F) 0 k 15 (S65 k) (ending T Try.f65 an65 0 K) bd65_0 st N' (outX an65 0 0 N X)) (sh sp65_0 [.val [(0, 0)] (.slice (.int .i64)) v0_0, .val [] (.int .i64) v0_1, .val [] (.int .i64) v0_2] []) = f65_0d k (fun z0 => K [.val [] (.int .i64) z0] []) (N (sh jn65_0 [] [])) v0_0 v0_1 m v0_2 := by
  induction m with
  | zero => intros; rfl
  | succ m ih =>
    intro v0_2
    simp only [iter]
    rw [← execS_eq T an65 (modesOf F) 0 k 15 (S65 k) (L65 k K) bd65_0 (cuts_of _ _ _ _ _ _ _ _ bd65_0 (l := []) (by kernel_rfl) trivial)]
    refine (b65_0 k K _ N X v0_0 v0_1 v0_2).trans ?_
    simp only [f65_0d, ih]
theorem l65_0 (ws : List PV) (rs : List RowS) (N : St → Option R) (X : Nat → St → Option R) : L65 k K 0 ws rs N X = inner T an65 (modesOf F) 0 k 15 (S65 k) (ending T Try.f65 an65 0 K) cd65_0 (sh sp65_0 ws rs) N X := by
  show L65_0 k K ws rs N X = _
  unfold L65_0
  rw [f65_0_def]
  exact onShape_eq (a := [.val [(0, 0)] (.slice (.int .i64)), .val [] (.int .i64), .val [] (.int .i64)]) (b := []) (G := fun ws rs => inner T an65 (modesOf F) 0 k 15 (S65 k) (ending T Try.f65 an65 0 K) cd65_0 (sh sp65_0 ws rs) N X) (fun x y => Eq.trans (by kernel_rfl) (Eq.trans (i65_0 k K N X x.1 x.2.1 k x.2.2.1).symm (by kernel_rfl))) ws rs
end
theorem e65 (k : Nat) (a0 : List Int) (K : List PV → List RowS → Option R) : callC T F k 65 [.val [(0, 0)] (.slice (.int .i64)) a0] [] K = f65 k a0 (fun z0 => K [.val [] (.int .i64) z0] []) := by
  rw [f65_def]
  cases k with
  | zero => rfl
  | succ k =>
    refine Eq.trans (show _ = exec T an65 (modesOf F) 0 k 15 (callC T F k) (ending T Try.f65 an65 0 K) (bodyOf Try.f65) ⟨argEnv 0 [.val [(0, 0)] (.slice (.int .i64)) a0] (fun _ => none), rowsOf []⟩ (ending T Try.f65 an65 0 K) (fun _ _ => none) from by kernel_rfl) ?_
    rw [← S65_eq k, ← execS_eq T an65 (modesOf F) 0 k 15 (S65 k) (L65 k K) (bodyOf Try.f65) (cuts_of _ _ _ _ _ _ _ _ (bodyOf Try.f65) (l := [(0, sp65_0, cd65_0)]) (by kernel_rfl) ⟨l65_0 k K, trivial⟩)]
    kernel_rfl
noncomputable def s65 (k : Nat) (a : List PV) (r : List RowS) (K : List PV → List RowS → Option R) : Option R :=
  onShape [.val [(0, 0)] (.slice (.int .i64))] [] (fun v => f65 k v.1.1 (fun z0 => K [.val [] (.int .i64) z0] [])) (callC T F k 65 a r K) a r
theorem s65_eq (k : Nat) (a : List PV) (r : List RowS) (K : List PV → List RowS → Option R) : s65 k a r K = callC T F k 65 a r K := by
  unfold s65
  exact onShape_eq (a := [.val [(0, 0)] (.slice (.int .i64))]) (b := []) (G := fun a r => callC T F k 65 a r K) (fun x y => Eq.trans (by kernel_rfl) (Eq.trans (e65 k x.1 K).symm (by kernel_rfl))) a r
end
section
variable {R : Type}
noncomputable def S82 (k g : Nat) (a : List PV) (r : List RowS) (K : List PV → List RowS → Option R) : Option R := callC T F k g a r K
theorem S82_eq (k : Nat) : S82 (R := R) k = callC T F k := by
  funext g a r K
  exact rfl
section
variable {R : Type} (k : Nat) (K : List PV → List RowS → Option R)
noncomputable def L82_0 (ws : List PV) (rs : List RowS) (N : St → Option R) (X : Nat → St → Option R) : Option R :=
  onShape [.val [] (.int .u64), .rw 1, .val [] (.int .i64)] [.arr [] (.int .u8)] (fun v => f82_0 k (fun y0_0 => N (sh jn82_0 [.rw 1] [⟨0, .arr [] (.int .u8) y0_0⟩])) v.1.1 k v.1.2.2.1 v.2.1) (inner T an82 (modesOf F) 0 k 17 (S82 k) (ending T Try.f82 an82 0 K) cd82_0 (sh sp82_0 ws rs) N X) ws rs
noncomputable def L82 (id : Nat) (ws : List PV) (rs : List RowS) (N : St → Option R) (X : Nat → St → Option R) : Option R := bif id == 0 then L82_0 k K ws rs N X else none
theorem b82_0 (rec : St → Option R) (N : St → Option R) (X : Nat → St → Option R) (v0_0 : Int) (v0_1 : Int) (v0_2 : List Int) :
    execS T an82 (modesOf F) 0 k 17 (S82 k) (L82 k K) (ending T Try.f82 an82 0 K) bd82_0 (sh sp82_0 [.val [] (.int .u64) v0_0, .rw 1, .val [] (.int .i64) v0_1] [⟨0, .arr [] (.int .u8) v0_2⟩]) (fun st => atHead an82 0 bd82_0 st rec) (outX an82 0 0 N X) =
      f82_0b k (fun v0_1 v0_2 => rec (sh sp82_0 [.val [] (.int .u64) v0_0, .rw 1, .val [] (.int .i64) v0_1] [⟨0, .arr [] (.int .u8) v0_2⟩])) (fun y0_0 => N (sh jn82_0 [.rw 1] [⟨0, .arr [] (.int .u8) y0_0⟩])) v0_0 v0_1 v0_2 := by kernel_rfl
theorem i82_0 (N : St → Option R) (X : Nat → St → Option R) (v0_0 : Int) (m : Nat) : ∀ (v0_1 : Int) (v0_2 : List Int),
    iter (atHead an82 0 bd82_0) m (fun st N' => exec T an82 (modesOf F) 0 k 17 (S82 k) (ending T Try.f82 an82 0 K) bd82_0 st N' (outX an82 0 0 N X)) (sh sp82_0 [.val [] (.int .u64) v0_0, .rw 1, .val [] (.int .i64) v0_1] [⟨0, .arr [] (.int .u8) v0_2⟩]) = f82_0d k (fun y0_0 => N (sh jn82_0 [.rw 1] [⟨0, .arr [] (.int .u8) y0_0⟩])) v0_0 m v0_1 v0_2 := by
  induction m with
  | zero => intros; rfl
  | succ m ih =>
    intro v0_1 v0_2
    simp only [iter]
    rw [← execS_eq T an82 (modesOf F) 0 k 17 (S82 k) (L82 k K) bd82_0 (cuts_of _ _ _ _ _ _ _ _ bd82_0 (l := []) (by kernel_rfl) trivial)]
    refine (b82_0 k K _ N X v0_0 v0_1 v0_2).trans ?_
    simp only [f82_0d, ih]
theorem l82_0 (ws : List PV) (rs : List RowS) (N : St → Option R) (X : Nat → St → Option R) : L82 k K 0 ws rs N X = inner T an82 (modesOf F) 0 k 17 (S82 k) (ending T Try.f82 an82 0 K) cd82_0 (sh sp82_0 ws rs) N X := by
  show L82_0 k K ws rs N X = _
  unfold L82_0
  rw [f82_0_def]
  exact onShape_eq (a := [.val [] (.int .u64), .rw 1, .val [] (.int .i64)]) (b := [.arr [] (.int .u8)]) (G := fun ws rs => inner T an82 (modesOf F) 0 k 17 (S82 k) (ending T Try.f82 an82 0 K) cd82_0 (sh sp82_0 ws rs) N X) (fun x y => Eq.trans (by kernel_rfl) (Eq.trans (i82_0 k K N X x.1 k x.2.2.1 y.1).symm (by kernel_rfl))) ws rs
end
theorem e82 (k : Nat) (a0 : Int) (K : List PV → List RowS → Option R) : callC T F k 82 [.val [] (.int .u64) a0] [] K = f82 k a0 (fun z0 => K [.rw 1] [⟨0, .arr [] (.int .u8) z0⟩]) := by
  rw [f82_def]
  cases k with
  | zero => rfl
  | succ k =>
    refine Eq.trans (show _ = exec T an82 (modesOf F) 0 k 17 (callC T F k) (ending T Try.f82 an82 0 K) (bodyOf Try.f82) ⟨argEnv 0 [.val [] (.int .u64) a0] (fun _ => none), rowsOf []⟩ (ending T Try.f82 an82 0 K) (fun _ _ => none) from by kernel_rfl) ?_
    rw [← S82_eq k, ← execS_eq T an82 (modesOf F) 0 k 17 (S82 k) (L82 k K) (bodyOf Try.f82) (cuts_of _ _ _ _ _ _ _ _ (bodyOf Try.f82) (l := [(0, sp82_0, cd82_0)]) (by kernel_rfl) ⟨l82_0 k K, trivial⟩)]
    kernel_rfl
noncomputable def s82 (k : Nat) (a : List PV) (r : List RowS) (K : List PV → List RowS → Option R) : Option R :=
  onShape [.val [] (.int .u64)] [] (fun v => f82 k v.1.1 (fun z0 => K [.rw 1] [⟨0, .arr [] (.int .u8) z0⟩])) (callC T F k 82 a r K) a r
theorem s82_eq (k : Nat) (a : List PV) (r : List RowS) (K : List PV → List RowS → Option R) : s82 k a r K = callC T F k 82 a r K := by
  unfold s82
  exact onShape_eq (a := [.val [] (.int .u64)]) (b := []) (G := fun a r => callC T F k 82 a r K) (fun x y => Eq.trans (by kernel_rfl) (Eq.trans (e82 k x.1 K).symm (by kernel_rfl))) a r
end
section
variable {R : Type}
noncomputable def S101 (k g : Nat) (a : List PV) (r : List RowS) (K : List PV → List RowS → Option R) : Option R := callC T F k g a r K
theorem S101_eq (k : Nat) : S101 (R := R) k = callC T F k := by
  funext g a r K
  exact rfl
section
variable {R : Type} (k : Nat) (K : List PV → List RowS → Option R)
noncomputable def L101_1000002 (ws : List PV) (rs : List RowS) (N : St → Option R) (X : Nat → St → Option R) : Option R :=
  onShape [.nils, .val [] (.int .i64), .val [] .bool] [] (fun v => f101_1000002 k (N (sh fi101_2 [.nils, .val [] (.int .i64) v.1.2.1] [])) v.1.2.1 v.1.2.2.1) (inner T an101 (modesOf F) 0 k 27 (S101 k) (ending T Try.f101 an101 0 K) cd101_1000002 (sh sp101_1000002 ws rs) N X) ws rs
noncomputable def L101_1000005 (ws : List PV) (rs : List RowS) (N : St → Option R) (X : Nat → St → Option R) : Option R :=
  onShape [.nils, .val [] (.int .i64), .val [] .bool] [] (fun v => f101_1000005 k (fun yN_0 => N (sh fi101_5 [.rw 1] [⟨0, .arr [] (.int .u8) yN_0⟩])) v.1.2.1 v.1.2.2.1) (inner T an101 (modesOf F) 0 k 27 (S101 k) (ending T Try.f101 an101 0 K) cd101_1000005 (sh sp101_1000005 ws rs) N X) ws rs
noncomputable def L101 (id : Nat) (ws : List PV) (rs : List RowS) (N : St → Option R) (X : Nat → St → Option R) : Option R := bif id == 1000002 then L101_1000002 k K ws rs N X else bif id == 1000005 then L101_1000005 k K ws rs N X else none
theorem l101_1000002 (ws : List PV) (rs : List RowS) (N : St → Option R) (X : Nat → St → Option R) : L101 k K 1000002 ws rs N X = inner T an101 (modesOf F) 0 k 27 (S101 k) (ending T Try.f101 an101 0 K) cd101_1000002 (sh sp101_1000002 ws rs) N X := by
  show L101_1000002 k K ws rs N X = _
  unfold L101_1000002
  rw [f101_1000002_def]
  exact onShape_eq (a := [.nils, .val [] (.int .i64), .val [] .bool]) (b := []) (G := fun ws rs => inner T an101 (modesOf F) 0 k 27 (S101 k) (ending T Try.f101 an101 0 K) cd101_1000002 (sh sp101_1000002 ws rs) N X) (fun x y => Eq.trans (by kernel_rfl) (innerS_eq T an101 (modesOf F) 0 k 27 (S101 k) (L101 k K) cd101_1000002 (l := []) (by kernel_rfl) trivial _ N X)) ws rs
theorem l101_1000005 (ws : List PV) (rs : List RowS) (N : St → Option R) (X : Nat → St → Option R) : L101 k K 1000005 ws rs N X = inner T an101 (modesOf F) 0 k 27 (S101 k) (ending T Try.f101 an101 0 K) cd101_1000005 (sh sp101_1000005 ws rs) N X := by
  show L101_1000005 k K ws rs N X = _
  unfold L101_1000005
  rw [f101_1000005_def]
  exact onShape_eq (a := [.nils, .val [] (.int .i64), .val [] .bool]) (b := []) (G := fun ws rs => inner T an101 (modesOf F) 0 k 27 (S101 k) (ending T Try.f101 an101 0 K) cd101_1000005 (sh sp101_1000005 ws rs) N X) (fun x y => Eq.trans (by kernel_rfl) (innerS_eq T an101 (modesOf F) 0 k 27 (S101 k) (L101 k K) cd101_1000005 (l := []) (by kernel_rfl) trivial _ N X)) ws rs
end
theorem e101 (k : Nat) (a0 : Int) (K : List PV → List RowS → Option R) : callC T F k 101 [.nils, .val [] (.int .i64) a0] [] K = f101 k a0 (fun z0 => K [.rw 1] [⟨0, .arr [] (.int .u8) z0⟩]) := by
  rw [f101_def]
  cases k with
  | zero => rfl
  | succ k =>
    refine Eq.trans (show _ = exec T an101 (modesOf F) 0 k 27 (callC T F k) (ending T Try.f101 an101 0 K) (bodyOf Try.f101) ⟨argEnv 0 [.nils, .val [] (.int .i64) a0] (fun _ => none), rowsOf []⟩ (ending T Try.f101 an101 0 K) (fun _ _ => none) from by kernel_rfl) ?_
    rw [← S101_eq k, ← execS_eq T an101 (modesOf F) 0 k 27 (S101 k) (L101 k K) (bodyOf Try.f101) (cuts_of _ _ _ _ _ _ _ _ (bodyOf Try.f101) (l := [(1000002, sp101_1000002, cd101_1000002), (1000005, sp101_1000005, cd101_1000005)]) (by kernel_rfl) ⟨l101_1000002 k K, l101_1000005 k K, trivial⟩)]
    kernel_rfl
noncomputable def s101 (k : Nat) (a : List PV) (r : List RowS) (K : List PV → List RowS → Option R) : Option R :=
  onShape [.nils, .val [] (.int .i64)] [] (fun v => f101 k v.1.2.1 (fun z0 => K [.rw 1] [⟨0, .arr [] (.int .u8) z0⟩])) (callC T F k 101 a r K) a r
theorem s101_eq (k : Nat) (a : List PV) (r : List RowS) (K : List PV → List RowS → Option R) : s101 k a r K = callC T F k 101 a r K := by
  unfold s101
  exact onShape_eq (a := [.nils, .val [] (.int .i64)]) (b := []) (G := fun a r => callC T F k 101 a r K) (fun x y => Eq.trans (by kernel_rfl) (Eq.trans (e101 k x.2.1 K).symm (by kernel_rfl))) a r
end
section
variable {R : Type}
noncomputable def S96 (k g : Nat) (a : List PV) (r : List RowS) (K : List PV → List RowS → Option R) : Option R := bif g == 101 then s101 k a r K else callC T F k g a r K
theorem S96_eq (k : Nat) : S96 (R := R) k = callC T F k := by
  funext g a r K
  exact pick_eq (fun e => by subst e; exact s101_eq k a r K) (rfl)
section
variable {R : Type} (k : Nat) (K : List PV → List RowS → Option R)
noncomputable def L96_1000007 (ws : List PV) (rs : List RowS) (N : St → Option R) (X : Nat → St → Option R) : Option R :=
  onShape [.val [(0, 0)] (.slice (.slice (.int .u8))), .val [] (.int .i64), .val [(0, 0)] (.slice (.slice (.int .u8))), .val [] (.int .i64), .val [] (.int .i64), .val [] .bool] [] (fun v => f96_1000007 k (N (sh fi96_7 [.val [(0, 0)] (.slice (.slice (.int .u8))) v.1.1, .val [] (.int .i64) v.1.2.1, .val [(0, 0)] (.slice (.slice (.int .u8))) v.1.2.2.1, .val [] (.int .i64) v.1.2.2.2.1, .val [] (.int .i64) v.1.2.2.2.2.1] [])) v.1.1 v.1.2.1 v.1.2.2.1 v.1.2.2.2.1 v.1.2.2.2.2.1 v.1.2.2.2.2.2.1) (inner T an96 (modesOf F) 0 k 36 (S96 k) (ending T Try.f96 an96 0 K) cd96_1000007 (sh sp96_1000007 ws rs) N X) ws rs
noncomputable def L96_0 (ws : List PV) (rs : List RowS) (N : St → Option R) (X : Nat → St → Option R) : Option R :=
  onShape [.val [(0, 0)] (.slice (.slice (.int .u8))), .val [] (.int .i64), .val [(0, 0)] (.slice (.slice (.int .u8))), .val [] (.int .i64), .val [] (.int .i64)] [] (fun v => f96_0 k (fun y0_1 => N (sh jn96_0 [.val [(0, 0)] (.slice (.slice (.int .u8))) v.1.1, .val [] (.int .i64) y0_1] [])) v.1.1 v.1.2.2.1 v.1.2.2.2.1 k v.1.2.1 v.1.2.2.2.2.1) (inner T an96 (modesOf F) 0 k 36 (S96 k) (ending T Try.f96 an96 0 K) cd96_0 (sh sp96_0 ws rs) N X) ws rs
noncomputable def L96_2 (ws : List PV) (rs : List RowS) (N : St → Option R) (X : Nat → St → Option R) : Option R :=
  onShape [.rw 1, .val [(0, 0)] (.slice (.slice (.int .u8))), .val [] (.int .i64), .val [] (.int .i64)] [.arr [] (.int .u8)] (fun v => f96_2 k (fun y2_0 => N (sh jn96_2 [.rw 1] [⟨0, .arr [] (.int .u8) y2_0⟩])) v.1.2.1 v.1.2.2.1 k v.1.2.2.2.1 v.2.1) (inner T an96 (modesOf F) 0 k 36 (S96 k) (ending T Try.f96 an96 0 K) cd96_2 (sh sp96_2 ws rs) N X) ws rs
noncomputable def L96 (id : Nat) (ws : List PV) (rs : List RowS) (N : St → Option R) (X : Nat → St → Option R) : Option R := bif id == 1000007 then L96_1000007 k K ws rs N X else bif id == 0 then L96_0 k K ws rs N X else bif id == 2 then L96_2 k K ws rs N X else none
theorem l96_1000007 (ws : List PV) (rs : List RowS) (N : St → Option R) (X : Nat → St → Option R) : L96 k K 1000007 ws rs N X = inner T an96 (modesOf F) 0 k 36 (S96 k) (ending T Try.f96 an96 0 K) cd96_1000007 (sh sp96_1000007 ws rs) N X := by
  show L96_1000007 k K ws rs N X = _
  unfold L96_1000007
  rw [f96_1000007_def]
  exact onShape_eq (a := [.val [(0, 0)] (.slice (.slice (.int .u8))), .val [] (.int .i64), .val [(0, 0)] (.slice (.slice (.int .u8))), .val [] (.int .i64), .val [] (.int .i64), .val [] .bool]) (b := []) (G := fun ws rs => inner T an96 (modesOf F) 0 k 36 (S96 k) (ending T Try.f96 an96 0 K) cd96_1000007 (sh sp96_1000007 ws rs) N X) (fun x y => Eq.trans (by kernel_rfl) (innerS_eq T an96 (modesOf F) 0 k 36 (S96 k) (L96 k K) cd96_1000007 (l := []) (by kernel_rfl) trivial _ N X)) ws rs
theorem b96_0 (rec : St → Option R) (N : St → Option R) (X : Nat → St → Option R) (v0_0 : List (List Int)) (v0_2 : List (List Int)) (v0_3 : Int) (v0_1 : Int) (v0_4 : Int) :
    execS T an96 (modesOf F) 0 k 36 (S96 k) (L96 k K) (ending T Try.f96 an96 0 K) bd96_0 (sh sp96_0 [.val [(0, 0)] (.slice (.slice (.int .u8))) v0_0, .val [] (.int .i64) v0_1, .val [(0, 0)] (.slice (.slice (.int .u8))) v0_2, .val [] (.int .i64) v0_3, .val [] (.int .i64) v0_4] []) (fun st => atHead an96 0 bd96_0 st rec) (outX an96 0 0 N X) =
      f96_0b k (fun v0_1 v0_4 => rec (sh sp96_0 [.val [(0, 0)] (.slice (.slice (.int .u8))) v0_0, .val [] (.int .i64) v0_1, .val [(0, 0)] (.slice (.slice (.int .u8))) v0_2, .val [] (.int .i64) v0_3, .val [] (.int .i64) v0_4] [])) (fun y0_1 => N (sh jn96_0 [.val [(0, 0)] (.slice (.slice (.int .u8))) v0_0, .val [] (.int .i64) y0_1] [])) v0_0 v0_2 v0_3 v0_1 v0_4 := by kernel_rfl
theorem i96_0 (N : St → Option R) (X : Nat → St → Option R) (v0_0 : List (List Int)) (v0_2 : List (List Int)) (v0_3 : Int) (m : Nat) : ∀ (v0_1 : Int) (v0_4 : Int),
    iter (atHead an96 0 bd96_0) m (fun st N' => exec T an96 (modesOf F) 0 k 36 (S96 k) (ending T Try.f96 an96 0 K) bd96_0 st N' (outX an96 0 0 N X)) (sh sp96_0 [.val [(0, 0)] (.slice (.slice (.int .u8))) v0_0, .val [] (.int .i64) v0_1, .val [(0, 0)] (.slice (.slice (.int .u8))) v0_2, .val [] (.int .i64) v0_3, .val [] (.int .i64) v0_4] []) = f96_0d k (fun y0_1 => N (sh jn96_0 [.val [(0, 0)] (.slice (.slice (.int .u8))) v0_0, .val [] (.int .i64) y0_1] [])) v0_0 v0_2 v0_3 m v0_1 v0_4 := by
  induction m with
  | zero => intros; rfl
  | succ m ih =>
    intro v0_1 v0_4
    simp only [iter]
    rw [← execS_eq T an96 (modesOf F) 0 k 36 (S96 k) (L96 k K) bd96_0 (cuts_of _ _ _ _ _ _ _ _ bd96_0 (l := [(1000007, sp96_1000007, cd96_1000007)]) (by kernel_rfl) ⟨l96_1000007 k K, trivial⟩)]
    refine (b96_0 k K _ N X v0_0 v0_2 v0_3 v0_1 v0_4).trans ?_
    simp only [f96_0d, ih]
theorem l96_0 (ws : List PV) (rs : List RowS) (N : St → Option R) (X : Nat → St → Option R) : L96 k K 0 ws rs N X = inner T an96 (modesOf F) 0 k 36 (S96 k) (ending T Try.f96 an96 0 K) cd96_0 (sh sp96_0 ws rs) N X := by
  show L96_0 k K ws rs N X = _
  unfold L96_0
  rw [f96_0_def]
  exact onShape_eq (a := [.val [(0, 0)] (.slice (.slice (.int .u8))), .val [] (.int .i64), .val [(0, 0)] (.slice (.slice (.int .u8))), .val [] (.int .i64), .val [] (.int .i64)]) (b := []) (G := fun ws rs => inner T an96 (modesOf F) 0 k 36 (S96 k) (ending T Try.f96 an96 0 K) cd96_0 (sh sp96_0 ws rs) N X) (fun x y => Eq.trans (by kernel_rfl) (Eq.trans (i96_0 k K N X x.1 x.2.2.1 x.2.2.2.1 k x.2.1 x.2.2.2.2.1).symm (by kernel_rfl))) ws rs
theorem b96_2 (rec : St → Option R) (N : St → Option R) (X : Nat → St → Option R) (v2_0 : List (List Int)) (v2_1 : Int) (v2_2 : Int) (v2_3 : List Int) :
    execS T an96 (modesOf F) 0 k 36 (S96 k) (L96 k K) (ending T Try.f96 an96 0 K) bd96_2 (sh sp96_2 [.rw 1, .val [(0, 0)] (.slice (.slice (.int .u8))) v2_0, .val [] (.int .i64) v2_1, .val [] (.int .i64) v2_2] [⟨0, .arr [] (.int .u8) v2_3⟩]) (fun st => atHead an96 0 bd96_2 st rec) (outX an96 0 2 N X) =
      f96_2b k (fun v2_2 v2_3 => rec (sh sp96_2 [.rw 1, .val [(0, 0)] (.slice (.slice (.int .u8))) v2_0, .val [] (.int .i64) v2_1, .val [] (.int .i64) v2_2] [⟨0, .arr [] (.int .u8) v2_3⟩])) (fun y2_0 => N (sh jn96_2 [.rw 1] [⟨0, .arr [] (.int .u8) y2_0⟩])) v2_0 v2_1 v2_2 v2_3 := by kernel_rfl
theorem i96_2 (N : St → Option R) (X : Nat → St → Option R) (v2_0 : List (List Int)) (v2_1 : Int) (m : Nat) : ∀ (v2_2 : Int) (v2_3 : List Int),
    iter (atHead an96 0 bd96_2) m (fun st N' => exec T an96 (modesOf F) 0 k 36 (S96 k) (ending T Try.f96 an96 0 K) bd96_2 st N' (outX an96 0 2 N X)) (sh sp96_2 [.rw 1, .val [(0, 0)] (.slice (.slice (.int .u8))) v2_0, .val [] (.int .i64) v2_1, .val [] (.int .i64) v2_2] [⟨0, .arr [] (.int .u8) v2_3⟩]) = f96_2d k (fun y2_0 => N (sh jn96_2 [.rw 1] [⟨0, .arr [] (.int .u8) y2_0⟩])) v2_0 v2_1 m v2_2 v2_3 := by
  induction m with
  | zero => intros; rfl
  | succ m ih =>
    intro v2_2 v2_3
    simp only [iter]
    rw [← execS_eq T an96 (modesOf F) 0 k 36 (S96 k) (L96 k K) bd96_2 (cuts_of _ _ _ _ _ _ _ _ bd96_2 (l := []) (by kernel_rfl) trivial)]
    refine (b96_2 k K _ N X v2_0 v2_1 v2_2 v2_3).trans ?_
    simp only [f96_2d, ih]
theorem l96_2 (ws : List PV) (rs : List RowS) (N : St → Option R) (X : Nat → St → Option R) : L96 k K 2 ws rs N X = inner T an96 (modesOf F) 0 k 36 (S96 k) (ending T Try.f96 an96 0 K) cd96_2 (sh sp96_2 ws rs) N X := by
  show L96_2 k K ws rs N X = _
  unfold L96_2
  rw [f96_2_def]
  exact onShape_eq (a := [.rw 1, .val [(0, 0)] (.slice (.slice (.int .u8))), .val [] (.int .i64), .val [] (.int .i64)]) (b := [.arr [] (.int .u8)]) (G := fun ws rs => inner T an96 (modesOf F) 0 k 36 (S96 k) (ending T Try.f96 an96 0 K) cd96_2 (sh sp96_2 ws rs) N X) (fun x y => Eq.trans (by kernel_rfl) (Eq.trans (i96_2 k K N X x.2.1 x.2.2.1 k x.2.2.2.1 y.1).symm (by kernel_rfl))) ws rs
end
theorem e96 (k : Nat) (a0 : List (List Int)) (K : List PV → List RowS → Option R) : callC T F k 96 [.val [(0, 0)] (.slice (.slice (.int .u8))) a0] [] K = f96 k a0 (fun z0 => K [.rw 1] [⟨0, .arr [] (.int .u8) z0⟩]) := by
  rw [f96_def]
  cases k with
  | zero => rfl
  | succ k =>
    refine Eq.trans (show _ = exec T an96 (modesOf F) 0 k 36 (callC T F k) (ending T Try.f96 an96 0 K) (bodyOf Try.f96) ⟨argEnv 0 [.val [(0, 0)] (.slice (.slice (.int .u8))) a0] (fun _ => none), rowsOf []⟩ (ending T Try.f96 an96 0 K) (fun _ _ => none) from by kernel_rfl) ?_
    rw [← S96_eq k, ← execS_eq T an96 (modesOf F) 0 k 36 (S96 k) (L96 k K) (bodyOf Try.f96) (cuts_of _ _ _ _ _ _ _ _ (bodyOf Try.f96) (l := [(0, sp96_0, cd96_0), (2, sp96_2, cd96_2)]) (by kernel_rfl) ⟨l96_0 k K, l96_2 k K, trivial⟩)]
    kernel_rfl
noncomputable def s96 (k : Nat) (a : List PV) (r : List RowS) (K : List PV → List RowS → Option R) : Option R :=
  onShape [.val [(0, 0)] (.slice (.slice (.int .u8)))] [] (fun v => f96 k v.1.1 (fun z0 => K [.rw 1] [⟨0, .arr [] (.int .u8) z0⟩])) (callC T F k 96 a r K) a r
theorem s96_eq (k : Nat) (a : List PV) (r : List RowS) (K : List PV → List RowS → Option R) : s96 k a r K = callC T F k 96 a r K := by
  unfold s96
  exact onShape_eq (a := [.val [(0, 0)] (.slice (.slice (.int .u8)))]) (b := []) (G := fun a r => callC T F k 96 a r K) (fun x y => Eq.trans (by kernel_rfl) (Eq.trans (e96 k x.1 K).symm (by kernel_rfl))) a r
end
section
variable {R : Type}
noncomputable def S83 (k g : Nat) (a : List PV) (r : List RowS) (K : List PV → List RowS → Option R) : Option R := bif g == 82 then s82 k a r K else bif g == 96 then s96 k a r K else callC T F k g a r K
theorem S83_eq (k : Nat) : S83 (R := R) k = callC T F k := by
  funext g a r K
  exact pick_eq (fun e => by subst e; exact s82_eq k a r K) (pick_eq (fun e => by subst e; exact s96_eq k a r K) (rfl))
section
variable {R : Type} (k : Nat) (K : List PV → List RowS → Option R)
noncomputable def L83_0 (ws : List PV) (rs : List RowS) (N : St → Option R) (X : Nat → St → Option R) : Option R :=
  onShape [.val [] (.int .u64), .rw 1, .val [] (.int .i64), .val [] (.int .i64)] [.arr [] (.int .u8)] (fun v => f83_0 k (fun y0_0 => N (sh jn83_0 [.val [] (.int .u64) y0_0] [])) v.1.2.2.1 v.2.1 k v.1.1 v.1.2.2.2.1) (inner T an83 (modesOf F) 0 k 29 (S83 k) (ending T Try.f83 an83 0 K) cd83_0 (sh sp83_0 ws rs) N X) ws rs
noncomputable def L83 (id : Nat) (ws : List PV) (rs : List RowS) (N : St → Option R) (X : Nat → St → Option R) : Option R := bif id == 0 then L83_0 k K ws rs N X else none
theorem b83_0 (rec : St → Option R) (N : St → Option R) (X : Nat → St → Option R) (v0_1 : Int) (v0_3 : List Int) (v0_0 : Int) (v0_2 : Int) :
    execS T an83 (modesOf F) 0 k 29 (S83 k) (L83 k K) (ending T Try.f83 an83 0 K) bd83_0 (sh sp83_0 [.val [] (.int .u64) v0_0, .rw 1, .val [] (.int .i64) v0_1, .val [] (.int .i64) v0_2] [⟨0, .arr [] (.int .u8) v0_3⟩]) (fun st => atHead an83 0 bd83_0 st rec) (outX an83 0 0 N X) =
      f83_0b k (fun v0_0 v0_2 => rec (sh sp83_0 [.val [] (.int .u64) v0_0, .rw 1, .val [] (.int .i64) v0_1, .val [] (.int .i64) v0_2] [⟨0, .arr [] (.int .u8) v0_3⟩])) (fun y0_0 => N (sh jn83_0 [.val [] (.int .u64) y0_0] [])) v0_1 v0_3 v0_0 v0_2 := by kernel_rfl
theorem i83_0 (N : St → Option R) (X : Nat → St → Option R) (v0_1 : Int) (v0_3 : List Int) (m : Nat) : ∀ (v0_0 : Int) (v0_2 : Int),
    iter (atHead an83 0 bd83_0) m (fun st N' => exec T an83 (modesOf F) 0 k 29 (S83 k) (ending T Try.f83 an83 0 K) bd83_0 st N' (outX an83 0 0 N X)) (sh sp83_0 [.val [] (.int .u64) v0_0, .rw 1, .val [] (.int .i64) v0_1, .val [] (.int .i64) v0_2] [⟨0, .arr [] (.int .u8) v0_3⟩]) = f83_0d k (fun y0_0 => N (sh jn83_0 [.val [] (.int .u64) y0_0] [])) v0_1 v0_3 m v0_0 v0_2 := by
  induction m with
  | zero => intros; rfl
  | succ m ih =>
    intro v0_0 v0_2
    simp only [iter]
    rw [← execS_eq T an83 (modesOf F) 0 k 29 (S83 k) (L83 k K) bd83_0 (cuts_of _ _ _ _ _ _ _ _ bd83_0 (l := []) (by kernel_rfl) trivial)]
    refine (b83_0 k K _ N X v0_1 v0_3 v0_0 v0_2).trans ?_
    simp only [f83_0d, ih]
theorem l83_0 (ws : List PV) (rs : List RowS) (N : St → Option R) (X : Nat → St → Option R) : L83 k K 0 ws rs N X = inner T an83 (modesOf F) 0 k 29 (S83 k) (ending T Try.f83 an83 0 K) cd83_0 (sh sp83_0 ws rs) N X := by
  show L83_0 k K ws rs N X = _
  unfold L83_0
  rw [f83_0_def]
  exact onShape_eq (a := [.val [] (.int .u64), .rw 1, .val [] (.int .i64), .val [] (.int .i64)]) (b := [.arr [] (.int .u8)]) (G := fun ws rs => inner T an83 (modesOf F) 0 k 29 (S83 k) (ending T Try.f83 an83 0 K) cd83_0 (sh sp83_0 ws rs) N X) (fun x y => Eq.trans (by kernel_rfl) (Eq.trans (i83_0 k K N X x.2.2.1 y.1 k x.1 x.2.2.2.1).symm (by kernel_rfl))) ws rs
end
theorem e83 (k : Nat) (a0 : Int) (a1 : List Int) (K : List PV → List RowS → Option R) : callC T F k 83 [.val [] (.int .i64) a0, .val [(0, 0)] (.slice (.int .u8)) a1] [] K = f83 k a0 a1 (fun z0 => K [.val [] (.int .u64) z0] []) := by
  rw [f83_def]
  cases k with
  | zero => rfl
  | succ k =>
    refine Eq.trans (show _ = exec T an83 (modesOf F) 0 k 29 (callC T F k) (ending T Try.f83 an83 0 K) (bodyOf Try.f83) ⟨argEnv 0 [.val [] (.int .i64) a0, .val [(0, 0)] (.slice (.int .u8)) a1] (fun _ => none), rowsOf []⟩ (ending T Try.f83 an83 0 K) (fun _ _ => none) from by kernel_rfl) ?_
    rw [← S83_eq k, ← execS_eq T an83 (modesOf F) 0 k 29 (S83 k) (L83 k K) (bodyOf Try.f83) (cuts_of _ _ _ _ _ _ _ _ (bodyOf Try.f83) (l := [(0, sp83_0, cd83_0)]) (by kernel_rfl) ⟨l83_0 k K, trivial⟩)]
    kernel_rfl
noncomputable def s83 (k : Nat) (a : List PV) (r : List RowS) (K : List PV → List RowS → Option R) : Option R :=
  onShape [.val [] (.int .i64), .val [(0, 0)] (.slice (.int .u8))] [] (fun v => f83 k v.1.1 v.1.2.1 (fun z0 => K [.val [] (.int .u64) z0] [])) (callC T F k 83 a r K) a r
theorem s83_eq (k : Nat) (a : List PV) (r : List RowS) (K : List PV → List RowS → Option R) : s83 k a r K = callC T F k 83 a r K := by
  unfold s83
  exact onShape_eq (a := [.val [] (.int .i64), .val [(0, 0)] (.slice (.int .u8))]) (b := []) (G := fun a r => callC T F k 83 a r K) (fun x y => Eq.trans (by kernel_rfl) (Eq.trans (e83 k x.1 x.2.1 K).symm (by kernel_rfl))) a r
end
section
variable {R : Type}
noncomputable def S49 (k g : Nat) (a : List PV) (r : List RowS) (K : List PV → List RowS → Option R) : Option R := bif g == 65 then s65 k a r K else bif g == 70 then s70 k a r K else bif g == 74 then s74 k a r K else bif g == 82 then s82 k a r K else bif g == 83 then s83 k a r K else callC T F k g a r K
theorem S49_eq (k : Nat) : S49 (R := R) k = callC T F k := by
  funext g a r K
  exact pick_eq (fun e => by subst e; exact s65_eq k a r K) (pick_eq (fun e => by subst e; exact s70_eq k a r K) (pick_eq (fun e => by subst e; exact s74_eq k a r K) (pick_eq (fun e => by subst e; exact s82_eq k a r K) (pick_eq (fun e => by subst e; exact s83_eq k a r K) (rfl)))))
theorem e49 (k : Nat) (a0 : Int) (a1 : Int) (a2 : List Int) (K : List PV → List RowS → Option R) : callC T F k 49 [.val [] (.int .i64) a0, .val [] (.int .i64) a1, .val [(0, 0)] (.slice (.int .u8)) a2] [] K = f49 k a0 a1 a2 (fun z0 z1 => K [.rw 1, .val [] (.int .i64) z0] [⟨0, .arr [] (.int .u8) z1⟩]) := by
  rw [f49_def]
  cases k with
  | zero => rfl
  | succ k =>
    refine Eq.trans (show _ = exec T an49 (modesOf F) 0 k 32 (callC T F k) (ending T Try.f49 an49 0 K) (bodyOf Try.f49) ⟨argEnv 0 [.val [] (.int .i64) a0, .val [] (.int .i64) a1, .val [(0, 0)] (.slice (.int .u8)) a2] (fun _ => none), rowsOf []⟩ (ending T Try.f49 an49 0 K) (fun _ _ => none) from by kernel_rfl) ?_
    rw [← S49_eq k, ← execS_eq T an49 (modesOf F) 0 k 32 (S49 k) (fun _ _ _ _ _ => none) (bodyOf Try.f49) (cuts_of _ _ _ _ _ _ _ _ (bodyOf Try.f49) (l := []) (by kernel_rfl) trivial)]
    kernel_rfl
noncomputable def s49 (k : Nat) (a : List PV) (r : List RowS) (K : List PV → List RowS → Option R) : Option R :=
  onShape [.val [] (.int .i64), .val [] (.int .i64), .val [(0, 0)] (.slice (.int .u8))] [] (fun v => f49 k v.1.1 v.1.2.1 v.1.2.2.1 (fun z0 z1 => K [.rw 1, .val [] (.int .i64) z0] [⟨0, .arr [] (.int .u8) z1⟩])) (callC T F k 49 a r K) a r
theorem s49_eq (k : Nat) (a : List PV) (r : List RowS) (K : List PV → List RowS → Option R) : s49 k a r K = callC T F k 49 a r K := by
  unfold s49
  exact onShape_eq (a := [.val [] (.int .i64), .val [] (.int .i64), .val [(0, 0)] (.slice (.int .u8))]) (b := []) (G := fun a r => callC T F k 49 a r K) (fun x y => Eq.trans (by kernel_rfl) (Eq.trans (e49 k x.1 x.2.1 x.2.2.1 K).symm (by kernel_rfl))) a r
end
section
variable {R : Type}
noncomputable def S97 (k g : Nat) (a : List PV) (r : List RowS) (K : List PV → List RowS → Option R) : Option R := callC T F k g a r K
theorem S97_eq (k : Nat) : S97 (R := R) k = callC T F k := by
  funext g a r K
  exact rfl
section
variable {R : Type} (k : Nat) (K : List PV → List RowS → Option R)
noncomputable def L97_0 (ws : List PV) (rs : List RowS) (N : St → Option R) (X : Nat → St → Option R) : Option R :=
  onShape [.val [] (.int .u64), .val [(0, 0)] (.slice (.int .u8)), .val [] (.int .i64), .val [] (.int .i64)] [] (fun v => f97_0 k (fun y0_0 => N (sh jn97_0 [.val [] (.int .u64) y0_0] [])) v.1.2.1 v.1.2.2.1 k v.1.1 v.1.2.2.2.1) (inner T an97 (modesOf F) 0 k 20 (S97 k) (ending T Try.f97 an97 0 K) cd97_0 (sh sp97_0 ws rs) N X) ws rs
noncomputable def L97 (id : Nat) (ws : List PV) (rs : List RowS) (N : St → Option R) (X : Nat → St → Option R) : Option R := bif id == 0 then L97_0 k K ws rs N X else none
theorem b97_0 (rec : St → Option R) (N : St → Option R) (X : Nat → St → Option R) (v0_1 : List Int) (v0_2 : Int) (v0_0 : Int) (v0_3 : Int) :
    execS T an97 (modesOf F) 0 k 20 (S97 k) (L97 k K) (ending T Try.f97 an97 0 K) bd97_0 (sh sp97_0 [.val [] (.int .u64) v0_0, .val [(0, 0)] (.slice (.int .u8)) v0_1, .val [] (.int .i64) v0_2, .val [] (.int .i64) v0_3] []) (fun st => atHead an97 0 bd97_0 st rec) (outX an97 0 0 N X) =
      f97_0b k (fun v0_0 v0_3 => rec (sh sp97_0 [.val [] (.int .u64) v0_0, .val [(0, 0)] (.slice (.int .u8)) v0_1, .val [] (.int .i64) v0_2, .val [] (.int .i64) v0_3] [])) (fun y0_0 => N (sh jn97_0 [.val [] (.int .u64) y0_0] [])) v0_1 v0_2 v0_0 v0_3 := by kernel_rfl
theorem i97_0 (N : St → Option R) (X : Nat → St → Option R) (v0_1 : List Int) (v0_2 : Int) (m : Nat) : ∀ (v0_0 : Int) (v0_3 : Int),
    iter (atHead an97 0 bd97_0) m (fun st N' => exec T an97 (modesOf F) 0 k 20 (S97 k) (ending T Try.f97 an97 0 K) bd97_0 st N' (outX an97 0 0 N X)) (sh sp97_0 [.val [] (.int .u64) v0_0, .val [(0, 0)] (.slice (.int .u8)) v0_1, .val [] (.int .i64) v0_2, .val [] (.int .i64) v0_3] []) = f97_0d k (fun y0_0 => N (sh jn97_0 [.val [] (.int .u64) y0_0] [])) v0_1 v0_2 m v0_0 v0_3 := by
  induction m with
  | zero => intros; rfl
  | succ m ih =>
    intro v0_0 v0_3
    simp only [iter]
    rw [← execS_eq T an97 (modesOf F) 0 k 20 (S97 k) (L97 k K) bd97_0 (cuts_of _ _ _ _ _ _ _ _ bd97_0 (l := []) (by kernel_rfl) trivial)]
    refine (b97_0 k K _ N X v0_1 v0_2 v0_0 v0_3).trans ?_
    simp only [f97_0d, ih]
theorem l97_0 (ws : List PV) (rs : List RowS) (N : St → Option R) (X : Nat → St → Option R) : L97 k K 0 ws rs N X = inner T an97 (modesOf F) 0 k 20 (S97 k) (ending T Try.f97 an97 0 K) cd97_0 (sh sp97_0 ws rs) N X := by
  show L97_0 k K ws rs N X = _
  unfold L97_0
  rw [f97_0_def]
  exact onShape_eq (a := [.val [] (.int .u64), .val [(0, 0)] (.slice (.int .u8)), .val [] (.int .i64), .val [] (.int .i64)]) (b := []) (G := fun ws rs => inner T an97 (modesOf F) 0 k 20 (S97 k) (ending T Try.f97 an97 0 K) cd97_0 (sh sp97_0 ws rs) N X) (fun x y => Eq.trans (by kernel_rfl) (Eq.trans (i97_0 k K N X x.2.1 x.2.2.1 k x.1 x.2.2.2.1).symm (by kernel_rfl))) ws rs
end
theorem e97 (k : Nat) (a0 : List Int) (K : List PV → List RowS → Option R) : callC T F k 97 [.val [(0, 0)] (.slice (.int .u8)) a0] [] K = f97 k a0 (fun z0 => K [.val [] (.int .u64) z0] []) := by
  rw [f97_def]
  cases k with
  | zero => rfl
  | succ k =>
    refine Eq.trans (show _ = exec T an97 (modesOf F) 0 k 20 (callC T F k) (ending T Try.f97 an97 0 K) (bodyOf Try.f97) ⟨argEnv 0 [.val [(0, 0)] (.slice (.int .u8)) a0] (fun _ => none), rowsOf []⟩ (ending T Try.f97 an97 0 K) (fun _ _ => none) from by kernel_rfl) ?_
    rw [← S97_eq k, ← execS_eq T an97 (modesOf F) 0 k 20 (S97 k) (L97 k K) (bodyOf Try.f97) (cuts_of _ _ _ _ _ _ _ _ (bodyOf Try.f97) (l := [(0, sp97_0, cd97_0)]) (by kernel_rfl) ⟨l97_0 k K, trivial⟩)]
    kernel_rfl
noncomputable def s97 (k : Nat) (a : List PV) (r : List RowS) (K : List PV → List RowS → Option R) : Option R :=
  onShape [.val [(0, 0)] (.slice (.int .u8))] [] (fun v => f97 k v.1.1 (fun z0 => K [.val [] (.int .u64) z0] [])) (callC T F k 97 a r K) a r
theorem s97_eq (k : Nat) (a : List PV) (r : List RowS) (K : List PV → List RowS → Option R) : s97 k a r K = callC T F k 97 a r K := by
  unfold s97
  exact onShape_eq (a := [.val [(0, 0)] (.slice (.int .u8))]) (b := []) (G := fun a r => callC T F k 97 a r K) (fun x y => Eq.trans (by kernel_rfl) (Eq.trans (e97 k x.1 K).symm (by kernel_rfl))) a r
end
section
variable {R : Type}
noncomputable def S85 (k g : Nat) (a : List PV) (r : List RowS) (K : List PV → List RowS → Option R) : Option R := callC T F k g a r K
theorem S85_eq (k : Nat) : S85 (R := R) k = callC T F k := by
  funext g a r K
  exact rfl
section
variable {R : Type} (k : Nat) (K : List PV → List RowS → Option R)
noncomputable def L85_0 (ws : List PV) (rs : List RowS) (N : St → Option R) (X : Nat → St → Option R) : Option R :=
  onShape [.val [(0, 0)] (.slice (.int .i64)), .val [] (.int .i64), .val [] (.int .i64), .val [] (.int .i64)] [] (fun v => f85_0 k (fun z0 => K [.val [] (.int .i64) z0] []) (N (sh jn85_0 [] [])) v.1.1 v.1.2.1 v.1.2.2.1 k v.1.2.2.2.1) (inner T an85 (modesOf F) 0 k 19 (S85 k) (ending T Try.f85 an85 0 K) cd85_0 (sh sp85_0 ws rs) N X) ws rs
noncomputable def L85 (id : Nat) (ws : List PV) (rs : List RowS) (N : St → Option R) (X : Nat → St → Option R) : Option R := bif id == 0 then L85_0 k K ws rs N X else none
theorem b85_0 (rec : St → Option R) (N : St → Option R) (X : Nat → St → Option R) (v0_0 : List Int) (v0_1 : Int) (v0_2 : Int) (v0_3 : Int) :
    execS T an85 (modesOf F) 0 k 19 (S85 k) (L85 k K) (ending T Try.f85 an85 0 K) bd85_0 (sh sp85_0 [.val [(0, 0)] (.slice (.int .i64)) v0_0, .val [] (.int .i64) v0_1, .val [] (.int .i64) v0_2, .val [] (.int .i64) v0_3] []) (fun st => atHead an85 0 bd85_0 st rec) (outX an85 0 0 N X) =
      f85_0b k (fun v0_3 => rec (sh sp85_0 [.val [(0, 0)] (.slice (.int .i64)) v0_0, .val [] (.int .i64) v0_1, .val [] (.int .i64) v0_2, .val [] (.int .i64) v0_3] [])) (fun z0 => K [.val [] (.int .i64) z0] []) (N (sh jn85_0 [] [])) v0_0 v0_1 v0_2 v0_3 := by kernel_rfl
theorem i85_0 (N : St → Option R) (X : Nat → St → Option R) (v0_0 : List Int) (v0_1 : Int) (v0_2 : Int) (m : Nat) : ∀ (v0_3 : Int),
    iter (atHead an85 0 bd85_0) m (fun st N' => exec T an85 (modesOf F) 0 k 19 (S85 k) (ending T Try.f85 an85 0 K) bd85_0 st N' (outX an85 0 0 N X)) (sh sp85_0 [.val [(0, 0)] (.slice (.int .i64)) v0_0, .val [] (.int .i64) v0_1, .val [] (.int .i64) v0_2, .val [] (.int .i64) v0_3] []) = f85_0d k (fun z0 => K [.val [] (.int .i64) z0] []) (N (sh jn85_0 [] [])) v0_0 v0_1 v0_2 m v0_3 := by
  induction m with
  | zero => intros; rfl
  | succ m ih =>
    intro v0_3
    simp only [iter]
    rw [← execS_eq T an85 (modesOf F) 0 k 19 (S85 k) (L85 k K) bd85_0 (cuts_of _ _ _ _ _ _ _ _ bd85_0 (l := []) (by kernel_rfl) trivial)]
    refine (b85_0 k K _ N X v0_0 v0_1 v0_2 v0_3).trans ?_
    simp only [f85_0d, ih]
theorem l85_0 (ws : List PV) (rs : List RowS) (N : St → Option R) (X : Nat → St → Option R) : L85 k K 0 ws rs N X = inner T an85 (modesOf F) 0 k 19 (S85 k) (ending T Try.f85 an85 0 K) cd85_0 (sh sp85_0 ws rs) N X := by
  show L85_0 k K ws rs N X = _
  unfold L85_0
  rw [f85_0_def]
  exact onShape_eq (a := [.val [(0, 0)] (.slice (.int .i64)), .val [] (.int .i64), .val [] (.int .i64), .val [] (.int .i64)]) (b := []) (G := fun ws rs => inner T an85 (modesOf F) 0 k 19 (S85 k) (ending T Try.f85 an85 0 K) cd85_0 (sh sp85_0 ws rs) N X) (fun x y => Eq.trans (by kernel_rfl) (Eq.trans (i85_0 k K N X x.1 x.2.1 x.2.2.1 k x.2.2.2.1).symm (by kernel_rfl))) ws rs
end
theorem e85 (k : Nat) (a0 : List Int) (a1 : Int) (K : List PV → List RowS → Option R) : callC T F k 85 [.val [(0, 0)] (.slice (.int .i64)) a0, .val [] (.int .i64) a1] [] K = f85 k a0 a1 (fun z0 => K [.val [] (.int .i64) z0] []) := by
  rw [f85_def]
  cases k with
  | zero => rfl
  | succ k =>
    refine Eq.trans (show _ = exec T an85 (modesOf F) 0 k 19 (callC T F k) (ending T Try.f85 an85 0 K) (bodyOf Try.f85) ⟨argEnv 0 [.val [(0, 0)] (.slice (.int .i64)) a0, .val [] (.int .i64) a1] (fun _ => none), rowsOf []⟩ (ending T Try.f85 an85 0 K) (fun _ _ => none) from by kernel_rfl) ?_
    rw [← S85_eq k, ← execS_eq T an85 (modesOf F) 0 k 19 (S85 k) (L85 k K) (bodyOf Try.f85) (cuts_of _ _ _ _ _ _ _ _ (bodyOf Try.f85) (l := [(0, sp85_0, cd85_0)]) (by kernel_rfl) ⟨l85_0 k K, trivial⟩)]
    kernel_rfl
noncomputable def s85 (k : Nat) (a : List PV) (r : List RowS) (K : List PV → List RowS → Option R) : Option R :=
  onShape [.val [(0, 0)] (.slice (.int .i64)), .val [] (.int .i64)] [] (fun v => f85 k v.1.1 v.1.2.1 (fun z0 => K [.val [] (.int .i64) z0] [])) (callC T F k 85 a r K) a r
theorem s85_eq (k : Nat) (a : List PV) (r : List RowS) (K : List PV → List RowS → Option R) : s85 k a r K = callC T F k 85 a r K := by
  unfold s85
  exact onShape_eq (a := [.val [(0, 0)] (.slice (.int .i64)), .val [] (.int .i64)]) (b := []) (G := fun a r => callC T F k 85 a r K) (fun x y => Eq.trans (by kernel_rfl) (Eq.trans (e85 k x.1 x.2.1 K).symm (by kernel_rfl))) a r
end
section
variable {R : Type}
noncomputable def S51 (k g : Nat) (a : List PV) (r : List RowS) (K : List PV → List RowS → Option R) : Option R := bif g == 85 then s85 k a r K else callC T F k g a r K
theorem S51_eq (k : Nat) : S51 (R := R) k = callC T F k := by
  funext g a r K
  exact pick_eq (fun e => by subst e; exact s85_eq k a r K) (rfl)
theorem e51 (k : Nat) (a0 : List Int) (a1 : Int) (K : List PV → List RowS → Option R) : callC T F k 51 [.val [(0, 0)] (.slice (.int .i64)) a0, .val [] (.int .i64) a1] [] K = f51 k a0 a1 (fun z0 => K [.val [] .bool z0] []) := by
  rw [f51_def]
  cases k with
  | zero => rfl
  | succ k =>
    refine Eq.trans (show _ = exec T an51 (modesOf F) 0 k 9 (callC T F k) (ending T Try.f51 an51 0 K) (bodyOf Try.f51) ⟨argEnv 0 [.val [(0, 0)] (.slice (.int .i64)) a0, .val [] (.int .i64) a1] (fun _ => none), rowsOf []⟩ (ending T Try.f51 an51 0 K) (fun _ _ => none) from by kernel_rfl) ?_
    rw [← S51_eq k, ← execS_eq T an51 (modesOf F) 0 k 9 (S51 k) (fun _ _ _ _ _ => none) (bodyOf Try.f51) (cuts_of _ _ _ _ _ _ _ _ (bodyOf Try.f51) (l := []) (by kernel_rfl) trivial)]
    kernel_rfl
noncomputable def s51 (k : Nat) (a : List PV) (r : List RowS) (K : List PV → List RowS → Option R) : Option R :=
  onShape [.val [(0, 0)] (.slice (.int .i64)), .val [] (.int .i64)] [] (fun v => f51 k v.1.1 v.1.2.1 (fun z0 => K [.val [] .bool z0] [])) (callC T F k 51 a r K) a r
theorem s51_eq (k : Nat) (a : List PV) (r : List RowS) (K : List PV → List RowS → Option R) : s51 k a r K = callC T F k 51 a r K := by
  unfold s51
  exact onShape_eq (a := [.val [(0, 0)] (.slice (.int .i64)), .val [] (.int .i64)]) (b := []) (G := fun a r => callC T F k 51 a r K) (fun x y => Eq.trans (by kernel_rfl) (Eq.trans (e51 k x.1 x.2.1 K).symm (by kernel_rfl))) a r
end
section
variable {R : Type}
theorem e86 (k : Nat) (a0 : List Int) (K : List PV → List RowS → Option R) : callC T F k 86 [.val [(0, 0)] (.slice (.int .i64)) a0] [] K = f86 k a0 (fun z0 => K [.rw 1] [⟨0, .arr [] (.int .i64) z0⟩]) := by
  rw [f86_def]
  cases k with
  | zero => rfl
  | succ k => exact clone_call (m := [.lend (.int .i64)]) (ty := (.int .i64)) (bytes := 8) (by kernel_rfl) a0 K
noncomputable def s86 (k : Nat) (a : List PV) (r : List RowS) (K : List PV → List RowS → Option R) : Option R :=
  onShape [.val [(0, 0)] (.slice (.int .i64))] [] (fun v => f86 k v.1.1 (fun z0 => K [.rw 1] [⟨0, .arr [] (.int .i64) z0⟩])) (callC T F k 86 a r K) a r
theorem s86_eq (k : Nat) (a : List PV) (r : List RowS) (K : List PV → List RowS → Option R) : s86 k a r K = callC T F k 86 a r K := by
  unfold s86
  exact onShape_eq (a := [.val [(0, 0)] (.slice (.int .i64))]) (b := []) (G := fun a r => callC T F k 86 a r K) (fun x y => Eq.trans (by kernel_rfl) (Eq.trans (e86 k x.1 K).symm (by kernel_rfl))) a r
end
section
variable {R : Type}
theorem e102 (k : Nat) (a0 : List Int) (K : List PV → List RowS → Option R) : callC T F k 102 [.rw 1] [⟨0, .arr [] (.int .i64) a0⟩] K = f102 k a0 (fun z0 => K [] [⟨0, .arr [] (.int .i64) z0⟩]) := by
  rw [f102_def]
  cases k with
  | zero => rfl
  | succ k => exact sortI_call (m := [.any]) (by kernel_rfl) a0 K
noncomputable def s102 (k : Nat) (a : List PV) (r : List RowS) (K : List PV → List RowS → Option R) : Option R :=
  onShape [.rw 1] [.arr [] (.int .i64)] (fun v => f102 k v.2.1 (fun z0 => K [] [⟨0, .arr [] (.int .i64) z0⟩])) (callC T F k 102 a r K) a r
theorem s102_eq (k : Nat) (a : List PV) (r : List RowS) (K : List PV → List RowS → Option R) : s102 k a r K = callC T F k 102 a r K := by
  unfold s102
  exact onShape_eq (a := [.rw 1]) (b := [.arr [] (.int .i64)]) (G := fun a r => callC T F k 102 a r K) (fun x y => Eq.trans (by kernel_rfl) (Eq.trans (e102 k y.1 K).symm (by kernel_rfl))) a r
end
section
variable {R : Type}
noncomputable def S98 (k g : Nat) (a : List PV) (r : List RowS) (K : List PV → List RowS → Option R) : Option R := bif g == 86 then s86 k a r K else bif g == 102 then s102 k a r K else callC T F k g a r K
theorem S98_eq (k : Nat) : S98 (R := R) k = callC T F k := by
  funext g a r K
  exact pick_eq (fun e => by subst e; exact s86_eq k a r K) (pick_eq (fun e => by subst e; exact s102_eq k a r K) (rfl))
section
variable {R : Type} (k : Nat) (K : List PV → List RowS → Option R)
noncomputable def L98_0 (ws : List PV) (rs : List RowS) (N : St → Option R) (X : Nat → St → Option R) : Option R :=
  onShape [.ptr 1 0, .ptr 2 0, .rw 3] [.vars [.val [] (.int .i64), .val [] (.int .i64), .val [(0, 0)] (.slice (.int .i64))], .vars [.val [] (.int .i64), .val [] (.int .i64), .nils], .arr [] (.int .i64)] (fun v => f98_0 k (fun y0_1 y0_5 => N (sh jn98_0 [.ptr 1 0, .ptr 2 0, .rw 3] [⟨0, .vars [.val [] (.int .i64) v.2.1.1, .val [] (.int .i64) y0_1, .val [(0, 0)] (.slice (.int .i64)) v.2.1.2.2.1]⟩, ⟨0, .vars [.val [] (.int .i64) v.2.2.1.1, .val [] (.int .i64) v.2.2.1.2.1, .nils]⟩, ⟨0, .arr [] (.int .i64) y0_5⟩])) v.2.1.1 v.2.1.2.2.1 v.2.2.1.1 v.2.2.1.2.1 k v.2.1.2.1 v.2.2.2.1) (inner T an98 (modesOf F) 0 k 35 (S98 k) (ending T Try.f98 an98 0 K) cd98_0 (sh sp98_0 ws rs) N X) ws rs
noncomputable def L98 (id : Nat) (ws : List PV) (rs : List RowS) (N : St → Option R) (X : Nat → St → Option R) : Option R := bif id == 0 then L98_0 k K ws rs N X else none
theorem b98_0 (rec : St → Option R) (N : St → Option R) (X : Nat → St → Option R) (v0_0 : Int) (v0_2 : List Int) (v0_3 : Int) (v0_4 : Int) (v0_1 : Int) (v0_5 : List Int) :
    execS T an98 (modesOf F) 0 k 35 (S98 k) (L98 k K) (ending T Try.f98 an98 0 K) bd98_0 (sh sp98_0 [.ptr 1 0, .ptr 2 0, .rw 3] [⟨0, .vars [.val [] (.int .i64) v0_0, .val [] (.int .i64) v0_1, .val [(0, 0)] (.slice (.int .i64)) v0_2]⟩, ⟨0, .vars [.val [] (.int .i64) v0_3, .val [] (.int .i64) v0_4, .nils]⟩, ⟨0, .arr [] (.int .i64) v0_5⟩]) (fun st => atHead an98 0 bd98_0 st rec) (outX an98 0 0 N X) =
      f98_0b k (fun v0_1 v0_5 => rec (sh sp98_0 [.ptr 1 0, .ptr 2 0, .rw 3] [⟨0, .vars [.val [] (.int .i64) v0_0, .val [] (.int .i64) v0_1, .val [(0, 0)] (.slice (.int .i64)) v0_2]⟩, ⟨0, .vars [.val [] (.int .i64) v0_3, .val [] (.int .i64) v0_4, .nils]⟩, ⟨0, .arr [] (.int .i64) v0_5⟩])) (fun y0_1 y0_5 => N (sh jn98_0 [.ptr 1 0, .ptr 2 0, .rw 3] [⟨0, .vars [.val [] (.int .i64) v0_0, .val [] (.int .i64) y0_1, .val [(0, 0)] (.slice (.int .i64)) v0_2]⟩, ⟨0, .vars [.val [] (.int .i64) v0_3, .val [] (.int .i64) v0_4, .nils]⟩, ⟨0, .arr [] (.int .i64) y0_5⟩])) v0_0 v0_2 v0_3 v0_4 v0_1 v0_5 := by kernel_rfl
theorem i98_0 (N : St → Option R) (X : Nat → St → Option R) (v0_0 : Int) (v0_2 : List Int) (v0_3 : Int) (v0_4 : Int) (m : Nat) : ∀ (v0_1 : Int) (v0_5 : List Int),
    iter (atHead an98 0 bd98_0) m (fun st N' => exec T an98 (modesOf F) 0 k 35 (S98 k) (ending T Try.f98 an98 0 K) bd98_0 st N' (outX an98 0 0 N X)) (sh sp98_0 [.ptr 1 0, .ptr 2 0, .rw 3] [⟨0, .vars [.val [] (.int .i64) v0_0, .val [] (.int .i64) v0_1, .val [(0, 0)] (.slice (.int .i64)) v0_2]⟩, ⟨0, .vars [.val [] (.int .i64) v0_3, .val [] (.int .i64) v0_4, .nils]⟩, ⟨0, .arr [] (.int .i64) v0_5⟩]) = f98_0d k (fun y0_1 y0_5 => N (sh jn98_0 [.ptr 1 0, .ptr 2 0, .rw 3] [⟨0, .vars [.val [] (.int .i64) v0_0, .val [] (.int .i64) y0_1, .val [(0, 0)] (.slice (.int .i64)) v0_2]⟩, ⟨0, .vars [.val [] (.int .i64) v0_3, .val [] (.int .i64) v0_4, .nils]⟩, ⟨0, .arr [] (.int .i64) y0_5⟩])) v0_0 v0_2 v0_3 v0_4 m v0_1 v0_5 := by
  induction m with
  | zero => intros; rfl
  | succ m ih =>
    intro v0_1 v0_5
    simp only [iter]
    rw [← execS_eq T an98 (modesOf F) 0 k 35 (S98 k) (L98 k K) bd98_0 (cuts_of _ _ _ _ _ _ _ _ bd98_0 (l := []) (by kernel_rfl) trivial)]
    refine (b98_0 k K _ N X v0_0 v0_2 v0_3 v0_4 v0_1 v0_5).trans ?_
    simp only [f98_0d, ih]
theorem l98_0 (ws : List PV) (rs : List RowS) (N : St → Option R) (X : Nat → St → Option R) : L98 k K 0 ws rs N X = inner T an98 (modesOf F) 0 k 35 (S98 k) (ending T Try.f98 an98 0 K) cd98_0 (sh sp98_0 ws rs) N X := by
  show L98_0 k K ws rs N X = _
  unfold L98_0
  rw [f98_0_def]
  exact onShape_eq (a := [.ptr 1 0, .ptr 2 0, .rw 3]) (b := [.vars [.val [] (.int .i64), .val [] (.int .i64), .val [(0, 0)] (.slice (.int .i64))], .vars [.val [] (.int .i64), .val [] (.int .i64), .nils], .arr [] (.int .i64)]) (G := fun ws rs => inner T an98 (modesOf F) 0 k 35 (S98 k) (ending T Try.f98 an98 0 K) cd98_0 (sh sp98_0 ws rs) N X) (fun x y => Eq.trans (by kernel_rfl) (Eq.trans (i98_0 k K N X y.1.1 y.1.2.2.1 y.2.1.1 y.2.1.2.1 k y.1.2.1 y.2.2.1).symm (by kernel_rfl))) ws rs
end
theorem e98 (k : Nat) (a0 : Int) (a1 : Int) (a2 : List Int) (a3 : Int) (K : List PV → List RowS → Option R) : callC T F k 98 [.agg [.val [] (.int .i64) a0, .val [] (.int .i64) a1, .val [(0, 0)] (.slice (.int .i64)) a2], .val [] (.int .i64) a3] [] K = f98 k a0 a1 a2 a3 (fun z0 z1 z2 => K [.agg [.val [] (.int .i64) z0, .val [] (.int .i64) z1, .rw 1]] [⟨0, .arr [] (.int .i64) z2⟩]) := by
  rw [f98_def]
  cases k with
  | zero => rfl
  | succ k =>
    refine Eq.trans (show _ = exec T an98 (modesOf F) 0 k 35 (callC T F k) (ending T Try.f98 an98 0 K) (bodyOf Try.f98) ⟨argEnv 0 [.agg [.val [] (.int .i64) a0, .val [] (.int .i64) a1, .val [(0, 0)] (.slice (.int .i64)) a2], .val [] (.int .i64) a3] (fun _ => none), rowsOf []⟩ (ending T Try.f98 an98 0 K) (fun _ _ => none) from by kernel_rfl) ?_
    rw [← S98_eq k, ← execS_eq T an98 (modesOf F) 0 k 35 (S98 k) (L98 k K) (bodyOf Try.f98) (cuts_of _ _ _ _ _ _ _ _ (bodyOf Try.f98) (l := [(0, sp98_0, cd98_0)]) (by kernel_rfl) ⟨l98_0 k K, trivial⟩)]
    kernel_rfl
noncomputable def s98 (k : Nat) (a : List PV) (r : List RowS) (K : List PV → List RowS → Option R) : Option R :=
  onShape [.agg [.val [] (.int .i64), .val [] (.int .i64), .val [(0, 0)] (.slice (.int .i64))], .val [] (.int .i64)] [] (fun v => f98 k v.1.1.1 v.1.1.2.1 v.1.1.2.2.1 v.1.2.1 (fun z0 z1 z2 => K [.agg [.val [] (.int .i64) z0, .val [] (.int .i64) z1, .rw 1]] [⟨0, .arr [] (.int .i64) z2⟩])) (callC T F k 98 a r K) a r
theorem s98_eq (k : Nat) (a : List PV) (r : List RowS) (K : List PV → List RowS → Option R) : s98 k a r K = callC T F k 98 a r K := by
  unfold s98
  exact onShape_eq (a := [.agg [.val [] (.int .i64), .val [] (.int .i64), .val [(0, 0)] (.slice (.int .i64))], .val [] (.int .i64)]) (b := []) (G := fun a r => callC T F k 98 a r K) (fun x y => Eq.trans (by kernel_rfl) (Eq.trans (e98 k x.1.1 x.1.2.1 x.1.2.2.1 x.2.1 K).symm (by kernel_rfl))) a r
end
section
variable {R : Type}
theorem e59 (k : Nat) (a0 : List Int) (K : List PV → List RowS → Option R) : callC T F k 59 [.val [(0, 0)] (.slice (.int .u8)) a0] [] K = f59 k a0 (fun z0 => K [.rw 1] [⟨0, .arr [] (.int .u8) z0⟩]) := by
  rw [f59_def]
  cases k with
  | zero => rfl
  | succ k => exact clone_call (m := [.lend (.int .u8)]) (ty := (.int .u8)) (bytes := 1) (by kernel_rfl) a0 K
noncomputable def s59 (k : Nat) (a : List PV) (r : List RowS) (K : List PV → List RowS → Option R) : Option R :=
  onShape [.val [(0, 0)] (.slice (.int .u8))] [] (fun v => f59 k v.1.1 (fun z0 => K [.rw 1] [⟨0, .arr [] (.int .u8) z0⟩])) (callC T F k 59 a r K) a r
theorem s59_eq (k : Nat) (a : List PV) (r : List RowS) (K : List PV → List RowS → Option R) : s59 k a r K = callC T F k 59 a r K := by
  unfold s59
  exact onShape_eq (a := [.val [(0, 0)] (.slice (.int .u8))]) (b := []) (G := fun a r => callC T F k 59 a r K) (fun x y => Eq.trans (by kernel_rfl) (Eq.trans (e59 k x.1 K).symm (by kernel_rfl))) a r
end
section
variable {R : Type}
noncomputable def S84 (k g : Nat) (a : List PV) (r : List RowS) (K : List PV → List RowS → Option R) : Option R := bif g == 51 then s51 k a r K else bif g == 59 then s59 k a r K else bif g == 83 then s83 k a r K else bif g == 97 then s97 k a r K else bif g == 98 then s98 k a r K else callC T F k g a r K
theorem S84_eq (k : Nat) : S84 (R := R) k = callC T F k := by
  funext g a r K
  exact pick_eq (fun e => by subst e; exact s51_eq k a r K) (pick_eq (fun e => by subst e; exact s59_eq k a r K) (pick_eq (fun e => by subst e; exact s83_eq k a r K) (pick_eq (fun e => by subst e; exact s97_eq k a r K) (pick_eq (fun e => by subst e; exact s98_eq k a r K) (rfl)))))
theorem e84 (k : Nat) (a0 : Int) (a1 : Int) (a2 : List Int) (a3 : List Int) (K : List PV → List RowS → Option R) : callC T F k 84 [.agg [.val [] (.int .i64) a0, .val [] (.int .i64) a1, .val [(0, 0)] (.slice (.int .i64)) a2], .val [(0, 0)] (.slice (.int .u8)) a3] [] K = f84 k a0 a1 a2 a3 (fun z0 z1 z2 z3 z4 z5 => K [.agg [.val [] (.int .i64) z0, .val [] (.int .i64) z1, .rw 1], .rw 2, .val [] (.int .i64) z2, .val [] (.int .i64) z3] [⟨0, .arr [] (.int .i64) z4⟩, ⟨0, .arr [] (.int .u8) z5⟩]) := by
  rw [f84_def]
  cases k with
  | zero => rfl
  | succ k =>
    refine Eq.trans (show _ = exec T an84 (modesOf F) 0 k 71 (callC T F k) (ending T Try.f84 an84 0 K) (bodyOf Try.f84) ⟨argEnv 0 [.agg [.val [] (.int .i64) a0, .val [] (.int .i64) a1, .val [(0, 0)] (.slice (.int .i64)) a2], .val [(0, 0)] (.slice (.int .u8)) a3] (fun _ => none), rowsOf []⟩ (ending T Try.f84 an84 0 K) (fun _ _ => none) from by kernel_rfl) ?_
    rw [← S84_eq k, ← execS_eq T an84 (modesOf F) 0 k 71 (S84 k) (fun _ _ _ _ _ => none) (bodyOf Try.f84) (cuts_of _ _ _ _ _ _ _ _ (bodyOf Try.f84) (l := []) (by kernel_rfl) trivial)]
    kernel_rfl
noncomputable def s84 (k : Nat) (a : List PV) (r : List RowS) (K : List PV → List RowS → Option R) : Option R :=
  onShape [.agg [.val [] (.int .i64), .val [] (.int .i64), .val [(0, 0)] (.slice (.int .i64))], .val [(0, 0)] (.slice (.int .u8))] [] (fun v => f84 k v.1.1.1 v.1.1.2.1 v.1.1.2.2.1 v.1.2.1 (fun z0 z1 z2 z3 z4 z5 => K [.agg [.val [] (.int .i64) z0, .val [] (.int .i64) z1, .rw 1], .rw 2, .val [] (.int .i64) z2, .val [] (.int .i64) z3] [⟨0, .arr [] (.int .i64) z4⟩, ⟨0, .arr [] (.int .u8) z5⟩])) (callC T F k 84 a r K) a r
theorem s84_eq (k : Nat) (a : List PV) (r : List RowS) (K : List PV → List RowS → Option R) : s84 k a r K = callC T F k 84 a r K := by
  unfold s84
  exact onShape_eq (a := [.agg [.val [] (.int .i64), .val [] (.int .i64), .val [(0, 0)] (.slice (.int .i64))], .val [(0, 0)] (.slice (.int .u8))]) (b := []) (G := fun a r => callC T F k 84 a r K) (fun x y => Eq.trans (by kernel_rfl) (Eq.trans (e84 k x.1.1 x.1.2.1 x.1.2.2.1 x.2.1 K).symm (by kernel_rfl))) a r
end
section
variable {R : Type}
noncomputable def S50 (k g : Nat) (a : List PV) (r : List RowS) (K : List PV → List RowS → Option R) : Option R := bif g == 48 then s48 k a r K else bif g == 84 then s84 k a r K else callC T F k g a r K
theorem S50_eq (k : Nat) : S50 (R := R) k = callC T F k := by
  funext g a r K
  exact pick_eq (fun e => by subst e; exact s48_eq k a r K) (pick_eq (fun e => by subst e; exact s84_eq k a r K) (rfl))
theorem e50 (k : Nat) (a0 : Int) (a1 : Int) (a2 : List Int) (a3 : List Int) (K : List PV → List RowS → Option R) : callC T F k 50 [.agg [.val [] (.int .i64) a0, .val [] (.int .i64) a1, .val [(0, 0)] (.slice (.int .i64)) a2], .val [(0, 0)] (.slice (.int .u8)) a3] [] K = f50 k a0 a1 a2 a3 (fun z0 z1 z2 z3 z4 z5 => K [.agg [.val [] (.int .i64) z0, .val [] (.int .i64) z1, .rw 1], .rw 2, .val [] (.int .i64) z2, .val [] (.int .i64) z3] [⟨0, .arr [] (.int .i64) z4⟩, ⟨0, .arr [] (.int .u8) z5⟩]) := by
  rw [f50_def]
  cases k with
  | zero => rfl
  | succ k =>
    refine Eq.trans (show _ = exec T an50 (modesOf F) 0 k 22 (callC T F k) (ending T Try.f50 an50 0 K) (bodyOf Try.f50) ⟨argEnv 0 [.agg [.val [] (.int .i64) a0, .val [] (.int .i64) a1, .val [(0, 0)] (.slice (.int .i64)) a2], .val [(0, 0)] (.slice (.int .u8)) a3] (fun _ => none), rowsOf []⟩ (ending T Try.f50 an50 0 K) (fun _ _ => none) from by kernel_rfl) ?_
    rw [← S50_eq k, ← execS_eq T an50 (modesOf F) 0 k 22 (S50 k) (fun _ _ _ _ _ => none) (bodyOf Try.f50) (cuts_of _ _ _ _ _ _ _ _ (bodyOf Try.f50) (l := []) (by kernel_rfl) trivial)]
    kernel_rfl
noncomputable def s50 (k : Nat) (a : List PV) (r : List RowS) (K : List PV → List RowS → Option R) : Option R :=
  onShape [.agg [.val [] (.int .i64), .val [] (.int .i64), .val [(0, 0)] (.slice (.int .i64))], .val [(0, 0)] (.slice (.int .u8))] [] (fun v => f50 k v.1.1.1 v.1.1.2.1 v.1.1.2.2.1 v.1.2.1 (fun z0 z1 z2 z3 z4 z5 => K [.agg [.val [] (.int .i64) z0, .val [] (.int .i64) z1, .rw 1], .rw 2, .val [] (.int .i64) z2, .val [] (.int .i64) z3] [⟨0, .arr [] (.int .i64) z4⟩, ⟨0, .arr [] (.int .u8) z5⟩])) (callC T F k 50 a r K) a r
theorem s50_eq (k : Nat) (a : List PV) (r : List RowS) (K : List PV → List RowS → Option R) : s50 k a r K = callC T F k 50 a r K := by
  unfold s50
  exact onShape_eq (a := [.agg [.val [] (.int .i64), .val [] (.int .i64), .val [(0, 0)] (.slice (.int .i64))], .val [(0, 0)] (.slice (.int .u8))]) (b := []) (G := fun a r => callC T F k 50 a r K) (fun x y => Eq.trans (by kernel_rfl) (Eq.trans (e50 k x.1.1 x.1.2.1 x.1.2.2.1 x.2.1 K).symm (by kernel_rfl))) a r
end
section
variable {R : Type}
noncomputable def S12 (k g : Nat) (a : List PV) (r : List RowS) (K : List PV → List RowS → Option R) : Option R := bif g == 21 then s21 k a r K else bif g == 24 then s24 k a r K else bif g == 48 then s48 k a r K else bif g == 49 then s49 k a r K else bif g == 50 then s50 k a r K else bif g == 51 then s51 k a r K else callC T F k g a r K
theorem S12_eq (k : Nat) : S12 (R := R) k = callC T F k := by
  funext g a r K
  exact pick_eq (fun e => by subst e; exact s21_eq k a r K) (pick_eq (fun e => by subst e; exact s24_eq k a r K) (pick_eq (fun e => by subst e; exact s48_eq k a r K) (pick_eq (fun e => by subst e; exact s49_eq k a r K) (pick_eq (fun e => by subst e; exact s50_eq k a r K) (pick_eq (fun e => by subst e; exact s51_eq k a r K) (rfl))))))
theorem e12 (k : Nat) (a0 : Int) (a1 : Int) (a2 : List Int) (a3 : Int) (a4 : List Int) (K : List PV → List RowS → Option R) : callC T F k 12 [.agg [.val [] (.int .i64) a0, .val [] (.int .i64) a1, .val [(0, 0)] (.slice (.int .i64)) a2], .val [] (.int .i64) a3, .val [(0, 0)] (.slice (.int .u8)) a4] [] K = f12 k a0 a1 a2 a3 a4 (fun z0 => K [.val [] .bool z0] []) := by
  rw [f12_def]
  cases k with
  | zero => rfl
  | succ k =>
    refine Eq.trans (show _ = exec T an12 (modesOf F) 0 k 97 (callC T F k) (ending T Try.f12 an12 0 K) (bodyOf Try.f12) ⟨argEnv 0 [.agg [.val [] (.int .i64) a0, .val [] (.int .i64) a1, .val [(0, 0)] (.slice (.int .i64)) a2], .val [] (.int .i64) a3, .val [(0, 0)] (.slice (.int .u8)) a4] (fun _ => none), rowsOf []⟩ (ending T Try.f12 an12 0 K) (fun _ _ => none) from by kernel_rfl) ?_
    rw [← S12_eq k, ← execS_eq T an12 (modesOf F) 0 k 97 (S12 k) (fun _ _ _ _ _ => none) (bodyOf Try.f12) (cuts_of _ _ _ _ _ _ _ _ (bodyOf Try.f12) (l := []) (by kernel_rfl) trivial)]
    kernel_rfl
noncomputable def s12 (k : Nat) (a : List PV) (r : List RowS) (K : List PV → List RowS → Option R) : Option R :=
  onShape [.agg [.val [] (.int .i64), .val [] (.int .i64), .val [(0, 0)] (.slice (.int .i64))], .val [] (.int .i64), .val [(0, 0)] (.slice (.int .u8))] [] (fun v => f12 k v.1.1.1 v.1.1.2.1 v.1.1.2.2.1 v.1.2.1 v.1.2.2.1 (fun z0 => K [.val [] .bool z0] [])) (callC T F k 12 a r K) a r
theorem s12_eq (k : Nat) (a : List PV) (r : List RowS) (K : List PV → List RowS → Option R) : s12 k a r K = callC T F k 12 a r K := by
  unfold s12
  exact onShape_eq (a := [.agg [.val [] (.int .i64), .val [] (.int .i64), .val [(0, 0)] (.slice (.int .i64))], .val [] (.int .i64), .val [(0, 0)] (.slice (.int .u8))]) (b := []) (G := fun a r => callC T F k 12 a r K) (fun x y => Eq.trans (by kernel_rfl) (Eq.trans (e12 k x.1.1 x.1.2.1 x.1.2.2.1 x.2.1 x.2.2.1 K).symm (by kernel_rfl))) a r
end
section
variable {R : Type}
noncomputable def S47 (k g : Nat) (a : List PV) (r : List RowS) (K : List PV → List RowS → Option R) : Option R := callC T F k g a r K
theorem S47_eq (k : Nat) : S47 (R := R) k = callC T F k := by
  funext g a r K
  exact rfl
section
variable {R : Type} (k : Nat) (K : List PV → List RowS → Option R)
noncomputable def L47_1000003 (ws : List PV) (rs : List RowS) (N : St → Option R) (X : Nat → St → Option R) : Option R :=
  onShape [.val [] (.int .i64), .val [] (.int .i64), .val [] .bool] [] (fun v => f47_1000003 k (fun yN_0 => N (sh fi47_3 [.val [] (.int .i64) yN_0] [])) v.1.1 v.1.2.1 v.1.2.2.1) (inner T an47 (modesOf F) 0 k 14 (S47 k) (ending T Try.f47 an47 0 K) cd47_1000003 (sh sp47_1000003 ws rs) N X) ws rs
noncomputable def L47 (id : Nat) (ws : List PV) (rs : List RowS) (N : St → Option R) (X : Nat → St → Option R) : Option R := bif id == 1000003 then L47_1000003 k K ws rs N X else none
theorem l47_1000003 (ws : List PV) (rs : List RowS) (N : St → Option R) (X : Nat → St → Option R) : L47 k K 1000003 ws rs N X = inner T an47 (modesOf F) 0 k 14 (S47 k) (ending T Try.f47 an47 0 K) cd47_1000003 (sh sp47_1000003 ws rs) N X := by
  show L47_1000003 k K ws rs N X = _
  unfold L47_1000003
  rw [f47_1000003_def]
  exact onShape_eq (a := [.val [] (.int .i64), .val [] (.int .i64), .val [] .bool]) (b := []) (G := fun ws rs => inner T an47 (modesOf F) 0 k 14 (S47 k) (ending T Try.f47 an47 0 K) cd47_1000003 (sh sp47_1000003 ws rs) N X) (fun x y => Eq.trans (by kernel_rfl) (innerS_eq T an47 (modesOf F) 0 k 14 (S47 k) (L47 k K) cd47_1000003 (l := []) (by kernel_rfl) trivial _ N X)) ws rs
end
theorem e47 (k : Nat) (a0 : Int) (a1 : Int) (K : List PV → List RowS → Option R) : callC T F k 47 [.val [] (.int .i64) a0, .val [] (.int .i64) a1] [] K = f47 k a0 a1 (fun z0 => K [.val [] (.int .i64) z0] []) := by
  rw [f47_def]
  cases k with
  | zero => rfl
  | succ k =>
    refine Eq.trans (show _ = exec T an47 (modesOf F) 0 k 14 (callC T F k) (ending T Try.f47 an47 0 K) (bodyOf Try.f47) ⟨argEnv 0 [.val [] (.int .i64) a0, .val [] (.int .i64) a1] (fun _ => none), rowsOf []⟩ (ending T Try.f47 an47 0 K) (fun _ _ => none) from by kernel_rfl) ?_
    rw [← S47_eq k, ← execS_eq T an47 (modesOf F) 0 k 14 (S47 k) (L47 k K) (bodyOf Try.f47) (cuts_of _ _ _ _ _ _ _ _ (bodyOf Try.f47) (l := [(1000003, sp47_1000003, cd47_1000003)]) (by kernel_rfl) ⟨l47_1000003 k K, trivial⟩)]
    kernel_rfl
noncomputable def s47 (k : Nat) (a : List PV) (r : List RowS) (K : List PV → List RowS → Option R) : Option R :=
  onShape [.val [] (.int .i64), .val [] (.int .i64)] [] (fun v => f47 k v.1.1 v.1.2.1 (fun z0 => K [.val [] (.int .i64) z0] [])) (callC T F k 47 a r K) a r
theorem s47_eq (k : Nat) (a : List PV) (r : List RowS) (K : List PV → List RowS → Option R) : s47 k a r K = callC T F k 47 a r K := by
  unfold s47
  exact onShape_eq (a := [.val [] (.int .i64), .val [] (.int .i64)]) (b := []) (G := fun a r => callC T F k 47 a r K) (fun x y => Eq.trans (by kernel_rfl) (Eq.trans (e47 k x.1 x.2.1 K).symm (by kernel_rfl))) a r
end
section
variable {R : Type}
noncomputable def S52 (k g : Nat) (a : List PV) (r : List RowS) (K : List PV → List RowS → Option R) : Option R := bif g == 48 then s48 k a r K else bif g == 84 then s84 k a r K else bif g == 86 then s86 k a r K else callC T F k g a r K
theorem S52_eq (k : Nat) : S52 (R := R) k = callC T F k := by
  funext g a r K
  exact pick_eq (fun e => by subst e; exact s48_eq k a r K) (pick_eq (fun e => by subst e; exact s84_eq k a r K) (pick_eq (fun e => by subst e; exact s86_eq k a r K) (rfl)))
section
variable {R : Type} (k : Nat) (K : List PV → List RowS → Option R)
noncomputable def L52_1000014 (ws : List PV) (rs : List RowS) (N : St → Option R) (X : Nat → St → Option R) : Option R :=
  onShape [.ptr 1 0, .ptr 3 0, .rw 4, .rw 5, .ptr 6 0, .rw 8, .val [] (.int .i64), .val [(0, 0)] (.slice (.slice (.int .u8))), .val [] (.int .i64), .val [] (.int .i64), .val [] .bool] [.vars [.val [] (.int .i64), .val [] (.int .i64), .rw 2], .arr [] (.int .i64), .vars [.val [] (.int .i64), .val [] (.int .i64), .nils], .arr [] (.slice (.int .u8)), .arr [] (.int .i64), .vars [.val [] (.int .i64), .val [] (.int .i64), .rw 7], .arr [] (.int .i64), .arr [] (.int .u8)] (fun v => f52_1000014 k (fun yN_4 yN_5 yN_6 yN_9 => N (sh fi52_14 [.ptr 1 0, .ptr 3 0, .rw 4, .rw 5, .val [] (.int .i64) v.1.2.2.2.2.2.2.1, .val [(0, 0)] (.slice (.slice (.int .u8))) v.1.2.2.2.2.2.2.2.1, .val [] (.int .i64) v.1.2.2.2.2.2.2.2.2.1, .val [] (.int .i64) v.1.2.2.2.2.2.2.2.2.2.1] [⟨0, .vars [.val [] (.int .i64) yN_4, .val [] (.int .i64) yN_5, .rw 2]⟩, ⟨0, .arr [] (.int .i64) yN_6⟩, ⟨0, .vars [.val [] (.int .i64) v.2.2.2.1.1, .val [] (.int .i64) v.2.2.2.1.2.1, .nils]⟩, ⟨0, .arr [] (.slice (.int .u8)) yN_9⟩, ⟨0, .arr [] (.int .i64) v.2.2.2.2.2.1⟩])) v.1.2.2.2.2.2.2.1 v.1.2.2.2.2.2.2.2.1 v.1.2.2.2.2.2.2.2.2.1 v.1.2.2.2.2.2.2.2.2.2.1 v.1.2.2.2.2.2.2.2.2.2.2.1 v.2.1.1 v.2.1.2.1 v.2.2.1 v.2.2.2.1.1 v.2.2.2.1.2.1 v.2.2.2.2.1 v.2.2.2.2.2.1 v.2.2.2.2.2.2.1.1 v.2.2.2.2.2.2.1.2.1 v.2.2.2.2.2.2.2.1 v.2.2.2.2.2.2.2.2.1) (inner T an52 (modesOf F) 0 k 60 (S52 k) (ending T Try.f52 an52 0 K) cd52_1000014 (sh sp52_1000014 ws rs) N X) ws rs
noncomputable def L52_0 (ws : List PV) (rs : List RowS) (N : St → Option R) (X : Nat → St → Option R) : Option R :=
  onShape [.ptr 1 0, .ptr 3 0, .rw 4, .rw 5, .val [(0, 0)] (.slice (.slice (.int .u8))), .val [] (.int .i64), .val [] (.int .i64)] [.vars [.val [] (.int .i64), .val [] (.int .i64), .rw 2], .arr [] (.int .i64), .vars [.val [] (.int .i64), .val [] (.int .i64), .nils], .arr [] (.slice (.int .u8)), .arr [] (.int .i64)] (fun v => f52_0 k (fun y0_0 y0_1 y0_2 y0_5 y0_6 => N (sh jn52_0 [.ptr 1 0, .ptr 3 0, .rw 4, .rw 5] [⟨0, .vars [.val [] (.int .i64) y0_0, .val [] (.int .i64) y0_1, .rw 2]⟩, ⟨0, .arr [] (.int .i64) y0_2⟩, ⟨0, .vars [.val [] (.int .i64) v.2.2.2.1.1, .val [] (.int .i64) v.2.2.2.1.2.1, .nils]⟩, ⟨0, .arr [] (.slice (.int .u8)) y0_5⟩, ⟨0, .arr [] (.int .i64) y0_6⟩])) v.1.2.2.2.2.1 v.1.2.2.2.2.2.1 v.2.2.2.1.1 v.2.2.2.1.2.1 k v.1.2.2.2.2.2.2.1 v.2.1.1 v.2.1.2.1 v.2.2.1 v.2.2.2.2.1 v.2.2.2.2.2.1) (inner T an52 (modesOf F) 0 k 60 (S52 k) (ending T Try.f52 an52 0 K) cd52_0 (sh sp52_0 ws rs) N X) ws rs
noncomputable def L52 (id : Nat) (ws : List PV) (rs : List RowS) (N : St → Option R) (X : Nat → St → Option R) : Option R := bif id == 1000014 then L52_1000014 k K ws rs N X else bif id == 0 then L52_0 k K ws rs N X else none
theorem l52_1000014 (ws : List PV) (rs : List RowS) (N : St → Option R) (X : Nat → St → Option R) : L52 k K 1000014 ws rs N X = inner T an52 (modesOf F) 0 k 60 (S52 k) (ending T Try.f52 an52 0 K) cd52_1000014 (sh sp52_1000014 ws rs) N X := by
  show L52_1000014 k K ws rs N X = _
  unfold L52_1000014
  rw [f52_1000014_def]
  exact onShape_eq (a := [.ptr 1 0, .ptr 3 0, .rw 4, .rw 5, .ptr 6 0, .rw 8, .val [] (.int .i64), .val [(0, 0)] (.slice (.slice (.int .u8))), .val [] (.int .i64), .val [] (.int .i64), .val [] .bool]) (b := [.vars [.val [] (.int .i64), .val [] (.int .i64), .rw 2], .arr [] (.int .i64), .vars [.val [] (.int .i64), .val [] (.int .i64), .nils], .arr [] (.slice (.int .u8)), .arr [] (.int .i64), .vars [.val [] (.int .i64), .val [] (.int .i64), .rw 7], .arr [] (.int .i64), .arr [] (.int .u8)]) (G := fun ws rs => inner T an52 (modesOf F) 0 k 60 (S52 k) (ending T Try.f52 an52 0 K) cd52_1000014 (sh sp52_1000014 ws rs) N X) (fun x y => Eq.trans (by kernel_rfl) (innerS_eq T an52 (modesOf F) 0 k 60 (S52 k) (L52 k K) cd52_1000014 (l := []) (by kernel_rfl) trivial _ N X)) ws rs
theorem b52_0 (rec : St → Option R) (N : St → Option R) (X : Nat → St → Option R) (v0_0 : List (List Int)) (v0_1 : Int) (v0_6 : Int) (v0_7 : Int) (v0_2 : Int) (v0_3 : Int) (v0_4 : Int) (v0_5 : List Int) (v0_8 : List (List Int)) (v0_9 : List Int) :
    execS T an52 (modesOf F) 0 k 60 (S52 k) (L52 k K) (ending T Try.f52 an52 0 K) bd52_0 (sh sp52_0 [.ptr 1 0, .ptr 3 0, .rw 4, .rw 5, .val [(0, 0)] (.slice (.slice (.int .u8))) v0_0, .val [] (.int .i64) v0_1, .val [] (.int .i64) v0_2] [⟨0, .vars [.val [] (.int .i64) v0_3, .val [] (.int .i64) v0_4, .rw 2]⟩, ⟨0, .arr [] (.int .i64) v0_5⟩, ⟨0, .vars [.val [] (.int .i64) v0_6, .val [] (.int .i64) v0_7, .nils]⟩, ⟨0, .arr [] (.slice (.int .u8)) v0_8⟩, ⟨0, .arr [] (.int .i64) v0_9⟩]) (fun st => atHead an52 0 bd52_0 st rec) (outX an52 0 0 N X) =
      f52_0b k (fun v0_2 v0_3 v0_4 v0_5 v0_8 v0_9 => rec (sh sp52_0 [.ptr 1 0, .ptr 3 0, .rw 4, .rw 5, .val [(0, 0)] (.slice (.slice (.int .u8))) v0_0, .val [] (.int .i64) v0_1, .val [] (.int .i64) v0_2] [⟨0, .vars [.val [] (.int .i64) v0_3, .val [] (.int .i64) v0_4, .rw 2]⟩, ⟨0, .arr [] (.int .i64) v0_5⟩, ⟨0, .vars [.val [] (.int .i64) v0_6, .val [] (.int .i64) v0_7, .nils]⟩, ⟨0, .arr [] (.slice (.int .u8)) v0_8⟩, ⟨0, .arr [] (.int .i64) v0_9⟩])) (fun y0_0 y0_1 y0_2 y0_5 y0_6 => N (sh jn52_0 [.ptr 1 0, .ptr 3 0, .rw 4, .rw 5] [⟨0, .vars [.val [] (.int .i64) y0_0, .val [] (.int .i64) y0_1, .rw 2]⟩, ⟨0, .arr [] (.int .i64) y0_2⟩, ⟨0, .vars [.val [] (.int .i64) v0_6, .val [] (.int .i64) v0_7, .nils]⟩, ⟨0, .arr [] (.slice (.int .u8)) y0_5⟩, ⟨0, .arr [] (.int .i64) y0_6⟩])) v0_0 v0_1 v0_6 v0_7 v0_2 v0_3 v0_4 v0_5 v0_8 v0_9 := by kernel_rfl
theorem i52_0 (N : St → Option R) (X : Nat → St → Option R) (v0_0 : List (List Int)) (v0_1 : Int) (v0_6 : Int) (v0_7 : Int) (m : Nat) : ∀ (v0_2 : Int) (v0_3 : Int) (v0_4 : Int) (v0_5 : List Int) (v0_8 : List (List Int)) (v0_9 : List Int),
    iter (atHead an52 0 bd52_0) m (fun st N' => exec T an52 (modesOf F) 0 k 60 (S52 k) (ending T Try.f52 an52 0 K) bd52_0 st N' (outX an52 0 0 N X)) (sh sp52_0 [.ptr 1 0, .ptr 3 0, .rw 4, .rw 5, .val [(0, 0)] (.slice (.slice (.int .u8))) v0_0, .val [] (.int .i64) v0_1, .val [] (.int .i64) v0_2] [⟨0, .vars [.val [] (.int .i64) v0_3, .val [] (.int .i64) v0_4, .rw 2]⟩, ⟨0, .arr [] (.int .i64) v0_5⟩, ⟨0, .vars [.val [] (.int .i64) v0_6, .val [] (.int .i64) v0_7, .nils]⟩, ⟨0, .arr [] (.slice (.int .u8)) v0_8⟩, ⟨0, .arr [] (.int .i64) v0_9⟩]) = f52_0d k (fun y0_0 y0_1 y0_2 y0_5 y0_6 => N (sh jn52_0 [.ptr 1 0, .ptr 3 0, .rw 4, .rw 5] [⟨0, .vars [.val [] (.int .i64) y0_0, .val [] (.int .i64) y0_1, .rw 2]⟩, ⟨0, .arr [] (.int .i64) y0_2⟩, ⟨0, .vars [.val [] (.int .i64) v0_6, .val [] (.int .i64) v0_7, .nils]⟩, ⟨0, .arr [] (.slice (.int .u8)) y0_5⟩, ⟨0, .arr [] (.int .i64) y0_6⟩])) v0_0 v0_1 v0_6 v0_7 m v0_2 v0_3 v0_4 v0_5 v0_8 v0_9 := by
  induction m with
  | zero => intros; rfl
  | succ m ih =>
    intro v0_2 v0_3 v0_4 v0_5 v0_8 v0_9
    simp only [iter]
    rw [← execS_eq T an52 (modesOf F) 0 k 60 (S52 k) (L52 k K) bd52_0 (cuts_of _ _ _ _ _ _ _ _ bd52_0 (l := [(1000014, sp52_1000014, cd52_1000014)]) (by kernel_rfl) ⟨l52_1000014 k K, trivial⟩)]
    refine (b52_0 k K _ N X v0_0 v0_1 v0_6 v0_7 v0_2 v0_3 v0_4 v0_5 v0_8 v0_9).trans ?_
    simp only [f52_0d, ih]
theorem l52_0 (ws : List PV) (rs : List RowS) (N : St → Option R) (X : Nat → St → Option R) : L52 k K 0 ws rs N X = inner T an52 (modesOf F) 0 k 60 (S52 k) (ending T Try.f52 an52 0 K) cd52_0 (sh sp52_0 ws rs) N X := by
  show L52_0 k K ws rs N X = _
  unfold L52_0
  rw [f52_0_def]
  exact onShape_eq (a := [.ptr 1 0, .ptr 3 0, .rw 4, .rw 5, .val [(0, 0)] (.slice (.slice (.int .u8))), .val [] (.int .i64), .val [] (.int .i64)]) (b := [.vars [.val [] (.int .i64), .val [] (.int .i64), .rw 2], .arr [] (.int .i64), .vars [.val [] (.int .i64), .val [] (.int .i64), .nils], .arr [] (.slice (.int .u8)), .arr [] (.int .i64)]) (G := fun ws rs => inner T an52 (modesOf F) 0 k 60 (S52 k) (ending T Try.f52 an52 0 K) cd52_0 (sh sp52_0 ws rs) N X) (fun x y => Eq.trans (by kernel_rfl) (Eq.trans (i52_0 k K N X x.2.2.2.2.1 x.2.2.2.2.2.1 y.2.2.1.1 y.2.2.1.2.1 k x.2.2.2.2.2.2.1 y.1.1 y.1.2.1 y.2.1 y.2.2.2.1 y.2.2.2.2.1).symm (by kernel_rfl))) ws rs
end
theorem e52 (k : Nat) (a0 : Int) (a1 : Int) (a2 : List Int) (a3 : List (List Int)) (K : List PV → List RowS → Option R) : callC T F k 52 [.agg [.val [] (.int .i64) a0, .val [] (.int .i64) a1, .val [(0, 0)] (.slice (.int .i64)) a2], .val [(0, 0)] (.slice (.slice (.int .u8))) a3] [] K = f52 k a0 a1 a2 a3 (fun z0 z1 z2 z3 z4 z5 => K [.agg [.val [] (.int .i64) z0, .val [] (.int .i64) z1, .rw 1], .rw 2, .rw 3, .val [] (.int .i64) z2] [⟨0, .arr [] (.int .i64) z3⟩, ⟨0, .arr [] (.slice (.int .u8)) z4⟩, ⟨0, .arr [] (.int .i64) z5⟩]) := by
  rw [f52_def]
  cases k with
  | zero => rfl
  | succ k =>
    refine Eq.trans (show _ = exec T an52 (modesOf F) 0 k 60 (callC T F k) (ending T Try.f52 an52 0 K) (bodyOf Try.f52) ⟨argEnv 0 [.agg [.val [] (.int .i64) a0, .val [] (.int .i64) a1, .val [(0, 0)] (.slice (.int .i64)) a2], .val [(0, 0)] (.slice (.slice (.int .u8))) a3] (fun _ => none), rowsOf []⟩ (ending T Try.f52 an52 0 K) (fun _ _ => none) from by kernel_rfl) ?_
    rw [← S52_eq k, ← execS_eq T an52 (modesOf F) 0 k 60 (S52 k) (L52 k K) (bodyOf Try.f52) (cuts_of _ _ _ _ _ _ _ _ (bodyOf Try.f52) (l := [(0, sp52_0, cd52_0)]) (by kernel_rfl) ⟨l52_0 k K, trivial⟩)]
    kernel_rfl
noncomputable def s52 (k : Nat) (a : List PV) (r : List RowS) (K : List PV → List RowS → Option R) : Option R :=
  onShape [.agg [.val [] (.int .i64), .val [] (.int .i64), .val [(0, 0)] (.slice (.int .i64))], .val [(0, 0)] (.slice (.slice (.int .u8)))] [] (fun v => f52 k v.1.1.1 v.1.1.2.1 v.1.1.2.2.1 v.1.2.1 (fun z0 z1 z2 z3 z4 z5 => K [.agg [.val [] (.int .i64) z0, .val [] (.int .i64) z1, .rw 1], .rw 2, .rw 3, .val [] (.int .i64) z2] [⟨0, .arr [] (.int .i64) z3⟩, ⟨0, .arr [] (.slice (.int .u8)) z4⟩, ⟨0, .arr [] (.int .i64) z5⟩])) (callC T F k 52 a r K) a r
theorem s52_eq (k : Nat) (a : List PV) (r : List RowS) (K : List PV → List RowS → Option R) : s52 k a r K = callC T F k 52 a r K := by
  unfold s52
  exact onShape_eq (a := [.agg [.val [] (.int .i64), .val [] (.int .i64), .val [(0, 0)] (.slice (.int .i64))], .val [(0, 0)] (.slice (.slice (.int .u8)))]) (b := []) (G := fun a r => callC T F k 52 a r K) (fun x y => Eq.trans (by kernel_rfl) (Eq.trans (e52 k x.1.1 x.1.2.1 x.1.2.2.1 x.2.1 K).symm (by kernel_rfl))) a r
end
section
variable {R : Type}
noncomputable def S13 (k g : Nat) (a : List PV) (r : List RowS) (K : List PV → List RowS → Option R) : Option R := bif g == 21 then s21 k a r K else bif g == 47 then s47 k a r K else bif g == 48 then s48 k a r K else bif g == 49 then s49 k a r K else bif g == 51 then s51 k a r K else bif g == 52 then s52 k a r K else callC T F k g a r K
theorem S13_eq (k : Nat) : S13 (R := R) k = callC T F k := by
  funext g a r K
  exact pick_eq (fun e => by subst e; exact s21_eq k a r K) (pick_eq (fun e => by subst e; exact s47_eq k a r K) (pick_eq (fun e => by subst e; exact s48_eq k a r K) (pick_eq (fun e => by subst e; exact s49_eq k a r K) (pick_eq (fun e => by subst e; exact s51_eq k a r K) (pick_eq (fun e => by subst e; exact s52_eq k a r K) (rfl))))))
section
variable {R : Type} (k : Nat) (K : List PV → List RowS → Option R)
noncomputable def L13_1000012 (ws : List PV) (rs : List RowS) (N : St → Option R) (X : Nat → St → Option R) : Option R :=
  onShape [.ptr 1 0, .rw 2, .rw 3, .val [] (.int .i64), .rw 4, .val [(0, 0)] (.slice (.int .i64)), .val [] (.int .i64), .val [] (.int .i64), .val [] .bool] [.vars [.val [] (.int .i64), .val [] (.int .i64), .val [(0, 0)] (.slice (.int .i64))], .arr [] (.slice (.int .u8)), .arr [] (.int .i64), .arr [] (.int .u8)] (fun v => f13_1000012 k (fun yN_6 yN_7 => N (sh fi13_12 [.ptr 1 0, .rw 2, .rw 3, .val [(0, 0)] (.slice (.int .i64)) v.1.2.2.2.2.2.1, .val [] (.int .i64) v.1.2.2.2.2.2.2.1, .val [] (.int .i64) v.1.2.2.2.2.2.2.2.1] [⟨0, .vars [.val [] (.int .i64) v.2.1.1, .val [] (.int .i64) v.2.1.2.1, .val [(0, 0)] (.slice (.int .i64)) v.2.1.2.2.1]⟩, ⟨0, .arr [] (.slice (.int .u8)) yN_6⟩, ⟨0, .arr [] (.int .i64) yN_7⟩])) v.1.2.2.2.1 v.1.2.2.2.2.2.1 v.1.2.2.2.2.2.2.1 v.1.2.2.2.2.2.2.2.1 v.1.2.2.2.2.2.2.2.2.1 v.2.1.1 v.2.1.2.1 v.2.1.2.2.1 v.2.2.1 v.2.2.2.1 v.2.2.2.2.1) (inner T an13 (modesOf F) 0 k 114 (S13 k) (ending T Try.f13 an13 0 K) cd13_1000012 (sh sp13_1000012 ws rs) N X) ws rs
noncomputable def L13_0 (ws : List PV) (rs : List RowS) (N : St → Option R) (X : Nat → St → Option R) : Option R :=
  onShape [.ptr 1 0, .rw 2, .rw 3, .val [(0, 0)] (.slice (.int .i64)), .val [] (.int .i64), .val [] (.int .i64)] [.vars [.val [] (.int .i64), .val [] (.int .i64), .val [(0, 0)] (.slice (.int .i64))], .arr [] (.slice (.int .u8)), .arr [] (.int .i64)] (fun v => f13_0 k (fun y0_3 y0_4 => N (sh jn13_0 [.ptr 1 0, .rw 2, .rw 3] [⟨0, .vars [.val [] (.int .i64) v.2.1.1, .val [] (.int .i64) v.2.1.2.1, .val [(0, 0)] (.slice (.int .i64)) v.2.1.2.2.1]⟩, ⟨0, .arr [] (.slice (.int .u8)) y0_3⟩, ⟨0, .arr [] (.int .i64) y0_4⟩])) v.1.2.2.2.1 v.1.2.2.2.2.1 v.2.1.1 v.2.1.2.1 v.2.1.2.2.1 k v.1.2.2.2.2.2.1 v.2.2.1 v.2.2.2.1) (inner T an13 (modesOf F) 0 k 114 (S13 k) (ending T Try.f13 an13 0 K) cd13_0 (sh sp13_0 ws rs) N X) ws rs
noncomputable def L13_3 (ws : List PV) (rs : List RowS) (N : St → Option R) (X : Nat → St → Option R) : Option R :=
  onShape [.ptr 1 0, .rw 2, .rw 3, .rw 4, .rw 5, .val [] (.int .i64), .val [] (.int .i64)] [.vars [.val [] (.int .i64), .val [] (.int .i64), .val [(0, 0)] (.slice (.int .i64))], .arr [] (.int .i64), .arr [] (.slice (.int .u8)), .arr [] (.int .i64), .arr [] (.int .i64)] (fun v => f13_3 k (fun y3_7 => N (sh jn13_3 [.ptr 1 0, .rw 2, .rw 3, .rw 4, .rw 5, .val [] (.int .i64) v.1.2.2.2.2.2.1, .val [] (.int .i64) v.1.2.2.2.2.2.2.1] [⟨0, .vars [.val [] (.int .i64) v.2.1.1, .val [] (.int .i64) v.2.1.2.1, .val [(0, 0)] (.slice (.int .i64)) v.2.1.2.2.1]⟩, ⟨0, .arr [] (.int .i64) v.2.2.1⟩, ⟨0, .arr [] (.slice (.int .u8)) v.2.2.2.1⟩, ⟨0, .arr [] (.int .i64) y3_7⟩, ⟨0, .arr [] (.int .i64) v.2.2.2.2.2.1⟩])) (fun z0 => K [.val [] .bool z0] []) v.1.2.2.2.2.2.1 v.1.2.2.2.2.2.2.1 v.2.1.1 v.2.1.2.1 v.2.1.2.2.1 v.2.2.1 v.2.2.2.1 v.2.2.2.2.1 v.2.2.2.2.2.1) (inner T an13 (modesOf F) 0 k 114 (S13 k) (ending T Try.f13 an13 0 K) cd13_3 (sh sp13_3 ws rs) N X) ws rs
noncomputable def L13_2 (ws : List PV) (rs : List RowS) (N : St → Option R) (X : Nat → St → Option R) : Option R :=
  onShape [.ptr 1 0, .rw 2, .rw 3, .rw 4, .rw 5, .val [] (.int .i64), .val [] (.int .i64)] [.vars [.val [] (.int .i64), .val [] (.int .i64), .val [(0, 0)] (.slice (.int .i64))], .arr [] (.int .i64), .arr [] (.slice (.int .u8)), .arr [] (.int .i64), .arr [] (.int .i64)] (fun v => f13_2 k (fun z0 => K [.val [] .bool z0] []) (fun y2_1 => N (sh jn13_2 [.rw 1, .rw 2] [⟨0, .arr [] (.slice (.int .u8)) v.2.2.2.1⟩, ⟨0, .arr [] (.int .i64) y2_1⟩])) v.1.2.2.2.2.2.1 v.2.1.1 v.2.1.2.1 v.2.1.2.2.1 v.2.2.1 v.2.2.2.1 v.2.2.2.2.2.1 k v.1.2.2.2.2.2.2.1 v.2.2.2.2.1) (inner T an13 (modesOf F) 0 k 114 (S13 k) (ending T Try.f13 an13 0 K) cd13_2 (sh sp13_2 ws rs) N X) ws rs
noncomputable def L13 (id : Nat) (ws : List PV) (rs : List RowS) (N : St → Option R) (X : Nat → St → Option R) : Option R := bif id == 1000012 then L13_1000012 k K ws rs N X else bif id == 0 then L13_0 k K ws rs N X else bif id == 3 then L13_3 k K ws rs N X else bif id == 2 then L13_2 k K ws rs N X else none
theorem l13_1000012 (ws : List PV) (rs : List RowS) (N : St → Option R) (X : Nat → St → Option R) : L13 k K 1000012 ws rs N X = inner T an13 (modesOf F) 0 k 114 (S13 k) (ending T Try.f13 an13 0 K) cd13_1000012 (sh sp13_1000012 ws rs) N X := by
  show L13_1000012 k K ws rs N X = _
  unfold L13_1000012
  rw [f13_1000012_def]
  exact onShape_eq (a := [.ptr 1 0, .rw 2, .rw 3, .val [] (.int .i64), .rw 4, .val [(0, 0)] (.slice (.int .i64)), .val [] (.int .i64), .val [] (.int .i64), .val [] .bool]) (b := [.vars [.val [] (.int .i64), .val [] (.int .i64), .val [(0, 0)] (.slice (.int .i64))], .arr [] (.slice (.int .u8)), .arr [] (.int .i64), .arr [] (.int .u8)]) (G := fun ws rs => inner T an13 (modesOf F) 0 k 114 (S13 k) (ending T Try.f13 an13 0 K) cd13_1000012 (sh sp13_1000012 ws rs) N X) (fun x y => Eq.trans (by kernel_rfl) (innerS_eq T an13 (modesOf F) 0 k 114 (S13 k) (L13 k K) cd13_1000012 (l := []) (by kernel_rfl) trivial _ N X)) ws rs
theorem b13_0 (rec : St → Option R) (N : St → Option R) (X : Nat → St → Option R) (v0_0 : List Int) (v0_1 : Int) (v0_3 : Int) (v0_4 : Int) (v0_5 : List Int) (v0_2 : Int) (v0_6 : List (List Int)) (v0_7 : List Int) :
    execS T an13 (modesOf F) 0 k 114 (S13 k) (L13 k K) (ending T Try.f13 an13 0 K) bd13_0 (sh sp13_0 [.ptr 1 0, .rw 2, .rw 3, .val [(0, 0)] (.slice (.int .i64)) v0_0, .val [] (.int .i64) v0_1, .val [] (.int .i64) v0_2] [⟨0, .vars [.val [] (.int .i64) v0_3, .val [] (.int .i64) v0_4, .val [(0, 0)] (.slice (.int .i64)) v0_5]⟩, ⟨0, .arr [] (.slice (.int .u8)) v0_6⟩, ⟨0, .arr [] (.int .i64) v0_7⟩]) (fun st => atHead an13 0 bd13_0 st rec) (outX an13 0 0 N X) =
      f13_0b k (fun v0_2 v0_6 v0_7 => rec (sh sp13_0 [.ptr 1 0, .rw 2, .rw 3, .val [(0, 0)] (.slice (.int .i64)) v0_0, .val [] (.int .i64) v0_1, .val [] (.int .i64) v0_2] [⟨0, .vars [.val [] (.int .i64) v0_3, .val [] (.int .i64) v0_4, .val [(0, 0)] (.slice (.int .i64)) v0_5]⟩, ⟨0, .arr [] (.slice (.int .u8)) v0_6⟩, ⟨0, .arr [] (.int .i64) v0_7⟩])) (fun y0_3 y0_4 => N (sh jn13_0 [.ptr 1 0, .rw 2, .rw 3] [⟨0, .vars [.val [] (.int .i64) v0_3, .val [] (.int .i64) v0_4, .val [(0, 0)] (.slice (.int .i64)) v0_5]⟩, ⟨0, .arr [] (.slice (.int .u8)) y0_3⟩, ⟨0, .arr [] (.int .i64) y0_4⟩])) v0_0 v0_1 v0_3 v0_4 v0_5 v0_2 v0_6 v0_7 := by kernel_rfl
theorem i13_0 (N : St → Option R) (X : Nat → St → Option R) (v0_0 : List Int) (v0_1 : Int) (v0_3 : Int) (v0_4 : Int) (v0_5 : List Int) (m : Nat) : ∀ (v0_2 : Int) (v0_6 : List (List Int)) (v0_7 : List Int),
    iter (atHead an13 0 bd13_0) m (fun st N' => exec T an13 (modesOf F) 0 k 114 (S13 k) (ending T Try.f13 an13 0 K) bd13_0 st N' (outX an13 0 0 N X)) (sh sp13_0 [.ptr 1 0, .rw 2, .rw 3, .val [(0, 0)] (.slice (.int .i64)) v0_0, .val [] (.int .i64) v0_1, .val [] (.int .i64) v0_2] [⟨0, .vars [.val [] (.int .i64) v0_3, .val [] (.int .i64) v0_4, .val [(0, 0)] (.slice (.int .i64)) v0_5]⟩, ⟨0, .arr [] (.slice (.int .u8)) v0_6⟩, ⟨0, .arr [] (.int .i64) v0_7⟩]) = f13_0d k (fun y0_3 y0_4 => N (sh jn13_0 [.ptr 1 0, .rw 2, .rw 3] [⟨0, .vars [.val [] (.int .i64) v0_3, .val [] (.int .i64) v0_4, .val [(0, 0)] (.slice (.int .i64)) v0_5]⟩, ⟨0, .arr [] (.slice (.int .u8)) y0_3⟩, ⟨0, .arr [] (.int .i64) y0_4⟩])) v0_0 v0_1 v0_3 v0_4 v0_5 m v0_2 v0_6 v0_7 := by
  induction m with
  | zero => intros; rfl
  | succ m ih =>
    intro v0_2 v0_6 v0_7
    simp only [iter]
    rw [← execS_eq T an13 (modesOf F) 0 k 114 (S13 k) (L13 k K) bd13_0 (cuts_of _ _ _ _ _ _ _ _ bd13_0 (l := [(1000012, sp13_1000012, cd13_1000012)]) (by kernel_rfl) ⟨l13_1000012 k K, trivial⟩)]
    refine (b13_0 k K _ N X v0_0 v0_1 v0_3 v0_4 v0_5 v0_2 v0_6 v0_7).trans ?_
    simp only [f13_0d, ih]
theorem l13_0 (ws : List PV) (rs : List RowS) (N : St → Option R) (X : Nat → St → Option R) : L13 k K 0 ws rs N X = inner T an13 (modesOf F) 0 k 114 (S13 k) (ending T Try.f13 an13 0 K) cd13_0 (sh sp13_0 ws rs) N X := by
  show L13_0 k K ws rs N X = _
  unfold L13_0
  rw [f13_0_def]
  exact onShape_eq (a := [.ptr 1 0, .rw 2, .rw 3, .val [(0, 0)] (.slice (.int .i64)), .val [] (.int .i64), .val [] (.int .i64)]) (b := [.vars [.val [] (.int .i64), .val [] (.int .i64), .val [(0, 0)] (.slice (.int .i64))], .arr [] (.slice (.int .u8)), .arr [] (.int .i64)]) (G := fun ws rs => inner T an13 (modesOf F) 0 k 114 (S13 k) (ending T Try.f13 an13 0 K) cd13_0 (sh sp13_0 ws rs) N X) (fun x y => Eq.trans (by kernel_rfl) (Eq.trans (i13_0 k K N X x.2.2.2.1 x.2.2.2.2.1 y.1.1 y.1.2.1 y.1.2.2.1 k x.2.2.2.2.2.1 y.2.1 y.2.2.1).symm (by kernel_rfl))) ws rs
theorem l13_3 (ws : List PV) (rs : List RowS) (N : St → Option R) (X : Nat → St → Option R) : L13 k K 3 ws rs N X = inner T an13 (modesOf F) 0 k 114 (S13 k) (ending T Try.f13 an13 0 K) cd13_3 (sh sp13_3 ws rs) N X := by
  show L13_3 k K ws rs N X = _
  unfold L13_3
  rw [f13_3_def]
  exact onShape_eq (a := [.ptr 1 0, .rw 2, .rw 3, .rw 4, .rw 5, .val [] (.int .i64), .val [] (.int .i64)]) (b := [.vars [.val [] (.int .i64), .val [] (.int .i64), .val [(0, 0)] (.slice (.int .i64))], .arr [] (.int .i64), .arr [] (.slice (.int .u8)), .arr [] (.int .i64), .arr [] (.int .i64)]) (G := fun ws rs => inner T an13 (modesOf F) 0 k 114 (S13 k) (ending T Try.f13 an13 0 K) cd13_3 (sh sp13_3 ws rs) N X) (fun x y => Eq.trans (by kernel_rfl) (innerS_eq T an13 (modesOf F) 0 k 114 (S13 k) (L13 k K) cd13_3 (l := []) (by kernel_rfl) trivial _ N X)) ws rs
theorem b13_2 (rec : St → Option R) (N : St → Option R) (X : Nat → St → Option R) (v2_0 : Int) (v2_2 : Int) (v2_3 : Int) (v2_4 : List Int) (v2_5 : List Int) (v2_6 : List (List Int)) (v2_8 : List Int) (v2_1 : Int) (v2_7 : List Int) :
    execS T an13 (modesOf F) 0 k 114 (S13 k) (L13 k K) (ending T Try.f13 an13 0 K) bd13_2 (sh sp13_2 [.ptr 1 0, .rw 2, .rw 3, .rw 4, .rw 5, .val [] (.int .i64) v2_0, .val [] (.int .i64) v2_1] [⟨0, .vars [.val [] (.int .i64) v2_2, .val [] (.int .i64) v2_3, .val [(0, 0)] (.slice (.int .i64)) v2_4]⟩, ⟨0, .arr [] (.int .i64) v2_5⟩, ⟨0, .arr [] (.slice (.int .u8)) v2_6⟩, ⟨0, .arr [] (.int .i64) v2_7⟩, ⟨0, .arr [] (.int .i64) v2_8⟩]) (fun st => atHead an13 0 bd13_2 st rec) (outX an13 0 2 N X) =
      f13_2b k (fun v2_1 v2_7 => rec (sh sp13_2 [.ptr 1 0, .rw 2, .rw 3, .rw 4, .rw 5, .val [] (.int .i64) v2_0, .val [] (.int .i64) v2_1] [⟨0, .vars [.val [] (.int .i64) v2_2, .val [] (.int .i64) v2_3, .val [(0, 0)] (.slice (.int .i64)) v2_4]⟩, ⟨0, .arr [] (.int .i64) v2_5⟩, ⟨0, .arr [] (.slice (.int .u8)) v2_6⟩, ⟨0, .arr [] (.int .i64) v2_7⟩, ⟨0, .arr [] (.int .i64) v2_8⟩])) (fun z0 => K [.val [] .bool z0] []) (fun y2_1 => N (sh jn13_2 [.rw 1, .rw 2] [⟨0, .arr [] (.slice (.int .u8)) v2_6⟩, ⟨0, .arr [] (.int .i64) y2_1⟩])) v2_0 v2_2 v2_3 v2_4 v2_5 v2_6 v2_8 v2_1 v2_7 := by kernel_rfl
theorem i13_2 (N : St → Option R) (X : Nat → St → Option R) (v2_0 : Int) (v2_2 : Int) (v2_3 : Int) (v2_4 : List Int) (v2_5 : List Int) (v2_6 : List (List Int)) (v2_8 : List Int) (m : Nat) : ∀ (v2_1 : Int) (v2_7 : List Int),
    iter (atHead an13 0 bd13_2) m (fun st N' => exec T an13 (modesOf F) 0 k 114 (S13 k) (ending T Try.f13 an13 0 K) bd13_2 st N' (outX an13 0 2 N X)) (sh sp13_2 [.ptr 1 0, .rw 2, .rw 3, .rw 4, .rw 5, .val [] (.int .i64) v2_0, .val [] (.int .i64) v2_1] [⟨0, .vars [.val [] (.int .i64) v2_2, .val [] (.int .i64) v2_3, .val [(0, 0)] (.slice (.int .i64)) v2_4]⟩, ⟨0, .arr [] (.int .i64) v2_5⟩, ⟨0, .arr [] (.slice (.int .u8)) v2_6⟩, ⟨0, .arr [] (.int .i64) v2_7⟩, ⟨0, .arr [] (.int .i64) v2_8⟩]) = f13_2d k (fun z0 => K [.val [] .bool z0] []) (fun y2_1 => N (sh jn13_2 [.rw 1, .rw 2] [⟨0, .arr [] (.slice (.int .u8)) v2_6⟩, ⟨0, .arr [] (.int .i64) y2_1⟩])) v2_0 v2_2 v2_3 v2_4 v2_5 v2_6 v2_8 m v2_1 v2_7 := by
  induction m with
  | zero => intros; rfl
  | succ m ih =>
    intro v2_1 v2_7
    simp only [iter]
    rw [← execS_eq T an13 (modesOf F) 0 k 114 (S13 k) (L13 k K) bd13_2 (cuts_of _ _ _ _ _ _ _ _ bd13_2 (l := [(3, sp13_3, cd13_3)]) (by kernel_rfl) ⟨l13_3 k K, trivial⟩)]
    refine (b13_2 k K _ N X v2_0 v2_2 v2_3 v2_4 v2_5 v2_6 v2_8 v2_1 v2_7).trans ?_
    simp only [f13_2d, ih]
theorem l13_2 (ws : List PV) (rs : List RowS) (N : St → Option R) (X : Nat → St → Option R) : L13 k K 2 ws rs N X = inner T an13 (modesOf F) 0 k 114 (S13 k) (ending T Try.f13 an13 0 K) cd13_2 (sh sp13_2 ws rs) N X := by
  show L13_2 k K ws rs N X = _
  unfold L13_2
  rw [f13_2_def]
  exact onShape_eq (a := [.ptr 1 0, .rw 2, .rw 3, .rw 4, .rw 5, .val [] (.int .i64), .val [] (.int .i64)]) (b := [.vars [.val [] (.int .i64), .val [] (.int .i64), .val [(0, 0)] (.slice (.int .i64))], .arr [] (.int .i64), .arr [] (.slice (.int .u8)), .arr [] (.int .i64), .arr [] (.int .i64)]) (G := fun ws rs => inner T an13 (modesOf F) 0 k 114 (S13 k) (ending T Try.f13 an13 0 K) cd13_2 (sh sp13_2 ws rs) N X) (fun x y => Eq.trans (by kernel_rfl) (Eq.trans (i13_2 k K N X x.2.2.2.2.2.1 y.1.1 y.1.2.1 y.1.2.2.1 y.2.1 y.2.2.1 y.2.2.2.2.1 k x.2.2.2.2.2.2.1 y.2.2.2.1).symm (by kernel_rfl))) ws rs
end
theorem e13 (k : Nat) (a0 : Int) (a1 : Int) (a2 : List Int) (a3 : List Int) (K : List PV → List RowS → Option R) : callC T F k 13 [.agg [.val [] (.int .i64) a0, .val [] (.int .i64) a1, .val [(0, 0)] (.slice (.int .i64)) a2], .val [(0, 0)] (.slice (.int .i64)) a3] [] K = f13 k a0 a1 a2 a3 (fun z0 => K [.val [] .bool z0] []) := by
  rw [f13_def]
  cases k with
  | zero => rfl
  | succ k =>
    refine Eq.trans (show _ = exec T an13 (modesOf F) 0 k 114 (callC T F k) (ending T Try.f13 an13 0 K) (bodyOf Try.f13) ⟨argEnv 0 [.agg [.val [] (.int .i64) a0, .val [] (.int .i64) a1, .val [(0, 0)] (.slice (.int .i64)) a2], .val [(0, 0)] (.slice (.int .i64)) a3] (fun _ => none), rowsOf []⟩ (ending T Try.f13 an13 0 K) (fun _ _ => none) from by kernel_rfl) ?_
    rw [← S13_eq k, ← execS_eq T an13 (modesOf F) 0 k 114 (S13 k) (L13 k K) (bodyOf Try.f13) (cuts_of _ _ _ _ _ _ _ _ (bodyOf Try.f13) (l := [(0, sp13_0, cd13_0), (2, sp13_2, cd13_2)]) (by kernel_rfl) ⟨l13_0 k K, l13_2 k K, trivial⟩)]
    kernel_rfl
noncomputable def s13 (k : Nat) (a : List PV) (r : List RowS) (K : List PV → List RowS → Option R) : Option R :=
  onShape [.agg [.val [] (.int .i64), .val [] (.int .i64), .val [(0, 0)] (.slice (.int .i64))], .val [(0, 0)] (.slice (.int .i64))] [] (fun v => f13 k v.1.1.1 v.1.1.2.1 v.1.1.2.2.1 v.1.2.1 (fun z0 => K [.val [] .bool z0] [])) (callC T F k 13 a r K) a r
theorem s13_eq (k : Nat) (a : List PV) (r : List RowS) (K : List PV → List RowS → Option R) : s13 k a r K = callC T F k 13 a r K := by
  unfold s13
  exact onShape_eq (a := [.agg [.val [] (.int .i64), .val [] (.int .i64), .val [(0, 0)] (.slice (.int .i64))], .val [(0, 0)] (.slice (.int .i64))]) (b := []) (G := fun a r => callC T F k 13 a r K) (fun x y => Eq.trans (by kernel_rfl) (Eq.trans (e13 k x.1.1 x.1.2.1 x.1.2.2.1 x.2.1 K).symm (by kernel_rfl))) a r
end
section
variable {R : Type}
noncomputable def S63 (k g : Nat) (a : List PV) (r : List RowS) (K : List PV → List RowS → Option R) : Option R := callC T F k g a r K
theorem S63_eq (k : Nat) : S63 (R := R) k = callC T F k := by
  funext g a r K
  exact rfl
theorem e63 (k : Nat) (a0 : Int) (a1 : Int) (a2 : Int) (K : List PV → List RowS → Option R) : callC T F k 63 [.val [] (.int .i64) a0, .val [] (.int .i64) a1, .val [] (.int .i64) a2] [] K = f63 k a0 a1 a2 (fun z0 => K [.val [] .bool z0] []) := by
  rw [f63_def]
  cases k with
  | zero => rfl
  | succ k =>
    refine Eq.trans (show _ = exec T an63 (modesOf F) 0 k 15 (callC T F k) (ending T Try.f63 an63 0 K) (bodyOf Try.f63) ⟨argEnv 0 [.val [] (.int .i64) a0, .val [] (.int .i64) a1, .val [] (.int .i64) a2] (fun _ => none), rowsOf []⟩ (ending T Try.f63 an63 0 K) (fun _ _ => none) from by kernel_rfl) ?_
    rw [← S63_eq k, ← execS_eq T an63 (modesOf F) 0 k 15 (S63 k) (fun _ _ _ _ _ => none) (bodyOf Try.f63) (cuts_of _ _ _ _ _ _ _ _ (bodyOf Try.f63) (l := []) (by kernel_rfl) trivial)]
    kernel_rfl
noncomputable def s63 (k : Nat) (a : List PV) (r : List RowS) (K : List PV → List RowS → Option R) : Option R :=
  onShape [.val [] (.int .i64), .val [] (.int .i64), .val [] (.int .i64)] [] (fun v => f63 k v.1.1 v.1.2.1 v.1.2.2.1 (fun z0 => K [.val [] .bool z0] [])) (callC T F k 63 a r K) a r
theorem s63_eq (k : Nat) (a : List PV) (r : List RowS) (K : List PV → List RowS → Option R) : s63 k a r K = callC T F k 63 a r K := by
  unfold s63
  exact onShape_eq (a := [.val [] (.int .i64), .val [] (.int .i64), .val [] (.int .i64)]) (b := []) (G := fun a r => callC T F k 63 a r K) (fun x y => Eq.trans (by kernel_rfl) (Eq.trans (e63 k x.1 x.2.1 x.2.2.1 K).symm (by kernel_rfl))) a r
end
section
variable {R : Type}
noncomputable def S57 (k g : Nat) (a : List PV) (r : List RowS) (K : List PV → List RowS → Option R) : Option R := bif g == 63 then s63 k a r K else callC T F k g a r K
theorem S57_eq (k : Nat) : S57 (R := R) k = callC T F k := by
  funext g a r K
  exact pick_eq (fun e => by subst e; exact s63_eq k a r K) (rfl)
section
variable {R : Type} (k : Nat) (K : List PV → List RowS → Option R)
noncomputable def L57_0 (ws : List PV) (rs : List RowS) (N : St → Option R) (X : Nat → St → Option R) : Option R :=
  onShape [.ptr 1 0, .val [(0, 0)] (.slice (.int .i64)), .val [] (.int .i64), .val [] (.int .i64)] [.vars [.val [] (.int .i64), .val [] (.int .i64), .val [(0, 0)] (.slice (.int .i64))]] (fun v => f57_0 k (fun z0 => K [.val [] (.int .i64) z0] []) (N (sh jn57_0 [] [])) v.1.2.1 v.1.2.2.1 v.2.1.1 v.2.1.2.1 v.2.1.2.2.1 k v.1.2.2.2.1) (inner T an57 (modesOf F) 0 k 50 (S57 k) (ending T Try.f57 an57 0 K) cd57_0 (sh sp57_0 ws rs) N X) ws rs
noncomputable def L57 (id : Nat) (ws : List PV) (rs : List RowS) (N : St → Option R) (X : Nat → St → Option R) : Option R := bif id == 0 then L57_0 k K ws rs N X else none
theorem b57_0 (rec : St → Option R) (N : St → Option R) (X : Nat → St → Option R) (v0_0 : List Int) (v0_1 : Int) (v0_3 : Int) (v0_4 : Int) (v0_5 : List Int) (v0_2 : Int) :
    execS T an57 (modesOf F) 0 k 50 (S57 k) (L57 k K) (ending T Try.f57 an57 0 K) bd57_0 (sh sp57_0 [.ptr 1 0, .val [(0, 0)] (.slice (.int .i64)) v0_0, .val [] (.int .i64) v0_1, .val [] (.int .i64) v0_2] [⟨0, .vars [.val [] (.int .i64) v0_3, .val [] (.int .i64) v0_4, .val [(0, 0)] (.slice (.int .i64)) v0_5]⟩]) (fun st => atHead an57 0 bd57_0 st rec) (outX an57 0 0 N X) =
      f57_0b k (fun v0_2 => rec (sh sp57_0 [.ptr 1 0, .val [(0, 0)] (.slice (.int .i64)) v0_0, .val [] (.int .i64) v0_1, .val [] (.int .i64) v0_2] [⟨0, .vars [.val [] (.int .i64) v0_3, .val [] (.int .i64) v0_4, .val [(0, 0)] (.slice (.int .i64)) v0_5]⟩])) (fun z0 => K [.val [] (.int .i64) z0] []) (N (sh jn57_0 [] [])) v0_0 v0_1 v0_3 v0_4 v0_5 v0_2 := by kernel_rfl
theorem i57_0 (N : St → Option R) (X : Nat → St → Option R) (v0_0 : List Int) (v0_1 : Int) (v0_3 : Int) (v0_4 : Int) (v0_5 : List Int) (m : Nat) : ∀ (v0_2 : Int),
    iter (atHead an57 0 bd57_0) m (fun st N' => exec T an57 (modesOf F) 0 k 50 (S57 k) (ending T Try.f57 an57 0 K) bd57_0 st N' (outX an57 0 0 N X)) (sh sp57_0 [.ptr 1 0, .val [(0, 0)] (.slice (.int .i64)) v0_0, .val [] (.int .i64) v0_1, .val [] (.int .i64) v0_2] [⟨0, .vars [.val [] (.int .i64) v0_3, .val [] (.int .i64) v0_4, .val [(0, 0)] (.slice (.int .i64)) v0_5]⟩]) = f57_0d k (fun z0 => K [.val [] (.int .i64) z0] []) (N (sh jn57_0 [] [])) v0_0 v0_1 v0_3 v0_4 v0_5 m v0_2 := by
  induction m with
  | zero => intros; rfl
  | succ m ih =>
    intro v0_2
    simp only [iter]
    rw [← execS_eq T an57 (modesOf F) 0 k 50 (S57 k) (L57 k K) bd57_0 (cuts_of _ _ _ _ _ _ _ _ bd57_0 (l := []) (by kernel_rfl) trivial)]
    refine (b57_0 k K _ N X v0_0 v0_1 v0_3 v0_4 v0_5 v0_2).trans ?_
    simp only [f57_0d, ih]
theorem l57_0 (ws : List PV) (rs : List RowS) (N : St → Option R) (X : Nat → St → Option R) : L57 k K 0 ws rs N X = inner T an57 (modesOf F) 0 k 50 (S57 k) (ending T Try.f57 an57 0 K) cd57_0 (sh sp57_0 ws rs) N X := by
  show L57_0 k K ws rs N X = _
  unfold L57_0
  rw [f57_0_def]
  exact onShape_eq (a := [.ptr 1 0, .val [(0, 0)] (.slice (.int .i64)), .val [] (.int .i64), .val [] (.int .i64)]) (b := [.vars [.val [] (.int .i64), .val [] (.int .i64), .val [(0, 0)] (.slice (.int .i64))]]) (G := fun ws rs => inner T an57 (modesOf F) 0 k 50 (S57 k) (ending T Try.f57 an57 0 K) cd57_0 (sh sp57_0 ws rs) N X) (fun x y => Eq.trans (by kernel_rfl) (Eq.trans (i57_0 k K N X x.2.1 x.2.2.1 y.1.1 y.1.2.1 y.1.2.2.1 k x.2.2.2.1).symm (by kernel_rfl))) ws rs
end
theorem e57 (k : Nat) (a0 : Int) (a1 : Int) (a2 : List Int) (K : List PV → List RowS → Option R) : callC T F k 57 [.agg [.val [] (.int .i64) a0, .val [] (.int .i64) a1, .val [(0, 0)] (.slice (.int .i64)) a2]] [] K = f57 k a0 a1 a2 (fun z0 => K [.val [] (.int .i64) z0] []) := by
  rw [f57_def]
  cases k with
  | zero => rfl
  | succ k =>
    refine Eq.trans (show _ = exec T an57 (modesOf F) 0 k 50 (callC T F k) (ending T Try.f57 an57 0 K) (bodyOf Try.f57) ⟨argEnv 0 [.agg [.val [] (.int .i64) a0, .val [] (.int .i64) a1, .val [(0, 0)] (.slice (.int .i64)) a2]] (fun _ => none), rowsOf []⟩ (ending T Try.f57 an57 0 K) (fun _ _ => none) from by kernel_rfl) ?_
    rw [← S57_eq k, ← execS_eq T an57 (modesOf F) 0 k 50 (S57 k) (L57 k K) (bodyOf Try.f57) (cuts_of _ _ _ _ _ _ _ _ (bodyOf Try.f57) (l := [(0, sp57_0, cd57_0)]) (by kernel_rfl) ⟨l57_0 k K, trivial⟩)]
    kernel_rfl
noncomputable def s57 (k : Nat) (a : List PV) (r : List RowS) (K : List PV → List RowS → Option R) : Option R :=
  onShape [.agg [.val [] (.int .i64), .val [] (.int .i64), .val [(0, 0)] (.slice (.int .i64))]] [] (fun v => f57 k v.1.1.1 v.1.1.2.1 v.1.1.2.2.1 (fun z0 => K [.val [] (.int .i64) z0] [])) (callC T F k 57 a r K) a r
theorem s57_eq (k : Nat) (a : List PV) (r : List RowS) (K : List PV → List RowS → Option R) : s57 k a r K = callC T F k 57 a r K := by
  unfold s57
  exact onShape_eq (a := [.agg [.val [] (.int .i64), .val [] (.int .i64), .val [(0, 0)] (.slice (.int .i64))]]) (b := []) (G := fun a r => callC T F k 57 a r K) (fun x y => Eq.trans (by kernel_rfl) (Eq.trans (e57 k x.1.1 x.1.2.1 x.1.2.2.1 K).symm (by kernel_rfl))) a r
end
section
variable {R : Type}
noncomputable def S88 (k g : Nat) (a : List PV) (r : List RowS) (K : List PV → List RowS → Option R) : Option R := callC T F k g a r K
theorem S88_eq (k : Nat) : S88 (R := R) k = callC T F k := by
  funext g a r K
  exact rfl
section
variable {R : Type} (k : Nat) (K : List PV → List RowS → Option R)
noncomputable def L88_0 (ws : List PV) (rs : List RowS) (N : St → Option R) (X : Nat → St → Option R) : Option R :=
  onShape [.val [] (.int .u64), .rw 1, .val [] (.int .i64), .val [] (.int .i64)] [.arr [] (.int .u8)] (fun v => f88_0 k (fun y0_0 => N (sh jn88_0 [.rw 1] [⟨0, .arr [] (.int .u8) y0_0⟩])) v.1.1 v.1.2.2.1 k v.1.2.2.2.1 v.2.1) (inner T an88 (modesOf F) 0 k 22 (S88 k) (ending T Try.f88 an88 0 K) cd88_0 (sh sp88_0 ws rs) N X) ws rs
noncomputable def L88 (id : Nat) (ws : List PV) (rs : List RowS) (N : St → Option R) (X : Nat → St → Option R) : Option R := bif id == 0 then L88_0 k K ws rs N X else none
theorem b88_0 (rec : St → Option R) (N : St → Option R) (X : Nat → St → Option R) (v0_0 : Int) (v0_1 : Int) (v0_2 : Int) (v0_3 : List Int) :
    execS T an88 (modesOf F) 0 k 22 (S88 k) (L88 k K) (ending T Try.f88 an88 0 K) bd88_0 (sh sp88_0 [.val [] (.int .u64) v0_0, .rw 1, .val [] (.int .i64) v0_1, .val [] (.int .i64) v0_2] [⟨0, .arr [] (.int .u8) v0_3⟩]) (fun st => atHead an88 0 bd88_0 st rec) (outX an88 0 0 N X) =
      f88_0b k (fun v0_2 v0_3 => rec (sh sp88_0 [.val [] (.int .u64) v0_0, .rw 1, .val [] (.int .i64) v0_1, .val [] (.int .i64) v0_2] [⟨0, .arr [] (.int .u8) v0_3⟩])) (fun y0_0 => N (sh jn88_0 [.rw 1] [⟨0, .arr [] (.int .u8) y0_0⟩])) v0_0 v0_1 v0_2 v0_3 := by kernel_rfl
theorem i88_0 (N : St → Option R) (X : Nat → St → Option R) (v0_0 : Int) (v0_1 : Int) (m : Nat) : ∀ (v0_2 : Int) (v0_3 : List Int),
    iter (atHead an88 0 bd88_0) m (fun st N' => exec T an88 (modesOf F) 0 k 22 (S88 k) (ending T Try.f88 an88 0 K) bd88_0 st N' (outX an88 0 0 N X)) (sh sp88_0 [.val [] (.int .u64) v0_0, .rw 1, .val [] (.int .i64) v0_1, .val [] (.int .i64) v0_2] [⟨0, .arr [] (.int .u8) v0_3⟩]) = f88_0d k (fun y0_0 => N (sh jn88_0 [.rw 1] [⟨0, .arr [] (.int .u8) y0_0⟩])) v0_0 v0_1 m v0_2 v0_3 := by
  induction m with
  | zero => intros; rfl
  | succ m ih =>
    intro v0_2 v0_3
    simp only [iter]
    rw [← execS_eq T an88 (modesOf F) 0 k 22 (S88 k) (L88 k K) bd88_0 (cuts_of _ _ _ _ _ _ _ _ bd88_0 (l := []) (by kernel_rfl) trivial)]
    refine (b88_0 k K _ N X v0_0 v0_1 v0_2 v0_3).trans ?_
    simp only [f88_0d, ih]
theorem l88_0 (ws : List PV) (rs : List RowS) (N : St → Option R) (X : Nat → St → Option R) : L88 k K 0 ws rs N X = inner T an88 (modesOf F) 0 k 22 (S88 k) (ending T Try.f88 an88 0 K) cd88_0 (sh sp88_0 ws rs) N X := by
  show L88_0 k K ws rs N X = _
  unfold L88_0
  rw [f88_0_def]
  exact onShape_eq (a := [.val [] (.int .u64), .rw 1, .val [] (.int .i64), .val [] (.int .i64)]) (b := [.arr [] (.int .u8)]) (G := fun ws rs => inner T an88 (modesOf F) 0 k 22 (S88 k) (ending T Try.f88 an88 0 K) cd88_0 (sh sp88_0 ws rs) N X) (fun x y => Eq.trans (by kernel_rfl) (Eq.trans (i88_0 k K N X x.1 x.2.2.1 k x.2.2.2.1 y.1).symm (by kernel_rfl))) ws rs
end
theorem e88 (k : Nat) (a0 : Int) (K : List PV → List RowS → Option R) : callC T F k 88 [.val [] (.int .u64) a0] [] K = f88 k a0 (fun z0 => K [.rw 1] [⟨0, .arr [] (.int .u8) z0⟩]) := by
  rw [f88_def]
  cases k with
  | zero => rfl
  | succ k =>
    refine Eq.trans (show _ = exec T an88 (modesOf F) 0 k 22 (callC T F k) (ending T Try.f88 an88 0 K) (bodyOf Try.f88) ⟨argEnv 0 [.val [] (.int .u64) a0] (fun _ => none), rowsOf []⟩ (ending T Try.f88 an88 0 K) (fun _ _ => none) from by kernel_rfl) ?_
    rw [← S88_eq k, ← execS_eq T an88 (modesOf F) 0 k 22 (S88 k) (L88 k K) (bodyOf Try.f88) (cuts_of _ _ _ _ _ _ _ _ (bodyOf Try.f88) (l := [(0, sp88_0, cd88_0)]) (by kernel_rfl) ⟨l88_0 k K, trivial⟩)]
    kernel_rfl
noncomputable def s88 (k : Nat) (a : List PV) (r : List RowS) (K : List PV → List RowS → Option R) : Option R :=
  onShape [.val [] (.int .u64)] [] (fun v => f88 k v.1.1 (fun z0 => K [.rw 1] [⟨0, .arr [] (.int .u8) z0⟩])) (callC T F k 88 a r K) a r
theorem s88_eq (k : Nat) (a : List PV) (r : List RowS) (K : List PV → List RowS → Option R) : s88 k a r K = callC T F k 88 a r K := by
  unfold s88
  exact onShape_eq (a := [.val [] (.int .u64)]) (b := []) (G := fun a r => callC T F k 88 a r K) (fun x y => Eq.trans (by kernel_rfl) (Eq.trans (e88 k x.1 K).symm (by kernel_rfl))) a r
end
section
variable {R : Type}
noncomputable def S89 (k g : Nat) (a : List PV) (r : List RowS) (K : List PV → List RowS → Option R) : Option R := bif g == 88 then s88 k a r K else bif g == 96 then s96 k a r K else callC T F k g a r K
theorem S89_eq (k : Nat) : S89 (R := R) k = callC T F k := by
  funext g a r K
  exact pick_eq (fun e => by subst e; exact s88_eq k a r K) (pick_eq (fun e => by subst e; exact s96_eq k a r K) (rfl))
section
variable {R : Type} (k : Nat) (K : List PV → List RowS → Option R)
noncomputable def L89_0 (ws : List PV) (rs : List RowS) (N : St → Option R) (X : Nat → St → Option R) : Option R :=
  onShape [.val [] (.int .u64), .rw 1, .val [] (.int .i64), .val [] (.int .i64)] [.arr [] (.int .u8)] (fun v => f89_0 k (fun y0_0 => N (sh jn89_0 [.val [] (.int .u64) y0_0] [])) v.1.2.2.1 v.2.1 k v.1.1 v.1.2.2.2.1) (inner T an89 (modesOf F) 0 k 29 (S89 k) (ending T Try.f89 an89 0 K) cd89_0 (sh sp89_0 ws rs) N X) ws rs
noncomputable def L89 (id : Nat) (ws : List PV) (rs : List RowS) (N : St → Option R) (X : Nat → St → Option R) : Option R := bif id == 0 then L89_0 k K ws rs N X else none
theorem b89_0 (rec : St → Option R) (N : St → Option R) (X : Nat → St → Option R) (v0_1 : Int) (v0_3 : List Int) (v0_0 : Int) (v0_2 : Int) :
    execS T an89 (modesOf F) 0 k 29 (S89 k) (L89 k K) (ending T Try.f89 an89 0 K) bd89_0 (sh sp89_0 [.val [] (.int .u64) v0_0, .rw 1, .val [] (.int .i64) v0_1, .val [] (.int .i64) v0_2] [⟨0, .arr [] (.int .u8) v0_3⟩]) (fun st => atHead an89 0 bd89_0 st rec) (outX an89 0 0 N X) =
      f89_0b k (fun v0_0 v0_2 => rec (sh sp89_0 [.val [] (.int .u64) v0_0, .rw 1, .val [] (.int .i64) v0_1, .val [] (.int .i64) v0_2] [⟨0, .arr [] (.int .u8) v0_3⟩])) (fun y0_0 => N (sh jn89_0 [.val [] (.int .u64) y0_0] [])) v0_1 v0_3 v0_0 v0_2 := by kernel_rfl
theorem i89_0 (N : St → Option R) (X : Nat → St → Option R) (v0_1 : Int) (v0_3 : List Int) (m : Nat) : ∀ (v0_0 : Int) (v0_2 : Int),
    iter (atHead an89 0 bd89_0) m (fun st N' => exec T an89 (modesOf F) 0 k 29 (S89 k) (ending T Try.f89 an89 0 K) bd89_0 st N' (outX an89 0 0 N X)) (sh sp89_0 [.val [] (.int .u64) v0_0, .rw 1, .val [] (.int .i64) v0_1, .val [] (.int .i64) v0_2] [⟨0, .arr [] (.int .u8) v0_3⟩]) = f89_0d k (fun y0_0 => N (sh jn89_0 [.val [] (.int .u64) y0_0] [])) v0_1 v0_3 m v0_0 v0_2 := by
  induction m with
  | zero => intros; rfl
  | succ m ih =>
    intro v0_0 v0_2
    simp only [iter]
    rw [← execS_eq T an89 (modesOf F) 0 k 29 (S89 k) (L89 k K) bd89_0 (cuts_of _ _ _ _ _ _ _ _ bd89_0 (l := []) (by kernel_rfl) trivial)]
    refine (b89_0 k K _ N X v0_1 v0_3 v0_0 v0_2).trans ?_
    simp only [f89_0d, ih]
theorem l89_0 (ws : List PV) (rs : List RowS) (N : St → Option R) (X : Nat → St → Option R) : L89 k K 0 ws rs N X = inner T an89 (modesOf F) 0 k 29 (S89 k) (ending T Try.f89 an89 0 K) cd89_0 (sh sp89_0 ws rs) N X := by
  show L89_0 k K ws rs N X = _
  unfold L89_0
  rw [f89_0_def]
  exact onShape_eq (a := [.val [] (.int .u64), .rw 1, .val [] (.int .i64), .val [] (.int .i64)]) (b := [.arr [] (.int .u8)]) (G := fun ws rs => inner T an89 (modesOf F) 0 k 29 (S89 k) (ending T Try.f89 an89 0 K) cd89_0 (sh sp89_0 ws rs) N X) (fun x y => Eq.trans (by kernel_rfl) (Eq.trans (i89_0 k K N X x.2.2.1 y.1 k x.1 x.2.2.2.1).symm (by kernel_rfl))) ws rs
end
theorem e89 (k : Nat) (a0 : Int) (a1 : List Int) (K : List PV → List RowS → Option R) : callC T F k 89 [.val [] (.int .i64) a0, .val [(0, 0)] (.slice (.int .u8)) a1] [] K = f89 k a0 a1 (fun z0 => K [.val [] (.int .u64) z0] []) := by
  rw [f89_def]
  cases k with
  | zero => rfl
  | succ k =>
    refine Eq.trans (show _ = exec T an89 (modesOf F) 0 k 29 (callC T F k) (ending T Try.f89 an89 0 K) (bodyOf Try.f89) ⟨argEnv 0 [.val [] (.int .i64) a0, .val [(0, 0)] (.slice (.int .u8)) a1] (fun _ => none), rowsOf []⟩ (ending T Try.f89 an89 0 K) (fun _ _ => none) from by kernel_rfl) ?_
    rw [← S89_eq k, ← execS_eq T an89 (modesOf F) 0 k 29 (S89 k) (L89 k K) (bodyOf Try.f89) (cuts_of _ _ _ _ _ _ _ _ (bodyOf Try.f89) (l := [(0, sp89_0, cd89_0)]) (by kernel_rfl) ⟨l89_0 k K, trivial⟩)]
    kernel_rfl
noncomputable def s89 (k : Nat) (a : List PV) (r : List RowS) (K : List PV → List RowS → Option R) : Option R :=
  onShape [.val [] (.int .i64), .val [(0, 0)] (.slice (.int .u8))] [] (fun v => f89 k v.1.1 v.1.2.1 (fun z0 => K [.val [] (.int .u64) z0] [])) (callC T F k 89 a r K) a r
theorem s89_eq (k : Nat) (a : List PV) (r : List RowS) (K : List PV → List RowS → Option R) : s89 k a r K = callC T F k 89 a r K := by
  unfold s89
  exact onShape_eq (a := [.val [] (.int .i64), .val [(0, 0)] (.slice (.int .u8))]) (b := []) (G := fun a r => callC T F k 89 a r K) (fun x y => Eq.trans (by kernel_rfl) (Eq.trans (e89 k x.1 x.2.1 K).symm (by kernel_rfl))) a r
end
section
variable {R : Type}
noncomputable def S99 (k g : Nat) (a : List PV) (r : List RowS) (K : List PV → List RowS → Option R) : Option R := callC T F k g a r K
theorem S99_eq (k : Nat) : S99 (R := R) k = callC T F k := by
  funext g a r K
  exact rfl
section
variable {R : Type} (k : Nat) (K : List PV → List RowS → Option R)
noncomputable def L99_0 (ws : List PV) (rs : List RowS) (N : St → Option R) (X : Nat → St → Option R) : Option R :=
  onShape [.val [] (.int .u64), .val [(0, 0)] (.slice (.int .u8)), .val [] (.int .i64), .val [] (.int .i64)] [] (fun v => f99_0 k (fun y0_0 => N (sh jn99_0 [.val [] (.int .u64) y0_0] [])) v.1.2.1 v.1.2.2.1 k v.1.1 v.1.2.2.2.1) (inner T an99 (modesOf F) 0 k 20 (S99 k) (ending T Try.f99 an99 0 K) cd99_0 (sh sp99_0 ws rs) N X) ws rs
noncomputable def L99 (id : Nat) (ws : List PV) (rs : List RowS) (N : St → Option R) (X : Nat → St → Option R) : Option R := bif id == 0 then L99_0 k K ws rs N X else none
theorem b99_0 (rec : St → Option R) (N : St → Option R) (X : Nat → St → Option R) (v0_1 : List Int) (v0_2 : Int) (v0_0 : Int) (v0_3 : Int) :
    execS T an99 (modesOf F) 0 k 20 (S99 k) (L99 k K) (ending T Try.f99 an99 0 K) bd99_0 (sh sp99_0 [.val [] (.int .u64) v0_0, .val [(0, 0)] (.slice (.int .u8)) v0_1, .val [] (.int .i64) v0_2, .val [] (.int .i64) v0_3] []) (fun st => atHead an99 0 bd99_0 st rec) (outX an99 0 0 N X) =
      f99_0b k (fun v0_0 v0_3 => rec (sh sp99_0 [.val [] (.int .u64) v0_0, .val [(0, 0)] (.slice (.int .u8)) v0_1, .val [] (.int .i64) v0_2, .val [] (.int .i64) v0_3] [])) (fun y0_0 => N (sh jn99_0 [.val [] (.int .u64) y0_0] [])) v0_1 v0_2 v0_0 v0_3 := by kernel_rfl
theorem i99_0 (N : St → Option R) (X : Nat → St → Option R) (v0_1 : List Int) (v0_2 : Int) (m : Nat) : ∀ (v0_0 : Int) (v0_3 : Int),
    iter (atHead an99 0 bd99_0) m (fun st N' => exec T an99 (modesOf F) 0 k 20 (S99 k) (ending T Try.f99 an99 0 K) bd99_0 st N' (outX an99 0 0 N X)) (sh sp99_0 [.val [] (.int .u64) v0_0, .val [(0, 0)] (.slice (.int .u8)) v0_1, .val [] (.int .i64) v0_2, .val [] (.int .i64) v0_3] []) = f99_0d k (fun y0_0 => N (sh jn99_0 [.val [] (.int .u64) y0_0] [])) v0_1 v0_2 m v0_0 v0_3 := by
  induction m with
  | zero => intros; rfl
  | succ m ih =>
    intro v0_0 v0_3
    simp only [iter]
    rw [← execS_eq T an99 (modesOf F) 0 k 20 (S99 k) (L99 k K) bd99_0 (cuts_of _ _ _ _ _ _ _ _ bd99_0 (l := []) (by kernel_rfl) trivial)]
    refine (b99_0 k K _ N X v0_1 v0_2 v0_0 v0_3).trans ?_
    simp only [f99_0d, ih]
theorem l99_0 (ws : List PV) (rs : List RowS) (N : St → Option R) (X : Nat → St → Option R) : L99 k K 0 ws rs N X = inner T an99 (modesOf F) 0 k 20 (S99 k) (ending T Try.f99 an99 0 K) cd99_0 (sh sp99_0 ws rs) N X := by
  show L99_0 k K ws rs N X = _
  unfold L99_0
  rw [f99_0_def]
  exact onShape_eq (a := [.val [] (.int .u64), .val [(0, 0)] (.slice (.int .u8)), .val [] (.int .i64), .val [] (.int .i64)]) (b := []) (G := fun ws rs => inner T an99 (modesOf F) 0 k 20 (S99 k) (ending T Try.f99 an99 0 K) cd99_0 (sh sp99_0 ws rs) N X) (fun x y => Eq.trans (by kernel_rfl) (Eq.trans (i99_0 k K N X x.2.1 x.2.2.1 k x.1 x.2.2.2.1).symm (by kernel_rfl))) ws rs
end
theorem e99 (k : Nat) (a0 : List Int) (K : List PV → List RowS → Option R) : callC T F k 99 [.val [(0, 0)] (.slice (.int .u8)) a0] [] K = f99 k a0 (fun z0 => K [.val [] (.int .u64) z0] []) := by
  rw [f99_def]
  cases k with
  | zero => rfl
  | succ k =>
    refine Eq.trans (show _ = exec T an99 (modesOf F) 0 k 20 (callC T F k) (ending T Try.f99 an99 0 K) (bodyOf Try.f99) ⟨argEnv 0 [.val [(0, 0)] (.slice (.int .u8)) a0] (fun _ => none), rowsOf []⟩ (ending T Try.f99 an99 0 K) (fun _ _ => none) from by kernel_rfl) ?_
    rw [← S99_eq k, ← execS_eq T an99 (modesOf F) 0 k 20 (S99 k) (L99 k K) (bodyOf Try.f99) (cuts_of _ _ _ _ _ _ _ _ (bodyOf Try.f99) (l := [(0, sp99_0, cd99_0)]) (by kernel_rfl) ⟨l99_0 k K, trivial⟩)]
    kernel_rfl
noncomputable def s99 (k : Nat) (a : List PV) (r : List RowS) (K : List PV → List RowS → Option R) : Option R :=
  onShape [.val [(0, 0)] (.slice (.int .u8))] [] (fun v => f99 k v.1.1 (fun z0 => K [.val [] (.int .u64) z0] [])) (callC T F k 99 a r K) a r
theorem s99_eq (k : Nat) (a : List PV) (r : List RowS) (K : List PV → List RowS → Option R) : s99 k a r K = callC T F k 99 a r K := by
  unfold s99
  exact onShape_eq (a := [.val [(0, 0)] (.slice (.int .u8))]) (b := []) (G := fun a r => callC T F k 99 a r K) (fun x y => Eq.trans (by kernel_rfl) (Eq.trans (e99 k x.1 K).symm (by kernel_rfl))) a r
end
section
variable {R : Type}
theorem e103 (k : Nat) (a0 : Int) (a1 : List Int) (a2 : List Int) (K : List PV → List RowS → Option R) : callC T F k 103 [.rw 1, .val [] (.int .i64) a0, .rw 2] [⟨0, .arr [] (.int .i64) a1⟩, ⟨0, .arr [] (.int .i64) a2⟩] K = f103 k a0 a1 a2 (fun z0 z1 => K [.rw 3] [⟨0, .gone⟩, ⟨0, .arr [] (.int .i64) z0⟩, ⟨0, .arr [] (.int .i64) z1⟩]) := by
  rw [f103_def]
  cases k with
  | zero => rfl
  | succ k => exact ins_call (m := [.any, .any, .any]) (by kernel_rfl) a0 a1 a2 K
noncomputable def s103 (k : Nat) (a : List PV) (r : List RowS) (K : List PV → List RowS → Option R) : Option R :=
  onShape [.rw 1, .val [] (.int .i64), .rw 2] [.arr [] (.int .i64), .arr [] (.int .i64)] (fun v => f103 k v.1.2.1 v.2.1 v.2.2.1 (fun z0 z1 => K [.rw 3] [⟨0, .gone⟩, ⟨0, .arr [] (.int .i64) z0⟩, ⟨0, .arr [] (.int .i64) z1⟩])) (callC T F k 103 a r K) a r
theorem s103_eq (k : Nat) (a : List PV) (r : List RowS) (K : List PV → List RowS → Option R) : s103 k a r K = callC T F k 103 a r K := by
  unfold s103
  exact onShape_eq (a := [.rw 1, .val [] (.int .i64), .rw 2]) (b := [.arr [] (.int .i64), .arr [] (.int .i64)]) (G := fun a r => callC T F k 103 a r K) (fun x y => Eq.trans (by kernel_rfl) (Eq.trans (e103 k x.2.1 y.1 y.2.1 K).symm (by kernel_rfl))) a r
end
section
variable {R : Type}
noncomputable def S100 (k g : Nat) (a : List PV) (r : List RowS) (K : List PV → List RowS → Option R) : Option R := bif g == 86 then s86 k a r K else bif g == 103 then s103 k a r K else callC T F k g a r K
theorem S100_eq (k : Nat) : S100 (R := R) k = callC T F k := by
  funext g a r K
  exact pick_eq (fun e => by subst e; exact s86_eq k a r K) (pick_eq (fun e => by subst e; exact s103_eq k a r K) (rfl))
section
variable {R : Type} (k : Nat) (K : List PV → List RowS → Option R)
noncomputable def L100_0 (ws : List PV) (rs : List RowS) (N : St → Option R) (X : Nat → St → Option R) : Option R :=
  onShape [.val [] (.int .i64), .ptr 1 0, .ptr 2 0, .rw 3, .val [] (.int .i64)] [.vars [.val [] (.int .i64), .val [] (.int .i64), .val [(0, 0)] (.slice (.int .i64))], .vars [.val [] (.int .i64), .val [] (.int .i64), .nils], .arr [] (.int .i64)] (fun v => f100_0 k (fun y0_1 => N (sh jn100_0 [.val [] (.int .i64) v.1.1, .ptr 1 0, .ptr 2 0, .rw 3, .val [] (.int .i64) y0_1] [⟨0, .vars [.val [] (.int .i64) v.2.1.1, .val [] (.int .i64) v.2.1.2.1, .val [(0, 0)] (.slice (.int .i64)) v.2.1.2.2.1]⟩, ⟨0, .vars [.val [] (.int .i64) v.2.2.1.1, .val [] (.int .i64) v.2.2.1.2.1, .nils]⟩, ⟨0, .arr [] (.int .i64) v.2.2.2.1⟩])) v.1.1 v.2.1.1 v.2.1.2.1 v.2.1.2.2.1 v.2.2.1.1 v.2.2.1.2.1 v.2.2.2.1 k v.1.2.2.2.2.1) (inner T an100 (modesOf F) 0 k 49 (S100 k) (ending T Try.f100 an100 0 K) cd100_0 (sh sp100_0 ws rs) N X) ws rs
noncomputable def L100_2 (ws : List PV) (rs : List RowS) (N : St → Option R) (X : Nat → St → Option R) : Option R :=
  onShape [.ptr 1 0, .ptr 2 0, .rw 3] [.vars [.val [] (.int .i64), .val [] (.int .i64), .val [(0, 0)] (.slice (.int .i64))], .vars [.val [] (.int .i64), .val [] (.int .i64), .nils], .arr [] (.int .i64)] (fun v => f100_2 k (fun y2_1 y2_5 => N (sh jn100_2 [.ptr 1 0, .ptr 2 0, .rw 3] [⟨0, .vars [.val [] (.int .i64) v.2.1.1, .val [] (.int .i64) y2_1, .val [(0, 0)] (.slice (.int .i64)) v.2.1.2.2.1]⟩, ⟨0, .vars [.val [] (.int .i64) v.2.2.1.1, .val [] (.int .i64) v.2.2.1.2.1, .nils]⟩, ⟨0, .arr [] (.int .i64) y2_5⟩])) v.2.1.1 v.2.1.2.2.1 v.2.2.1.1 v.2.2.1.2.1 k v.2.1.2.1 v.2.2.2.1) (inner T an100 (modesOf F) 0 k 49 (S100 k) (ending T Try.f100 an100 0 K) cd100_2 (sh sp100_2 ws rs) N X) ws rs
noncomputable def L100 (id : Nat) (ws : List PV) (rs : List RowS) (N : St → Option R) (X : Nat → St → Option R) : Option R := bif id == 0 then L100_0 k K ws rs N X else bif id == 2 then L100_2 k K ws rs N X else none
theorem b100_0 (rec : St → Option R) (N : St → Option R) (X : Nat → St → Option R) (v0_0 : Int) (v0_2 : Int) (v0_3 : Int) (v0_4 : List Int) (v0_5 : Int) (v0_6 : Int) (v0_7 : List Int) (v0_1 : Int) :
    execS T an100 (modesOf F) 0 k 49 (S100 k) (L100 k K) (ending T Try.f100 an100 0 K) bd100_0 (sh sp100_0 [.val [] (.int .i64) v0_0, .ptr 1 0, .ptr 2 0, .rw 3, .val [] (.int .i64) v0_1] [⟨0, .vars [.val [] (.int .i64) v0_2, .val [] (.int .i64) v0_3, .val [(0, 0)] (.slice (.int .i64)) v0_4]⟩, ⟨0, .vars [.val [] (.int .i64) v0_5, .val [] (.int .i64) v0_6, .nils]⟩, ⟨0, .arr [] (.int .i64) v0_7⟩]) (fun st => atHead an100 0 bd100_0 st rec) (outX an100 0 0 N X) =
      f100_0b k (fun v0_1 => rec (sh sp100_0 [.val [] (.int .i64) v0_0, .ptr 1 0, .ptr 2 0, .rw 3, .val [] (.int .i64) v0_1] [⟨0, .vars [.val [] (.int .i64) v0_2, .val [] (.int .i64) v0_3, .val [(0, 0)] (.slice (.int .i64)) v0_4]⟩, ⟨0, .vars [.val [] (.int .i64) v0_5, .val [] (.int .i64) v0_6, .nils]⟩, ⟨0, .arr [] (.int .i64) v0_7⟩])) (fun y0_1 => N (sh jn100_0 [.val [] (.int .i64) v0_0, .ptr 1 0, .ptr 2 0, .rw 3, .val [] (.int .i64) y0_1] [⟨0, .vars [.val [] (.int .i64) v0_2, .val [] (.int .i64) v0_3, .val [(0, 0)] (.slice (.int .i64)) v0_4]⟩, ⟨0, .vars [.val [] (.int .i64) v0_5, .val [] (.int .i64) v0_6, .nils]⟩, ⟨0, .arr [] (.int .i64) v0_7⟩])) v0_0 v0_2 v0_3 v0_4 v0_5 v0_6 v0_7 v0_1 := by kernel_rfl
theorem i100_0 (N : St → Option R) (X : Nat → St → Option R) (v0_0 : Int) (v0_2 : Int) (v0_3 : Int) (v0_4 : List Int) (v0_5 : Int) (v0_6 : Int) (v0_7 : List Int) (m : Nat) : ∀ (v0_1 : Int),
    iter (atHead an100 0 bd100_0) m (fun st N' => exec T an100 (modesOf F) 0 k 49 (S100 k) (ending T Try.f100 an100 0 K) bd100_0 st N' (outX an100 0 0 N X)) (sh sp100_0 [.val [] (.int .i64) v0_0, .ptr 1 0, .ptr 2 0, .rw 3, .val [] (.int .i64) v0_1] [⟨0, .vars [.val [] (.int .i64) v0_2, .val [] (.int .i64) v0_3, .val [(0, 0)] (.slice (.int .i64)) v0_4]⟩, ⟨0, .vars [.val [] (.int .i64) v0_5, .val [] (.int .i64) v0_6, .nils]⟩, ⟨0, .arr [] (.int .i64) v0_7⟩]) = f100_0d k (fun y0_1 => N (sh jn100_0 [.val [] (.int .i64) v0_0, .ptr 1 0, .ptr 2 0, .rw 3, .val [] (.int .i64) y0_1] [⟨0, .vars [.val [] (.int .i64) v0_2, .val [] (.int .i64) v0_3, .val [(0, 0)] (.slice (.int .i64)) v0_4]⟩, ⟨0, .vars [.val [] (.int .i64) v0_5, .val [] (.int .i64) v0_6, .nils]⟩, ⟨0, .arr [] (.int .i64) v0_7⟩])) v0_0 v0_2 v0_3 v0_4 v0_5 v0_6 v0_7 m v0_1 := by
  induction m with
  | zero => intros; rfl
  | succ m ih =>
    intro v0_1
    simp only [iter]
    rw [← execS_eq T an100 (modesOf F) 0 k 49 (S100 k) (L100 k K) bd100_0 (cuts_of _ _ _ _ _ _ _ _ bd100_0 (l := []) (by kernel_rfl) trivial)]
    refine (b100_0 k K _ N X v0_0 v0_2 v0_3 v0_4 v0_5 v0_6 v0_7 v0_1).trans ?_
    simp only [f100_0d, ih]
theorem l100_0 (ws : List PV) (rs : List RowS) (N : St → Option R) (X : Nat → St → Option R) : L100 k K 0 ws rs N X = inner T an100 (modesOf F) 0 k 49 (S100 k) (ending T Try.f100 an100 0 K) cd100_0 (sh sp100_0 ws rs) N X := by
  show L100_0 k K ws rs N X = _
  unfold L100_0
  rw [f100_0_def]
  exact onShape_eq (a := [.val [] (.int .i64), .ptr 1 0, .ptr 2 0, .rw 3, .val [] (.int .i64)]) (b := [.vars [.val [] (.int .i64), .val [] (.int .i64), .val [(0, 0)] (.slice (.int .i64))], .vars [.val [] (.int .i64), .val [] (.int .i64), .nils], .arr [] (.int .i64)]) (G := fun ws rs => inner T an100 (modesOf F) 0 k 49 (S100 k) (ending T Try.f100 an100 0 K) cd100_0 (sh sp100_0 ws rs) N X) (fun x y => Eq.trans (by kernel_rfl) (Eq.trans (i100_0 k K N X x.1 y.1.1 y.1.2.1 y.1.2.2.1 y.2.1.1 y.2.1.2.1 y.2.2.1 k x.2.2.2.2.1).symm (by kernel_rfl))) ws rs
theorem b100_2 (rec : St → Option R) (N : St → Option R) (X : Nat → St → Option R) (v2_0 : Int) (v2_2 : List Int) (v2_3 : Int) (v2_4 : Int) (v2_1 : Int) (v2_5 : List Int) :
    execS T an100 (modesOf F) 0 k 49 (S100 k) (L100 k K) (ending T Try.f100 an100 0 K) bd100_2 (sh sp100_2 [.ptr 1 0, .ptr 2 0, .rw 3] [⟨0, .vars [.val [] (.int .i64) v2_0, .val [] (.int .i64) v2_1, .val [(0, 0)] (.slice (.int .i64)) v2_2]⟩, ⟨0, .vars [.val [] (.int .i64) v2_3, .val [] (.int .i64) v2_4, .nils]⟩, ⟨0, .arr [] (.int .i64) v2_5⟩]) (fun st => atHead an100 0 bd100_2 st rec) (outX an100 0 2 N X) =
      f100_2b k (fun v2_1 v2_5 => rec (sh sp100_2 [.ptr 1 0, .ptr 2 0, .rw 3] [⟨0, .vars [.val [] (.int .i64) v2_0, .val [] (.int .i64) v2_1, .val [(0, 0)] (.slice (.int .i64)) v2_2]⟩, ⟨0, .vars [.val [] (.int .i64) v2_3, .val [] (.int .i64) v2_4, .nils]⟩, ⟨0, .arr [] (.int .i64) v2_5⟩])) (fun y2_1 y2_5 => N (sh jn100_2 [.ptr 1 0, .ptr 2 0, .rw 3] [⟨0, .vars [.val [] (.int .i64) v2_0, .val [] (.int .i64) y2_1, .val [(0, 0)] (.slice (.int .i64)) v2_2]⟩, ⟨0, .vars [.val [] (.int .i64) v2_3, .val [] (.int .i64) v2_4, .nils]⟩, ⟨0, .arr [] (.int .i64) y2_5⟩])) v2_0 v2_2 v2_3 v2_4 v2_1 v2_5 := by kernel_rfl
theorem i100_2 (N : St → Option R) (X : Nat → St → Option R) (v2_0 : Int) (v2_2 : List Int) (v2_3 : Int) (v2_4 : Int) (m : Nat) : ∀ (v2_1 : Int) (v2_5 : List Int),
    iter (atHead an100 0 bd100_2) m (fun st N' => exec T an100 (modesOf F) 0 k 49 (S100 k) (ending T Try.f100 an100 0 K) bd100_2 st N' (outX an100 0 2 N X)) (sh sp100_2 [.ptr 1 0, .ptr 2 0, .rw 3] [⟨0, .vars [.val [] (.int .i64) v2_0, .val [] (.int .i64) v2_1, .val [(0, 0)] (.slice (.int .i64)) v2_2]⟩, ⟨0, .vars [.val [] (.int .i64) v2_3, .val [] (.int .i64) v2_4, .nils]⟩, ⟨0, .arr [] (.int .i64) v2_5⟩]) = f100_2d k (fun y2_1 y2_5 => N (sh jn100_2 [.ptr 1 0, .ptr 2 0, .rw 3] [⟨0, .vars [.val [] (.int .i64) v2_0, .val [] (.int .i64) y2_1, .val [(0, 0)] (.slice (.int .i64)) v2_2]⟩, ⟨0, .vars [.val [] (.int .i64) v2_3, .val [] (.int .i64) v2_4, .nils]⟩, ⟨0, .arr [] (.int .i64) y2_5⟩])) v2_0 v2_2 v2_3 v2_4 m v2_1 v2_5 := by
  induction m with
  | zero => intros; rfl
  | succ m ih =>
    intro v2_1 v2_5
    simp only [iter]
    rw [← execS_eq T an100 (modesOf F) 0 k 49 (S100 k) (L100 k K) bd100_2 (cuts_of _ _ _ _ _ _ _ _ bd100_2 (l := []) (by kernel_rfl) trivial)]
    refine (b100_2 k K _ N X v2_0 v2_2 v2_3 v2_4 v2_1 v2_5).trans ?_
    simp only [f100_2d, ih]
theorem l100_2 (ws : List PV) (rs : List RowS) (N : St → Option R) (X : Nat → St → Option R) : L100 k K 2 ws rs N X = inner T an100 (modesOf F) 0 k 49 (S100 k) (ending T Try.f100 an100 0 K) cd100_2 (sh sp100_2 ws rs) N X := by
  show L100_2 k K ws rs N X = _
  unfold L100_2
  rw [f100_2_def]
  exact onShape_eq (a := [.ptr 1 0, .ptr 2 0, .rw 3]) (b := [.vars [.val [] (.int .i64), .val [] (.int .i64), .val [(0, 0)] (.slice (.int .i64))], .vars [.val [] (.int .i64), .val [] (.int .i64), .nils], .arr [] (.int .i64)]) (G := fun ws rs => inner T an100 (modesOf F) 0 k 49 (S100 k) (ending T Try.f100 an100 0 K) cd100_2 (sh sp100_2 ws rs) N X) (fun x y => Eq.trans (by kernel_rfl) (Eq.trans (i100_2 k K N X y.1.1 y.1.2.2.1 y.2.1.1 y.2.1.2.1 k y.1.2.1 y.2.2.1).symm (by kernel_rfl))) ws rs
end
theorem e100 (k : Nat) (a0 : Int) (a1 : Int) (a2 : List Int) (a3 : Int) (K : List PV → List RowS → Option R) : callC T F k 100 [.agg [.val [] (.int .i64) a0, .val [] (.int .i64) a1, .val [(0, 0)] (.slice (.int .i64)) a2], .val [] (.int .i64) a3] [] K = f100 k a0 a1 a2 a3 (fun z0 z1 z2 => K [.agg [.val [] (.int .i64) z0, .val [] (.int .i64) z1, .rw 1]] [⟨0, .arr [] (.int .i64) z2⟩]) := by
  rw [f100_def]
  cases k with
  | zero => rfl
  | succ k =>
    refine Eq.trans (show _ = exec T an100 (modesOf F) 0 k 49 (callC T F k) (ending T Try.f100 an100 0 K) (bodyOf Try.f100) ⟨argEnv 0 [.agg [.val [] (.int .i64) a0, .val [] (.int .i64) a1, .val [(0, 0)] (.slice (.int .i64)) a2], .val [] (.int .i64) a3] (fun _ => none), rowsOf []⟩ (ending T Try.f100 an100 0 K) (fun _ _ => none) from by kernel_rfl) ?_
    rw [← S100_eq k, ← execS_eq T an100 (modesOf F) 0 k 49 (S100 k) (L100 k K) (bodyOf Try.f100) (cuts_of _ _ _ _ _ _ _ _ (bodyOf Try.f100) (l := [(0, sp100_0, cd100_0), (2, sp100_2, cd100_2)]) (by kernel_rfl) ⟨l100_0 k K, l100_2 k K, trivial⟩)]
    kernel_rfl
noncomputable def s100 (k : Nat) (a : List PV) (r : List RowS) (K : List PV → List RowS → Option R) : Option R :=
  onShape [.agg [.val [] (.int .i64), .val [] (.int .i64), .val [(0, 0)] (.slice (.int .i64))], .val [] (.int .i64)] [] (fun v => f100 k v.1.1.1 v.1.1.2.1 v.1.1.2.2.1 v.1.2.1 (fun z0 z1 z2 => K [.agg [.val [] (.int .i64) z0, .val [] (.int .i64) z1, .rw 1]] [⟨0, .arr [] (.int .i64) z2⟩])) (callC T F k 100 a r K) a r
theorem s100_eq (k : Nat) (a : List PV) (r : List RowS) (K : List PV → List RowS → Option R) : s100 k a r K = callC T F k 100 a r K := by
  unfold s100
  exact onShape_eq (a := [.agg [.val [] (.int .i64), .val [] (.int .i64), .val [(0, 0)] (.slice (.int .i64))], .val [] (.int .i64)]) (b := []) (G := fun a r => callC T F k 100 a r K) (fun x y => Eq.trans (by kernel_rfl) (Eq.trans (e100 k x.1.1 x.1.2.1 x.1.2.2.1 x.2.1 K).symm (by kernel_rfl))) a r
end
end Go.Proofs.Ytadkplikobhckaa.PM
