/- The small machine's run is the typed form (printed by a program of this work). -/
import Derived.Test.YtahdmfboidjkoaaPA0
set_option linter.unusedVariables false
set_option linter.unusedSimpArgs false
set_option maxRecDepth 100000
namespace Go.Proofs.Ytahdmfboidjkoaa.PM
open Go
noncomputable def F : Nat → Option PFn := findN [(66, .code Try.f66 an66), (30, .code Try.f30 an30), (41, .ext [.lend (.int .u8)] (cloneSpec (.int .u8) 1)), (25, .code Try.f25 an25), (69, .code Try.f69 an69), (31, .code Try.f31 an31), (26, .code Try.f26 an26), (32, .code Try.f32 an32), (24, .code Try.f24 an24), (27, .code Try.f27 an27), (19, .code Try.f19 an19), (21, .code Try.f21 an21), (5, .code Try.f5 an5), (96, .code Try.f96 an96), (75, .code Try.f75 an75), (79, .code Try.f79 an79), (78, .code Try.f78 an78), (40, .code Try.f40 an40), (97, .code Try.f97 an97), (65, .code Try.f65 an65), (67, .code Try.f67 an67), (35, .code Try.f35 an35), (37, .code Try.f37 an37), (80, .code Try.f80 an80), (43, .code Try.f43 an43), (76, .code Try.f76 an76), (105, .code Try.f105 an105), (98, .code Try.f98 an98), (81, .code Try.f81 an81), (20, .code Try.f20 an20), (68, .code Try.f68 an68), (77, .code Try.f77 an77), (36, .code Try.f36 an36), (38, .code Try.f38 an38), (82, .code Try.f82 an82), (44, .code Try.f44 an44), (39, .code Try.f39 an39), (45, .code Try.f45 an45), (9, .code Try.f9 an9), (46, .code Try.f46 an46), (47, .ext [.lend (.int .i64)] (cloneSpec (.int .i64) 8)), (42, .code Try.f42 an42), (10, .code Try.f10 an10), (83, .code Try.f83 an83), (72, .code Try.f72 an72), (73, .code Try.f73 an73), (70, .code Try.f70 an70), (48, .code Try.f48 an48), (84, .code Try.f84 an84), (95, .code Try.f95 an95), (71, .code Try.f71 an71), (49, .code Try.f49 an49), (11, .code Try.f11 an11), (22, .code Try.f22 an22), (85, .code Try.f85 an85), (50, .code Try.f50 an50), (23, .code Try.f23 an23), (86, .code Try.f86 an86), (51, .code Try.f51 an51), (12, .code Try.f12 an12), (33, .code Try.f33 an33), (52, .code Try.f52 an52), (74, .code Try.f74 an74), (53, .code Try.f53 an53), (54, .code Try.f54 an54), (55, .code Try.f55 an55), (13, .code Try.f13 an13), (14, .code Try.f14 an14), (15, .code Try.f15 an15)]
section
variable {R : Type}
noncomputable def S66 (k g : Nat) (a : List PV) (r : List RowS) (K : List PV → List RowS → Option R) : Option R := callC T F k g a r K
theorem S66_eq (k : Nat) : S66 (R := R) k = callC T F k := by
  funext g a r K
  exact rfl
theorem e66 (k : Nat) (a0 : Int) (a1 : Int) (a2 : Int) (K : List PV → List RowS → Option R) : callC T F k 66 [.val [] (.int .i64) a0, .val [] (.int .i64) a1, .val [] (.int .i64) a2] [] K = f66 k a0 a1 a2 (fun z0 => K [.val [] .bool z0] []) := by
  rw [f66_def]
  cases k with
  | zero => rfl
  | succ k =>
    refine Eq.trans (show _ = exec T an66 (modesOf F) 0 k 15 (callC T F k) (ending T Try.f66 an66 0 K) (bodyOf Try.f66) ⟨argEnv 0 [.val [] (.int .i64) a0, .val [] (.int .i64) a1, .val [] (.int .i64) a2] (fun _ => none), rowsOf []⟩ (ending T Try.f66 an66 0 K) (fun _ _ => none) from by kernel_rfl) ?_
    rw [← S66_eq k, ← execS_eq T an66 (modesOf F) 0 k 15 (S66 k) (fun _ _ _ _ _ => none) (bodyOf Try.f66) (cuts_of _ _ _ _ _ _ _ _ (bodyOf Try.f66) (l := []) (by kernel_rfl) trivial)]
    kernel_rfl
noncomputable def s66 (k : Nat) (a : List PV) (r : List RowS) (K : List PV → List RowS → Option R) : Option R :=
  onShape [.val [] (.int .i64), .val [] (.int .i64), .val [] (.int .i64)] [] (fun v => f66 k v.1.1 v.1.2.1 v.1.2.2.1 (fun z0 => K [.val [] .bool z0] [])) (callC T F k 66 a r K) a r
theorem s66_eq (k : Nat) (a : List PV) (r : List RowS) (K : List PV → List RowS → Option R) : s66 k a r K = callC T F k 66 a r K := by
  unfold s66
  exact onShape_eq (a := [.val [] (.int .i64), .val [] (.int .i64), .val [] (.int .i64)]) (b := []) (G := fun a r => callC T F k 66 a r K) (fun x y => Eq.trans (by kernel_rfl) (Eq.trans (e66 k x.1 x.2.1 x.2.2.1 K).symm (by kernel_rfl))) a r
end
section
variable {R : Type}
noncomputable def S30 (k g : Nat) (a : List PV) (r : List RowS) (K : List PV → List RowS → Option R) : Option R := bif g == 66 then s66 k a r K else callC T F k g a r K
theorem S30_eq (k : Nat) : S30 (R := R) k = callC T F k := by
  funext g a r K
  exact pick_eq (fun e => by subst e; exact s66_eq k a r K) (rfl)
theorem e30 (k : Nat) (a0 : Int) (a1 : Bool) (a2 : Int) (a3 : Int) (a4 : List Int) (K : List PV → List RowS → Option R) : callC T F k 30 [.agg [.val [] (.int .i64) a0, .val [] .bool a1, .val [] (.int .i64) a2, .val [] (.int .i64) a3, .val [(0, 0)] (.slice (.int .u8)) a4]] [] K = f30 k a0 a1 a2 a3 a4 (fun z0 => K [.val [] (.int .i64) z0] []) := by
  rw [f30_def]
  cases k with
  | zero => rfl
  | succ k =>
    refine Eq.trans (show _ = exec T an30 (modesOf F) 0 k 28 (callC T F k) (ending T Try.f30 an30 0 K) (bodyOf Try.f30) ⟨argEnv 0 [.agg [.val [] (.int .i64) a0, .val [] .bool a1, .val [] (.int .i64) a2, .val [] (.int .i64) a3, .val [(0, 0)] (.slice (.int .u8)) a4]] (fun _ => none), rowsOf []⟩ (ending T Try.f30 an30 0 K) (fun _ _ => none) from by kernel_rfl) ?_
    rw [← S30_eq k, ← execS_eq T an30 (modesOf F) 0 k 28 (S30 k) (fun _ _ _ _ _ => none) (bodyOf Try.f30) (cuts_of _ _ _ _ _ _ _ _ (bodyOf Try.f30) (l := []) (by kernel_rfl) trivial)]
    kernel_rfl
noncomputable def s30 (k : Nat) (a : List PV) (r : List RowS) (K : List PV → List RowS → Option R) : Option R :=
  onShape [.agg [.val [] (.int .i64), .val [] .bool, .val [] (.int .i64), .val [] (.int .i64), .val [(0, 0)] (.slice (.int .u8))]] [] (fun v => f30 k v.1.1.1 v.1.1.2.1 v.1.1.2.2.1 v.1.1.2.2.2.1 v.1.1.2.2.2.2.1 (fun z0 => K [.val [] (.int .i64) z0] [])) (callC T F k 30 a r K) a r
theorem s30_eq (k : Nat) (a : List PV) (r : List RowS) (K : List PV → List RowS → Option R) : s30 k a r K = callC T F k 30 a r K := by
  unfold s30
  exact onShape_eq (a := [.agg [.val [] (.int .i64), .val [] .bool, .val [] (.int .i64), .val [] (.int .i64), .val [(0, 0)] (.slice (.int .u8))]]) (b := []) (G := fun a r => callC T F k 30 a r K) (fun x y => Eq.trans (by kernel_rfl) (Eq.trans (e30 k x.1.1 x.1.2.1 x.1.2.2.1 x.1.2.2.2.1 x.1.2.2.2.2.1 K).symm (by kernel_rfl))) a r
end
section
variable {R : Type}
theorem e41 (k : Nat) (a0 : List Int) (K : List PV → List RowS → Option R) : callC T F k 41 [.val [(0, 0)] (.slice (.int .u8)) a0] [] K = f41 k a0 (fun z0 => K [.rw 1] [⟨0, .arr [] (.int .u8) z0⟩]) := by
  rw [f41_def]
  cases k with
  | zero => rfl
  | succ k => exact clone_call (m := [.lend (.int .u8)]) (ty := (.int .u8)) (bytes := 1) (by kernel_rfl) a0 K
noncomputable def s41 (k : Nat) (a : List PV) (r : List RowS) (K : List PV → List RowS → Option R) : Option R :=
  onShape [.val [(0, 0)] (.slice (.int .u8))] [] (fun v => f41 k v.1.1 (fun z0 => K [.rw 1] [⟨0, .arr [] (.int .u8) z0⟩])) (callC T F k 41 a r K) a r
theorem s41_eq (k : Nat) (a : List PV) (r : List RowS) (K : List PV → List RowS → Option R) : s41 k a r K = callC T F k 41 a r K := by
  unfold s41
  exact onShape_eq (a := [.val [(0, 0)] (.slice (.int .u8))]) (b := []) (G := fun a r => callC T F k 41 a r K) (fun x y => Eq.trans (by kernel_rfl) (Eq.trans (e41 k x.1 K).symm (by kernel_rfl))) a r
end
section
variable {R : Type}
noncomputable def S25 (k g : Nat) (a : List PV) (r : List RowS) (K : List PV → List RowS → Option R) : Option R := bif g == 30 then s30 k a r K else bif g == 41 then s41 k a r K else bif g == 66 then s66 k a r K else callC T F k g a r K
theorem S25_eq (k : Nat) : S25 (R := R) k = callC T F k := by
  funext g a r K
  exact pick_eq (fun e => by subst e; exact s30_eq k a r K) (pick_eq (fun e => by subst e; exact s41_eq k a r K) (pick_eq (fun e => by subst e; exact s66_eq k a r K) (rfl)))
section
variable {R : Type} (k : Nat) (K : List PV → List RowS → Option R)
noncomputable def L25_1000019 (ws : List PV) (rs : List RowS) (N : St → Option R) (X : Nat → St → Option R) : Option R :=
  onShape [.val [] (.int .i64), .val [] .bool, .val [] (.int .i64), .val [(0, 0)] (.slice (.int .u8)), .val [] (.int .i64), .val [] (.int .i64), .rw 1, .val [] (.int .i64), .ptr 2 0, .val [] (.int .i64), .val [] (.int .i64), .val [] .bool] [.arr [] (.prod (.int .i64) (.prod .bool (.prod (.int .i64) (.prod (.int .i64) (.prod (.slice (.int .u8)) .unit))))), .vars [.val [] (.int .i64), .val [] .bool, .val [] (.int .i64), .val [] (.int .i64), .rw 3], .arr [] (.int .u8)] (fun v => f25_1000019 k (fun yN_12 => N (sh fi25_19 [.val [] (.int .i64) v.1.1, .val [] .bool v.1.2.1, .val [] (.int .i64) v.1.2.2.1, .val [(0, 0)] (.slice (.int .u8)) v.1.2.2.2.1, .val [] (.int .i64) v.1.2.2.2.2.1, .val [] (.int .i64) v.1.2.2.2.2.2.1, .rw 1, .val [] (.int .i64) v.1.2.2.2.2.2.2.2.1, .ptr 2 0, .val [] (.int .i64) v.1.2.2.2.2.2.2.2.2.2.1, .val [] (.int .i64) v.1.2.2.2.2.2.2.2.2.2.2.1] [⟨0, .arr [] (.prod (.int .i64) (.prod .bool (.prod (.int .i64) (.prod (.int .i64) (.prod (.slice (.int .u8)) .unit))))) v.2.1⟩, ⟨0, .vars [.val [] (.int .i64) v.2.2.1.1, .val [] .bool v.2.2.1.2.1, .val [] (.int .i64) yN_12, .val [] (.int .i64) v.2.2.1.2.2.2.1, .rw 3]⟩, ⟨0, .arr [] (.int .u8) v.2.2.2.1⟩])) v.1.1 v.1.2.1 v.1.2.2.1 v.1.2.2.2.1 v.1.2.2.2.2.1 v.1.2.2.2.2.2.1 v.1.2.2.2.2.2.2.2.1 v.1.2.2.2.2.2.2.2.2.2.1 v.1.2.2.2.2.2.2.2.2.2.2.1 v.1.2.2.2.2.2.2.2.2.2.2.2.1 v.2.1 v.2.2.1.1 v.2.2.1.2.1 v.2.2.1.2.2.1 v.2.2.1.2.2.2.1 v.2.2.2.1) (inner T an25 (modesOf F) 0 k 90 (S25 k) (ending T Try.f25 an25 0 K) cd25_1000019 (sh sp25_1000019 ws rs) N X) ws rs
noncomputable def L25_1000021 (ws : List PV) (rs : List RowS) (N : St → Option R) (X : Nat → St → Option R) : Option R :=
  onShape [.val [] (.int .i64), .val [] .bool, .val [] (.int .i64), .val [(0, 0)] (.slice (.int .u8)), .val [] (.int .i64), .val [] (.int .i64), .rw 1, .ptr 2 0, .val [] (.int .i64), .val [] (.int .i64), .val [] .bool] [.arr [] (.prod (.int .i64) (.prod .bool (.prod (.int .i64) (.prod (.int .i64) (.prod (.slice (.int .u8)) .unit))))), .vars [.val [] (.int .i64), .val [] .bool, .val [] (.int .i64), .val [] (.int .i64), .rw 3], .arr [] (.int .u8)] (fun v => f25_1000021 k (fun yN_11 => N (sh fi25_21 [.val [] (.int .i64) v.1.1, .val [] .bool v.1.2.1, .val [] (.int .i64) v.1.2.2.1, .val [(0, 0)] (.slice (.int .u8)) v.1.2.2.2.1, .val [] (.int .i64) v.1.2.2.2.2.1, .val [] (.int .i64) v.1.2.2.2.2.2.1, .rw 1, .ptr 2 0, .val [] (.int .i64) v.1.2.2.2.2.2.2.2.2.1, .val [] (.int .i64) v.1.2.2.2.2.2.2.2.2.2.1] [⟨0, .arr [] (.prod (.int .i64) (.prod .bool (.prod (.int .i64) (.prod (.int .i64) (.prod (.slice (.int .u8)) .unit))))) v.2.1⟩, ⟨0, .vars [.val [] (.int .i64) v.2.2.1.1, .val [] .bool v.2.2.1.2.1, .val [] (.int .i64) yN_11, .val [] (.int .i64) v.2.2.1.2.2.2.1, .rw 3]⟩, ⟨0, .arr [] (.int .u8) v.2.2.2.1⟩])) v.1.1 v.1.2.1 v.1.2.2.1 v.1.2.2.2.1 v.1.2.2.2.2.1 v.1.2.2.2.2.2.1 v.1.2.2.2.2.2.2.2.2.1 v.1.2.2.2.2.2.2.2.2.2.1 v.1.2.2.2.2.2.2.2.2.2.2.1 v.2.1 v.2.2.1.1 v.2.2.1.2.1 v.2.2.1.2.2.1 v.2.2.1.2.2.2.1 v.2.2.2.1) (inner T an25 (modesOf F) 0 k 90 (S25 k) (ending T Try.f25 an25 0 K) cd25_1000021 (sh sp25_1000021 ws rs) N X) ws rs
noncomputable def L25_1 (ws : List PV) (rs : List RowS) (N : St → Option R) (X : Nat → St → Option R) : Option R :=
  onShape [.val [] (.int .i64), .val [] .bool, .val [] (.int .i64), .val [(0, 0)] (.slice (.int .u8)), .val [] (.int .i64), .val [] (.int .i64), .rw 1, .val [] (.int .i64), .val [] (.int .i64)] [.arr [] (.prod (.int .i64) (.prod .bool (.prod (.int .i64) (.prod (.int .i64) (.prod (.slice (.int .u8)) .unit)))))] (fun v => f25_1 k (fun y1_0 => N (sh jn25_1 [.rw 1] [⟨0, .arr [] (.prod (.int .i64) (.prod .bool (.prod (.int .i64) (.prod (.int .i64) (.prod (.slice (.int .u8)) .unit))))) y1_0⟩])) v.1.1 v.1.2.1 v.1.2.2.1 v.1.2.2.2.1 v.1.2.2.2.2.1 v.1.2.2.2.2.2.1 v.1.2.2.2.2.2.2.2.1 k v.1.2.2.2.2.2.2.2.2.1 v.2.1) (inner T an25 (modesOf F) 0 k 90 (S25 k) (ending T Try.f25 an25 0 K) cd25_1 (sh sp25_1 ws rs) N X) ws rs
noncomputable def L25 (id : Nat) (ws : List PV) (rs : List RowS) (N : St → Option R) (X : Nat → St → Option R) : Option R := bif id == 1000019 then L25_1000019 k K ws rs N X else bif id == 1000021 then L25_1000021 k K ws rs N X else bif id == 1 then L25_1 k K ws rs N X else none
theorem l25_1000019 (ws : List PV) (rs : List RowS) (N : St → Option R) (X : Nat → St → Option R) : L25 k K 1000019 ws rs N X = inner T an25 (modesOf F) 0 k 90 (S25 k) (ending T Try.f25 an25 0 K) cd25_1000019 (sh sp25_1000019 ws rs) N X := by
  show L25_1000019 k K ws rs N X = _
  unfold L25_1000019
  rw [f25_1000019_def]
  exact onShape_eq (a := [.val [] (.int .i64), .val [] .bool, .val [] (.int .i64), .val [(0, 0)] (.slice (.int .u8)), .val [] (.int .i64), .val [] (.int .i64), .rw 1, .val [] (.int .i64), .ptr 2 0, .val [] (.int .i64), .val [] (.int .i64), .val [] .bool]) (b := [.arr [] (.prod (.int .i64) (.prod .bool (.prod (.int .i64) (.prod (.int .i64) (.prod (.slice (.int .u8)) .unit))))), .vars [.val [] (.int .i64), .val [] .bool, .val [] (.int .i64), .val [] (.int .i64), .rw 3], .arr [] (.int .u8)]) (G := fun ws rs => inner T an25 (modesOf F) 0 k 90 (S25 k) (ending T Try.f25 an25 0 K) cd25_1000019 (sh sp25_1000019 ws rs) N X) (fun x y => Eq.trans (by kernel_rfl) (innerS_eq T an25 (modesOf F) 0 k 90 (S25 k) (L25 k K) cd25_1000019 (l := []) (by kernel_rfl) trivial _ N X)) ws rs
theorem l25_1000021 (ws : List PV) (rs : List RowS) (N : St → Option R) (X : Nat → St → Option R) : L25 k K 1000021 ws rs N X = inner T an25 (modesOf F) 0 k 90 (S25 k) (ending T Try.f25 an25 0 K) cd25_1000021 (sh sp25_1000021 ws rs) N X := by
  show L25_1000021 k K ws rs N X = _
  unfold L25_1000021
  rw [f25_1000021_def]
  exact onShape_eq (a := [.val [] (.int .i64), .val [] .bool, .val [] (.int .i64), .val [(0, 0)] (.slice (.int .u8)), .val [] (.int .i64), .val [] (.int .i64), .rw 1, .ptr 2 0, .val [] (.int .i64), .val [] (.int .i64), .val [] .bool]) (b := [.arr [] (.prod (.int .i64) (.prod .bool (.prod (.int .i64) (.prod (.int .i64) (.prod (.slice (.int .u8)) .unit))))), .vars [.val [] (.int .i64), .val [] .bool, .val [] (.int .i64), .val [] (.int .i64), .rw 3], .arr [] (.int .u8)]) (G := fun ws rs => inner T an25 (modesOf F) 0 k 90 (S25 k) (ending T Try.f25 an25 0 K) cd25_1000021 (sh sp25_1000021 ws rs) N X) (fun x y => Eq.trans (by kernel_rfl) (innerS_eq T an25 (modesOf F) 0 k 90 (S25 k) (L25 k K) cd25_1000021 (l := []) (by kernel_rfl) trivial _ N X)) ws rs
theorem b25_1 (rec : St → Option R) (N : St → Option R) (X : Nat → St → Option R) (v1_0 : Int) (v1_1 : Bool) (v1_2 : Int) (v1_3 : List Int) (v1_4 : Int) (v1_5 : Int) (v1_6 : Int) (v1_7 : Int) (v1_8 : List (Int × (Bool × (Int × (Int × (List Int × Unit)))))) :
    execS T an25 (modesOf F) 0 k 90 (S25 k) (L25 k K) (ending T Try.f25 an25 0 K) bd25_1 (sh sp25_1 [.val [] (.int .i64) v1_0, .val [] .bool v1_1, .val [] (.int .i64) v1_2, .val [(0, 0)] (.slice (.int .u8)) v1_3, .val [] (.int .i64) v1_4, .val [] (.int .i64) v1_5, .rw 1, .val [] (.int .i64) v1_6, .val [] (.int .i64) v1_7] [⟨0, .arr [] (.prod (.int .i64) (.prod .bool (.prod (.int .i64) (.prod (.int .i64) (.prod (.slice (.int .u8)) .unit))))) v1_8⟩]) (fun st => atHead an25 0 bd25_1 st rec) (outX an25 0 1 N X) =
      f25_1b k (fun v1_7 v1_8 => rec (sh sp25_1 [.val [] (.int .i64) v1_0, .val [] .bool v1_1, .val [] (.int .i64) v1_2, .val [(0, 0)] (.slice (.int .u8)) v1_3, .val [] (.int .i64) v1_4, .val [] (.int .i64) v1_5, .rw 1, .val [] (.int .i64) v1_6, .val [] (.int .i64) v1_7] [⟨0, .arr [] (.prod (.int .i64) (.prod .bool (.prod (.int .i64) (.prod (.int .i64) (.prod (.slice (.int .u8)) .unit))))) v1_8⟩])) (fun y1_0 => N (sh jn25_1 [.rw 1] [⟨0, .arr [] (.prod (.int .i64) (.prod .bool (.prod (.int .i64) (.prod (.int .i64) (.prod (.slice (.int .u8)) .unit))))) y1_0⟩])) v1_0 v1_1 v1_2 v1_3 v1_4 v1_5 v1_6 v1_7 v1_8 := by kernel_rfl
theorem i25_1 (N : St → Option R) (X : Nat → St → Option R) (v1_0 : Int) (v1_1 : Bool) (v1_2 : Int) (v1_3 : List Int) (v1_4 : Int) (v1_5 : Int) (v1_6 : Int) (m : Nat) : ∀ (v1_7 : Int) (v1_8 : List (Int × (Bool × (Int × (Int × (List Int × Unit)))))),
    iter (atHead an25 0 bd25_1) m (fun st N' => exec T an25 (modesOf F) 0 k 90 (S25 k) (ending T Try.f25 an25 0 K) bd25_1 st N' (outX an25 0 1 N X)) (sh sp25_1 [.val [] (.int .i64) v1_0, .val [] .bool v1_1, .val [] (.int .i64) v1_2, .val [(0, 0)] (.slice (.int .u8)) v1_3, .val [] (.int .i64) v1_4, .val [] (.int .i64) v1_5, .rw 1, .val [] (.int .i64) v1_6, .val [] (.int .i64) v1_7] [⟨0, .arr [] (.prod (.int .i64) (.prod .bool (.prod (.int .i64) (.prod (.int .i64) (.prod (.slice (.int .u8)) .unit))))) v1_8⟩]) = f25_1d k (fun y1_0 => N (sh jn25_1 [.rw 1] [⟨0, .arr [] (.prod (.int .i64) (.prod .bool (.prod (.int .i64) (.prod (.int .i64) (.prod (.slice (.int .u8)) .unit))))) y1_0⟩])) v1_0 v1_1 v1_2 v1_3 v1_4 v1_5 v1_6 m v1_7 v1_8 := by
  induction m with
  | zero => intros; rfl
  | succ m ih =>
    intro v1_7 v1_8
    simp only [iter]
    rw [← execS_eq T an25 (modesOf F) 0 k 90 (S25 k) (L25 k K) bd25_1 (cuts_of _ _ _ _ _ _ _ _ bd25_1 (l := [(1000019, sp25_1000019, cd25_1000019), (1000021, sp25_1000021, cd25_1000021)]) (by kernel_rfl) ⟨l25_1000019 k K, l25_1000021 k K, trivial⟩)]
    refine (b25_1 k K _ N X v1_0 v1_1 v1_2 v1_3 v1_4 v1_5 v1_6 v1_7 v1_8).trans ?_
    simp only [f25_1d, ih]
theorem l25_1 (ws : List PV) (rs : List RowS) (N : St → Option R) (X : Nat → St → Option R) : L25 k K 1 ws rs N X = inner T an25 (modesOf F) 0 k 90 (S25 k) (ending T Try.f25 an25 0 K) cd25_1 (sh sp25_1 ws rs) N X := by
  show L25_1 k K ws rs N X = _
  unfold L25_1
  rw [f25_1_def]
  exact onShape_eq (a := [.val [] (.int .i64), .val [] .bool, .val [] (.int .i64), .val [(0, 0)] (.slice (.int .u8)), .val [] (.int .i64), .val [] (.int .i64), .rw 1, .val [] (.int .i64), .val [] (.int .i64)]) (b := [.arr [] (.prod (.int .i64) (.prod .bool (.prod (.int .i64) (.prod (.int .i64) (.prod (.slice (.int .u8)) .unit)))))]) (G := fun ws rs => inner T an25 (modesOf F) 0 k 90 (S25 k) (ending T Try.f25 an25 0 K) cd25_1 (sh sp25_1 ws rs) N X) (fun x y => Eq.trans (by kernel_rfl) (Eq.trans (i25_1 k K N X x.1 x.2.1 x.2.2.1 x.2.2.2.1 x.2.2.2.2.1 x.2.2.2.2.2.1 x.2.2.2.2.2.2.2.1 k x.2.2.2.2.2.2.2.2.1 y.1).symm (by kernel_rfl))) ws rs
end
theorem e25 (k : Nat) (a0 : Int) (a1 : Bool) (a2 : Int) (a3 : List Int) (a4 : Int) (K : List PV → List RowS → Option R) : callC T F k 25 [.val [] (.int .i64) a0, .val [] .bool a1, .val [] (.int .i64) a2, .val [(0, 0)] (.slice (.int .u8)) a3, .val [] (.int .i64) a4] [] K = f25 k a0 a1 a2 a3 a4 (fun z0 z1 => K [.rw 1, .val [] (.int .i64) z0] [⟨0, .arr [] (.prod (.int .i64) (.prod .bool (.prod (.int .i64) (.prod (.int .i64) (.prod (.slice (.int .u8)) .unit))))) z1⟩]) := by
  rw [f25_def]
  cases k with
  | zero => rfl
  | succ k =>
    refine Eq.trans (show _ = exec T an25 (modesOf F) 0 k 90 (callC T F k) (ending T Try.f25 an25 0 K) (bodyOf Try.f25) ⟨argEnv 0 [.val [] (.int .i64) a0, .val [] .bool a1, .val [] (.int .i64) a2, .val [(0, 0)] (.slice (.int .u8)) a3, .val [] (.int .i64) a4] (fun _ => none), rowsOf []⟩ (ending T Try.f25 an25 0 K) (fun _ _ => none) from by kernel_rfl) ?_
    rw [← S25_eq k, ← execS_eq T an25 (modesOf F) 0 k 90 (S25 k) (L25 k K) (bodyOf Try.f25) (cuts_of _ _ _ _ _ _ _ _ (bodyOf Try.f25) (l := [(1, sp25_1, cd25_1)]) (by kernel_rfl) ⟨l25_1 k K, trivial⟩)]
    kernel_rfl
noncomputable def s25 (k : Nat) (a : List PV) (r : List RowS) (K : List PV → List RowS → Option R) : Option R :=
  onShape [.val [] (.int .i64), .val [] .bool, .val [] (.int .i64), .val [(0, 0)] (.slice (.int .u8)), .val [] (.int .i64)] [] (fun v => f25 k v.1.1 v.1.2.1 v.1.2.2.1 v.1.2.2.2.1 v.1.2.2.2.2.1 (fun z0 z1 => K [.rw 1, .val [] (.int .i64) z0] [⟨0, .arr [] (.prod (.int .i64) (.prod .bool (.prod (.int .i64) (.prod (.int .i64) (.prod (.slice (.int .u8)) .unit))))) z1⟩])) (callC T F k 25 a r K) a r
theorem s25_eq (k : Nat) (a : List PV) (r : List RowS) (K : List PV → List RowS → Option R) : s25 k a r K = callC T F k 25 a r K := by
  unfold s25
  exact onShape_eq (a := [.val [] (.int .i64), .val [] .bool, .val [] (.int .i64), .val [(0, 0)] (.slice (.int .u8)), .val [] (.int .i64)]) (b := []) (G := fun a r => callC T F k 25 a r K) (fun x y => Eq.trans (by kernel_rfl) (Eq.trans (e25 k x.1 x.2.1 x.2.2.1 x.2.2.2.1 x.2.2.2.2.1 K).symm (by kernel_rfl))) a r
end
section
variable {R : Type}
noncomputable def S69 (k g : Nat) (a : List PV) (r : List RowS) (K : List PV → List RowS → Option R) : Option R := callC T F k g a r K
theorem S69_eq (k : Nat) : S69 (R := R) k = callC T F k := by
  funext g a r K
  exact rfl
theorem e69 (k : Nat) (a0 : Int) (a1 : Int) (a2 : Int) (K : List PV → List RowS → Option R) : callC T F k 69 [.val [] (.int .i64) a0, .val [] (.int .i64) a1, .val [] (.int .i64) a2] [] K = f69 k a0 a1 a2 (fun z0 => K [.val [] .bool z0] []) := by
  rw [f69_def]
  cases k with
  | zero => rfl
  | succ k =>
    refine Eq.trans (show _ = exec T an69 (modesOf F) 0 k 15 (callC T F k) (ending T Try.f69 an69 0 K) (bodyOf Try.f69) ⟨argEnv 0 [.val [] (.int .i64) a0, .val [] (.int .i64) a1, .val [] (.int .i64) a2] (fun _ => none), rowsOf []⟩ (ending T Try.f69 an69 0 K) (fun _ _ => none) from by kernel_rfl) ?_
    rw [← S69_eq k, ← execS_eq T an69 (modesOf F) 0 k 15 (S69 k) (fun _ _ _ _ _ => none) (bodyOf Try.f69) (cuts_of _ _ _ _ _ _ _ _ (bodyOf Try.f69) (l := []) (by kernel_rfl) trivial)]
    kernel_rfl
noncomputable def s69 (k : Nat) (a : List PV) (r : List RowS) (K : List PV → List RowS → Option R) : Option R :=
  onShape [.val [] (.int .i64), .val [] (.int .i64), .val [] (.int .i64)] [] (fun v => f69 k v.1.1 v.1.2.1 v.1.2.2.1 (fun z0 => K [.val [] .bool z0] [])) (callC T F k 69 a r K) a r
theorem s69_eq (k : Nat) (a : List PV) (r : List RowS) (K : List PV → List RowS → Option R) : s69 k a r K = callC T F k 69 a r K := by
  unfold s69
  exact onShape_eq (a := [.val [] (.int .i64), .val [] (.int .i64), .val [] (.int .i64)]) (b := []) (G := fun a r => callC T F k 69 a r K) (fun x y => Eq.trans (by kernel_rfl) (Eq.trans (e69 k x.1 x.2.1 x.2.2.1 K).symm (by kernel_rfl))) a r
end
section
variable {R : Type}
noncomputable def S31 (k g : Nat) (a : List PV) (r : List RowS) (K : List PV → List RowS → Option R) : Option R := bif g == 69 then s69 k a r K else callC T F k g a r K
theorem S31_eq (k : Nat) : S31 (R := R) k = callC T F k := by
  funext g a r K
  exact pick_eq (fun e => by subst e; exact s69_eq k a r K) (rfl)
theorem e31 (k : Nat) (a0 : Int) (a1 : Bool) (a2 : Int) (a3 : Int) (a4 : List Int) (K : List PV → List RowS → Option R) : callC T F k 31 [.agg [.val [] (.int .i64) a0, .val [] .bool a1, .val [] (.int .i64) a2, .val [] (.int .i64) a3, .val [(0, 0)] (.slice (.int .u8)) a4]] [] K = f31 k a0 a1 a2 a3 a4 (fun z0 => K [.val [] (.int .i64) z0] []) := by
  rw [f31_def]
  cases k with
  | zero => rfl
  | succ k =>
    refine Eq.trans (show _ = exec T an31 (modesOf F) 0 k 28 (callC T F k) (ending T Try.f31 an31 0 K) (bodyOf Try.f31) ⟨argEnv 0 [.agg [.val [] (.int .i64) a0, .val [] .bool a1, .val [] (.int .i64) a2, .val [] (.int .i64) a3, .val [(0, 0)] (.slice (.int .u8)) a4]] (fun _ => none), rowsOf []⟩ (ending T Try.f31 an31 0 K) (fun _ _ => none) from by kernel_rfl) ?_
    rw [← S31_eq k, ← execS_eq T an31 (modesOf F) 0 k 28 (S31 k) (fun _ _ _ _ _ => none) (bodyOf Try.f31) (cuts_of _ _ _ _ _ _ _ _ (bodyOf Try.f31) (l := []) (by kernel_rfl) trivial)]
    kernel_rfl
noncomputable def s31 (k : Nat) (a : List PV) (r : List RowS) (K : List PV → List RowS → Option R) : Option R :=
  onShape [.agg [.val [] (.int .i64), .val [] .bool, .val [] (.int .i64), .val [] (.int .i64), .val [(0, 0)] (.slice (.int .u8))]] [] (fun v => f31 k v.1.1.1 v.1.1.2.1 v.1.1.2.2.1 v.1.1.2.2.2.1 v.1.1.2.2.2.2.1 (fun z0 => K [.val [] (.int .i64) z0] [])) (callC T F k 31 a r K) a r
theorem s31_eq (k : Nat) (a : List PV) (r : List RowS) (K : List PV → List RowS → Option R) : s31 k a r K = callC T F k 31 a r K := by
  unfold s31
  exact onShape_eq (a := [.agg [.val [] (.int .i64), .val [] .bool, .val [] (.int .i64), .val [] (.int .i64), .val [(0, 0)] (.slice (.int .u8))]]) (b := []) (G := fun a r => callC T F k 31 a r K) (fun x y => Eq.trans (by kernel_rfl) (Eq.trans (e31 k x.1.1 x.1.2.1 x.1.2.2.1 x.1.2.2.2.1 x.1.2.2.2.2.1 K).symm (by kernel_rfl))) a r
end
section
variable {R : Type}
noncomputable def S26 (k g : Nat) (a : List PV) (r : List RowS) (K : List PV → List RowS → Option R) : Option R := bif g == 31 then s31 k a r K else bif g == 41 then s41 k a r K else bif g == 69 then s69 k a r K else callC T F k g a r K
theorem S26_eq (k : Nat) : S26 (R := R) k = callC T F k := by
  funext g a r K
  exact pick_eq (fun e => by subst e; exact s31_eq k a r K) (pick_eq (fun e => by subst e; exact s41_eq k a r K) (pick_eq (fun e => by subst e; exact s69_eq k a r K) (rfl)))
section
variable {R : Type} (k : Nat) (K : List PV → List RowS → Option R)
noncomputable def L26_1000018 (ws : List PV) (rs : List RowS) (N : St → Option R) (X : Nat → St → Option R) : Option R :=
  onShape [.val [] (.int .i64), .val [] .bool, .val [] (.int .i64), .val [(0, 0)] (.slice (.int .u8)), .val [] (.int .i64), .rw 1, .val [] (.int .i64), .ptr 2 0, .val [] .bool] [.arr [] (.prod (.int .i64) (.prod .bool (.prod (.int .i64) (.prod (.int .i64) (.prod (.slice (.int .u8)) .unit))))), .vars [.val [] (.int .i64), .val [] .bool, .val [] (.int .i64), .val [] (.int .i64), .rw 3], .arr [] (.int .u8)] (fun v => f26_1000018 k (fun yN_9 => N (sh fi26_18 [.val [] (.int .i64) v.1.1, .val [] .bool v.1.2.1, .val [] (.int .i64) v.1.2.2.1, .val [(0, 0)] (.slice (.int .u8)) v.1.2.2.2.1, .val [] (.int .i64) v.1.2.2.2.2.1, .rw 1, .val [] (.int .i64) v.1.2.2.2.2.2.2.1, .ptr 2 0] [⟨0, .arr [] (.prod (.int .i64) (.prod .bool (.prod (.int .i64) (.prod (.int .i64) (.prod (.slice (.int .u8)) .unit))))) v.2.1⟩, ⟨0, .vars [.val [] (.int .i64) v.2.2.1.1, .val [] .bool v.2.2.1.2.1, .val [] (.int .i64) yN_9, .val [] (.int .i64) v.2.2.1.2.2.2.1, .rw 3]⟩, ⟨0, .arr [] (.int .u8) v.2.2.2.1⟩])) v.1.1 v.1.2.1 v.1.2.2.1 v.1.2.2.2.1 v.1.2.2.2.2.1 v.1.2.2.2.2.2.2.1 v.1.2.2.2.2.2.2.2.2.1 v.2.1 v.2.2.1.1 v.2.2.1.2.1 v.2.2.1.2.2.1 v.2.2.1.2.2.2.1 v.2.2.2.1) (inner T an26 (modesOf F) 0 k 91 (S26 k) (ending T Try.f26 an26 0 K) cd26_1000018 (sh sp26_1000018 ws rs) N X) ws rs
noncomputable def L26_1000020 (ws : List PV) (rs : List RowS) (N : St → Option R) (X : Nat → St → Option R) : Option R :=
  onShape [.val [] (.int .i64), .val [] .bool, .val [] (.int .i64), .val [(0, 0)] (.slice (.int .u8)), .val [] (.int .i64), .rw 1, .val [] (.int .i64), .ptr 2 0, .val [] .bool] [.arr [] (.prod (.int .i64) (.prod .bool (.prod (.int .i64) (.prod (.int .i64) (.prod (.slice (.int .u8)) .unit))))), .vars [.val [] (.int .i64), .val [] .bool, .val [] (.int .i64), .val [] (.int .i64), .rw 3], .arr [] (.int .u8)] (fun v => f26_1000020 k (fun yN_9 => N (sh fi26_20 [.val [] (.int .i64) v.1.1, .val [] .bool v.1.2.1, .val [] (.int .i64) v.1.2.2.1, .val [(0, 0)] (.slice (.int .u8)) v.1.2.2.2.1, .val [] (.int .i64) v.1.2.2.2.2.1, .rw 1, .val [] (.int .i64) v.1.2.2.2.2.2.2.1, .ptr 2 0] [⟨0, .arr [] (.prod (.int .i64) (.prod .bool (.prod (.int .i64) (.prod (.int .i64) (.prod (.slice (.int .u8)) .unit))))) v.2.1⟩, ⟨0, .vars [.val [] (.int .i64) v.2.2.1.1, .val [] .bool v.2.2.1.2.1, .val [] (.int .i64) yN_9, .val [] (.int .i64) v.2.2.1.2.2.2.1, .rw 3]⟩, ⟨0, .arr [] (.int .u8) v.2.2.2.1⟩])) v.1.1 v.1.2.1 v.1.2.2.1 v.1.2.2.2.1 v.1.2.2.2.2.1 v.1.2.2.2.2.2.2.1 v.1.2.2.2.2.2.2.2.2.1 v.2.1 v.2.2.1.1 v.2.2.1.2.1 v.2.2.1.2.2.1 v.2.2.1.2.2.2.1 v.2.2.2.1) (inner T an26 (modesOf F) 0 k 91 (S26 k) (ending T Try.f26 an26 0 K) cd26_1000020 (sh sp26_1000020 ws rs) N X) ws rs
noncomputable def L26_1 (ws : List PV) (rs : List RowS) (N : St → Option R) (X : Nat → St → Option R) : Option R :=
  onShape [.val [] (.int .i64), .val [] .bool, .val [] (.int .i64), .val [(0, 0)] (.slice (.int .u8)), .val [] (.int .i64), .rw 1, .val [] (.int .i64)] [.arr [] (.prod (.int .i64) (.prod .bool (.prod (.int .i64) (.prod (.int .i64) (.prod (.slice (.int .u8)) .unit)))))] (fun v => f26_1 k (fun y1_0 => N (sh jn26_1 [.rw 1] [⟨0, .arr [] (.prod (.int .i64) (.prod .bool (.prod (.int .i64) (.prod (.int .i64) (.prod (.slice (.int .u8)) .unit))))) y1_0⟩])) v.1.1 v.1.2.1 v.1.2.2.1 v.1.2.2.2.1 v.1.2.2.2.2.1 k v.1.2.2.2.2.2.2.1 v.2.1) (inner T an26 (modesOf F) 0 k 91 (S26 k) (ending T Try.f26 an26 0 K) cd26_1 (sh sp26_1 ws rs) N X) ws rs
noncomputable def L26 (id : Nat) (ws : List PV) (rs : List RowS) (N : St → Option R) (X : Nat → St → Option R) : Option R := bif id == 1000018 then L26_1000018 k K ws rs N X else bif id == 1000020 then L26_1000020 k K ws rs N X else bif id == 1 then L26_1 k K ws rs N X else none
theorem l26_1000018 (ws : List PV) (rs : List RowS) (N : St → Option R) (X : Nat → St → Option R) : L26 k K 1000018 ws rs N X = inner T an26 (modesOf F) 0 k 91 (S26 k) (ending T Try.f26 an26 0 K) cd26_1000018 (sh sp26_1000018 ws rs) N X := by
  show L26_1000018 k K ws rs N X = _
  unfold L26_1000018
  rw [f26_1000018_def]
  exact onShape_eq (a := [.val [] (.int .i64), .val [] .bool, .val [] (.int .i64), .val [(0, 0)] (.slice (.int .u8)), .val [] (.int .i64), .rw 1, .val [] (.int .i64), .ptr 2 0, .val [] .bool]) (b := [.arr [] (.prod (.int .i64) (.prod .bool (.prod (.int .i64) (.prod (.int .i64) (.prod (.slice (.int .u8)) .unit))))), .vars [.val [] (.int .i64), .val [] .bool, .val [] (.int .i64), .val [] (.int .i64), .rw 3], .arr [] (.int .u8)]) (G := fun ws rs => inner T an26 (modesOf F) 0 k 91 (S26 k) (ending T Try.f26 an26 0 K) cd26_1000018 (sh sp26_1000018 ws rs) N X) (fun x y => Eq.trans (by kernel_rfl) (innerS_eq T an26 (modesOf F) 0 k 91 (S26 k) (L26 k K) cd26_1000018 (l := []) (by kernel_rfl) trivial _ N X)) ws rs
theorem l26_1000020 (ws : List PV) (rs : List RowS) (N : St → Option R) (X : Nat → St → Option R) : L26 k K 1000020 ws rs N X = inner T an26 (modesOf F) 0 k 91 (S26 k) (ending T Try.f26 an26 0 K) cd26_1000020 (sh sp26_1000020 ws rs) N X := by
  show L26_1000020 k K ws rs N X = _
  unfold L26_1000020
  rw [f26_1000020_def]
  exact onShape_eq (a := [.val [] (.int .i64), .val [] .bool, .val [] (.int .i64), .val [(0, 0)] (.slice (.int .u8)), .val [] (.int .i64), .rw 1, .val [] (.int .i64), .ptr 2 0, .val [] .bool]) (b := [.arr [] (.prod (.int .i64) (.prod .bool (.prod (.int .i64) (.prod (.int .i64) (.prod (.slice (.int .u8)) .unit))))), .vars [.val [] (.int .i64), .val [] .bool, .val [] (.int .i64), .val [] (.int .i64), .rw 3], .arr [] (.int .u8)]) (G := fun ws rs => inner T an26 (modesOf F) 0 k 91 (S26 k) (ending T Try.f26 an26 0 K) cd26_1000020 (sh sp26_1000020 ws rs) N X) (fun x y => Eq.trans (by kernel_rfl) (innerS_eq T an26 (modesOf F) 0 k 91 (S26 k) (L26 k K) cd26_1000020 (l := []) (by kernel_rfl) trivial _ N X)) ws rs
theorem b26_1 (rec : St → Option R) (N : St → Option R) (X : Nat → St → Option R) (v1_0 : Int) (v1_1 : Bool) (v1_2 : Int) (v1_3 : List Int) (v1_4 : Int) (v1_5 : Int) (v1_6 : List (Int × (Bool × (Int × (Int × (List Int × Unit)))))) :
    execS T an26 (modesOf F) 0 k 91 (S26 k) (L26 k K) (ending T Try.f26 an26 0 K) bd26_1 (sh sp26_1 [.val [] (.int .i64) v1_0, .val [] .bool v1_1, .val [] (.int .i64) v1_2, .val [(0, 0)] (.slice (.int .u8)) v1_3, .val [] (.int .i64) v1_4, .rw 1, .val [] (.int .i64) v1_5] [⟨0, .arr [] (.prod (.int .i64) (.prod .bool (.prod (.int .i64) (.prod (.int .i64) (.prod (.slice (.int .u8)) .unit))))) v1_6⟩]) (fun st => atHead an26 0 bd26_1 st rec) (outX an26 0 1 N X) =
      f26_1b k (fun v1_5 v1_6 => rec (sh sp26_1 [.val [] (.int .i64) v1_0, .val [] .bool v1_1, .val [] (.int .i64) v1_2, .val [(0, 0)] (.slice (.int .u8)) v1_3, .val [] (.int .i64) v1_4, .rw 1, .val [] (.int .i64) v1_5] [⟨0, .arr [] (.prod (.int .i64) (.prod .bool (.prod (.int .i64) (.prod (.int .i64) (.prod (.slice (.int .u8)) .unit))))) v1_6⟩])) (fun y1_0 => N (sh jn26_1 [.rw 1] [⟨0, .arr [] (.prod (.int .i64) (.prod .bool (.prod (.int .i64) (.prod (.int .i64) (.prod (.slice (.int .u8)) .unit))))) y1_0⟩])) v1_0 v1_1 v1_2 v1_3 v1_4 v1_5 v1_6 := by kernel_rfl
theorem i26_1 (N : St → Option R) (X : Nat → St → Option R) (v1_0 : Int) (v1_1 : Bool) (v1_2 : Int) (v1_3 : List Int) (v1_4 : Int) (m : Nat) : ∀ (v1_5 : Int) (v1_6 : List (Int × (Bool × (Int × (Int × (List Int × Unit)))))),
    iter (atHead an26 0 bd26_1) m (fun st N' => exec T an26 (modesOf F) 0 k 91 (S26 k) (ending T Try.f26 an26 0 K) bd26_1 st N' (outX an26 0 1 N X)) (sh sp26_1 [.val [] (.int .i64) v1_0, .val [] .bool v1_1, .val [] (.int .i64) v1_2, .val [(0, 0)] (.slice (.int .u8)) v1_3, .val [] (.int .i64) v1_4, .rw 1, .val [] (.int .i64) v1_5] [⟨0, .arr [] (.prod (.int .i64) (.prod .bool (.prod (.int .i64) (.prod (.int .i64) (.prod (.slice (.int .u8)) .unit))))) v1_6⟩]) = f26_1d k (fun y1_0 => N (sh jn26_1 [.rw 1] [⟨0, .arr [] (.prod (.int .i64) (.prod .bool (.prod (.int .i64) (.prod (.int .i64) (.prod (.slice (.int .u8)) .unit))))) y1_0⟩])) v1_0 v1_1 v1_2 v1_3 v1_4 m v1_5 v1_6 := by
  induction m with
  | zero => intros; rfl
  | succ m ih =>
    intro v1_5 v1_6
    simp only [iter]
    rw [← execS_eq T an26 (modesOf F) 0 k 91 (S26 k) (L26 k K) bd26_1 (cuts_of _ _ _ _ _ _ _ _ bd26_1 (l := [(1000018, sp26_1000018, cd26_1000018), (1000020, sp26_1000020, cd26_1000020)]) (by kernel_rfl) ⟨l26_1000018 k K, l26_1000020 k K, trivial⟩)]
    refine (b26_1 k K _ N X v1_0 v1_1 v1_2 v1_3 v1_4 v1_5 v1_6).trans ?_
    simp only [f26_1d, ih]
theorem l26_1 (ws : List PV) (rs : List RowS) (N : St → Option R) (X : Nat → St → Option R) : L26 k K 1 ws rs N X = inner T an26 (modesOf F) 0 k 91 (S26 k) (ending T Try.f26 an26 0 K) cd26_1 (sh sp26_1 ws rs) N X := by
  show L26_1 k K ws rs N X = _
  unfold L26_1
  rw [f26_1_def]
  exact onShape_eq (a := [.val [] (.int .i64), .val [] .bool, .val [] (.int .i64), .val [(0, 0)] (.slice (.int .u8)), .val [] (.int .i64), .rw 1, .val [] (.int .i64)]) (b := [.arr [] (.prod (.int .i64) (.prod .bool (.prod (.int .i64) (.prod (.int .i64) (.prod (.slice (.int .u8)) .unit)))))]) (G := fun ws rs => inner T an26 (modesOf F) 0 k 91 (S26 k) (ending T Try.f26 an26 0 K) cd26_1 (sh sp26_1 ws rs) N X) (fun x y => Eq.trans (by kernel_rfl) (Eq.trans (i26_1 k K N X x.1 x.2.1 x.2.2.1 x.2.2.2.1 x.2.2.2.2.1 k x.2.2.2.2.2.2.1 y.1).symm (by kernel_rfl))) ws rs
end
theorem e26 (k : Nat) (a0 : Int) (a1 : Bool) (a2 : Int) (a3 : List Int) (a4 : Int) (K : List PV → List RowS → Option R) : callC T F k 26 [.val [] (.int .i64) a0, .val [] .bool a1, .val [] (.int .i64) a2, .val [(0, 0)] (.slice (.int .u8)) a3, .val [] (.int .i64) a4] [] K = f26 k a0 a1 a2 a3 a4 (fun z0 z1 => K [.rw 1, .val [] (.int .i64) z0] [⟨0, .arr [] (.prod (.int .i64) (.prod .bool (.prod (.int .i64) (.prod (.int .i64) (.prod (.slice (.int .u8)) .unit))))) z1⟩]) := by
  rw [f26_def]
  cases k with
  | zero => rfl
  | succ k =>
    refine Eq.trans (show _ = exec T an26 (modesOf F) 0 k 91 (callC T F k) (ending T Try.f26 an26 0 K) (bodyOf Try.f26) ⟨argEnv 0 [.val [] (.int .i64) a0, .val [] .bool a1, .val [] (.int .i64) a2, .val [(0, 0)] (.slice (.int .u8)) a3, .val [] (.int .i64) a4] (fun _ => none), rowsOf []⟩ (ending T Try.f26 an26 0 K) (fun _ _ => none) from by kernel_rfl) ?_
    rw [← S26_eq k, ← execS_eq T an26 (modesOf F) 0 k 91 (S26 k) (L26 k K) (bodyOf Try.f26) (cuts_of _ _ _ _ _ _ _ _ (bodyOf Try.f26) (l := [(1, sp26_1, cd26_1)]) (by kernel_rfl) ⟨l26_1 k K, trivial⟩)]
    kernel_rfl
noncomputable def s26 (k : Nat) (a : List PV) (r : List RowS) (K : List PV → List RowS → Option R) : Option R :=
  onShape [.val [] (.int .i64), .val [] .bool, .val [] (.int .i64), .val [(0, 0)] (.slice (.int .u8)), .val [] (.int .i64)] [] (fun v => f26 k v.1.1 v.1.2.1 v.1.2.2.1 v.1.2.2.2.1 v.1.2.2.2.2.1 (fun z0 z1 => K [.rw 1, .val [] (.int .i64) z0] [⟨0, .arr [] (.prod (.int .i64) (.prod .bool (.prod (.int .i64) (.prod (.int .i64) (.prod (.slice (.int .u8)) .unit))))) z1⟩])) (callC T F k 26 a r K) a r
theorem s26_eq (k : Nat) (a : List PV) (r : List RowS) (K : List PV → List RowS → Option R) : s26 k a r K = callC T F k 26 a r K := by
  unfold s26
  exact onShape_eq (a := [.val [] (.int .i64), .val [] .bool, .val [] (.int .i64), .val [(0, 0)] (.slice (.int .u8)), .val [] (.int .i64)]) (b := []) (G := fun a r => callC T F k 26 a r K) (fun x y => Eq.trans (by kernel_rfl) (Eq.trans (e26 k x.1 x.2.1 x.2.2.1 x.2.2.2.1 x.2.2.2.2.1 K).symm (by kernel_rfl))) a r
end
section
variable {R : Type}
noncomputable def S32 (k g : Nat) (a : List PV) (r : List RowS) (K : List PV → List RowS → Option R) : Option R := callC T F k g a r K
theorem S32_eq (k : Nat) : S32 (R := R) k = callC T F k := by
  funext g a r K
  exact rfl
section
variable {R : Type} (k : Nat) (K : List PV → List RowS → Option R)
noncomputable def L32_0 (ws : List PV) (rs : List RowS) (N : St → Option R) (X : Nat → St → Option R) : Option R :=
  onShape [.val [(0, 0)] (.slice (.int .u8)), .val [(0, 0)] (.slice (.int .u8)), .val [] (.int .i64), .val [] (.int .i64)] [] (fun v => f32_0 k (fun z0 => K [.val [] .bool z0] []) (N (sh jn32_0 [] [])) v.1.1 v.1.2.1 v.1.2.2.1 k v.1.2.2.2.1) (inner T an32 (modesOf F) 0 k 26 (S32 k) (ending T Try.f32 an32 0 K) cd32_0 (sh sp32_0 ws rs) N X) ws rs
noncomputable def L32 (id : Nat) (ws : List PV) (rs : List RowS) (N : St → Option R) (X : Nat → St → Option R) : Option R := bif id == 0 then L32_0 k K ws rs N X else none
theorem b32_0 (rec : St → Option R) (N : St → Option R) (X : Nat → St → Option R) (v0_0 : List Int) (v0_1 : List Int) (v0_2 : Int) (v0_3 : Int) :
    execS T an32 (modesOf F) 0 k 26 (S32 k) (L32 k K) (ending T Try.f32 an32 0 K) bd32_0 (sh sp32_0 [.val [(0, 0)] (.slice (.int .u8)) v0_0, .val [(0, 0)] (.slice (.int .u8)) v0_1, .val [] (.int .i64) v0_2, .val [] (.int .i64) v0_3] []) (fun st => atHead an32 0 bd32_0 st rec) (outX an32 0 0 N X) =
      f32_0b k (fun v0_3 => rec (sh sp32_0 [.val [(0, 0)] (.slice (.int .u8)) v0_0, .val [(0, 0)] (.slice (.int .u8)) v0_1, .val [] (.int .i64) v0_2, .val [] (.int .i64) v0_3] [])) (fun z0 => K [.val [] .bool z0] []) (N (sh jn32_0 [] [])) v0_0 v0_1 v0_2 v0_3 := by kernel_rfl
theorem i32_0 (N : St → Option R) (X : Nat → St → Option R) (v0_0 : List Int) (v0_1 : List Int) (v0_2 : Int) (m : Nat) : ∀ (v0_3 : Int),
    iter (atHead an32 0 bd32_0) m (fun st N' => exec T an32 (modesOf F) 0 k 26 (S32 k) (ending T Try.f32 an32 0 K) bd32_0 st N' (outX an32 0 0 N X)) (sh sp32_0 [.val [(0, 0)] (.slice (.int .u8)) v0_0, .val [(0, 0)] (.slice (.int .u8)) v0_1, .val [] (.int .i64) v0_2, .val [] (.int .i64) v0_3] []) = f32_0d k (fun z0 => K [.val [] .bool z0] []) (N (sh jn32_0 [] [])) v0_0 v0_1 v0_2 m v0_3 := by
  induction m with
  | zero => intros; rfl
  | succ m ih =>
    intro v0_3
    simp only [iter]
    rw [← execS_eq T an32 (modesOf F) 0 k 26 (S32 k) (L32 k K) bd32_0 (cuts_of _ _ _ _ _ _ _ _ bd32_0 (l := []) (by kernel_rfl) trivial)]
    refine (b32_0 k K _ N X v0_0 v0_1 v0_2 v0_3).trans ?_
    simp only [f32_0d, ih]
theorem l32_0 (ws : List PV) (rs : List RowS) (N : St → Option R) (X : Nat → St → Option R) : L32 k K 0 ws rs N X = inner T an32 (modesOf F) 0 k 26 (S32 k) (ending T Try.f32 an32 0 K) cd32_0 (sh sp32_0 ws rs) N X := by
  show L32_0 k K ws rs N X = _
  unfold L32_0
  rw [f32_0_def]
  exact onShape_eq (a := [.val [(0, 0)] (.slice (.int .u8)), .val [(0, 0)] (.slice (.int .u8)), .val [] (.int .i64), .val [] (.int .i64)]) (b := []) (G := fun ws rs => inner T an32 (modesOf F) 0 k 26 (S32 k) (ending T Try.f32 an32 0 K) cd32_0 (sh sp32_0 ws rs) N X) (fun x y => Eq.trans (by kernel_rfl) (Eq.trans (i32_0 k K N X x.1 x.2.1 x.2.2.1 k x.2.2.2.1).symm (by kernel_rfl))) ws rs
end
theorem e32 (k : Nat) (a0 : List Int) (a1 : List Int) (K : List PV → List RowS → Option R) : callC T F k 32 [.val [(0, 0)] (.slice (.int .u8)) a0, .val [(0, 0)] (.slice (.int .u8)) a1] [] K = f32 k a0 a1 (fun z0 => K [.val [] .bool z0] []) := by
  rw [f32_def]
  cases k with
  | zero => rfl
  | succ k =>
    refine Eq.trans (show _ = exec T an32 (modesOf F) 0 k 26 (callC T F k) (ending T Try.f32 an32 0 K) (bodyOf Try.f32) ⟨argEnv 0 [.val [(0, 0)] (.slice (.int .u8)) a0, .val [(0, 0)] (.slice (.int .u8)) a1] (fun _ => none), rowsOf []⟩ (ending T Try.f32 an32 0 K) (fun _ _ => none) from by kernel_rfl) ?_
    rw [← S32_eq k, ← execS_eq T an32 (modesOf F) 0 k 26 (S32 k) (L32 k K) (bodyOf Try.f32) (cuts_of _ _ _ _ _ _ _ _ (bodyOf Try.f32) (l := [(0, sp32_0, cd32_0)]) (by kernel_rfl) ⟨l32_0 k K, trivial⟩)]
    kernel_rfl
noncomputable def s32 (k : Nat) (a : List PV) (r : List RowS) (K : List PV → List RowS → Option R) : Option R :=
  onShape [.val [(0, 0)] (.slice (.int .u8)), .val [(0, 0)] (.slice (.int .u8))] [] (fun v => f32 k v.1.1 v.1.2.1 (fun z0 => K [.val [] .bool z0] [])) (callC T F k 32 a r K) a r
theorem s32_eq (k : Nat) (a : List PV) (r : List RowS) (K : List PV → List RowS → Option R) : s32 k a r K = callC T F k 32 a r K := by
  unfold s32
  exact onShape_eq (a := [.val [(0, 0)] (.slice (.int .u8)), .val [(0, 0)] (.slice (.int .u8))]) (b := []) (G := fun a r => callC T F k 32 a r K) (fun x y => Eq.trans (by kernel_rfl) (Eq.trans (e32 k x.1 x.2.1 K).symm (by kernel_rfl))) a r
end
section
variable {R : Type}
noncomputable def S24 (k g : Nat) (a : List PV) (r : List RowS) (K : List PV → List RowS → Option R) : Option R := bif g == 32 then s32 k a r K else callC T F k g a r K
theorem S24_eq (k : Nat) : S24 (R := R) k = callC T F k := by
  funext g a r K
  exact pick_eq (fun e => by subst e; exact s32_eq k a r K) (rfl)
theorem e24 (k : Nat) (a0 : Int) (a1 : Bool) (a2 : Int) (a3 : Int) (a4 : List Int) (a5 : Int) (a6 : Bool) (a7 : Int) (a8 : Int) (a9 : List Int) (K : List PV → List RowS → Option R) : callC T F k 24 [.agg [.val [] (.int .i64) a0, .val [] .bool a1, .val [] (.int .i64) a2, .val [] (.int .i64) a3, .val [(0, 0)] (.slice (.int .u8)) a4], .agg [.val [] (.int .i64) a5, .val [] .bool a6, .val [] (.int .i64) a7, .val [] (.int .i64) a8, .val [(0, 0)] (.slice (.int .u8)) a9]] [] K = f24 k a0 a1 a2 a3 a4 a5 a6 a7 a8 a9 (fun z0 => K [.val [] .bool z0] []) := by
  rw [f24_def]
  cases k with
  | zero => rfl
  | succ k =>
    refine Eq.trans (show _ = exec T an24 (modesOf F) 0 k 38 (callC T F k) (ending T Try.f24 an24 0 K) (bodyOf Try.f24) ⟨argEnv 0 [.agg [.val [] (.int .i64) a0, .val [] .bool a1, .val [] (.int .i64) a2, .val [] (.int .i64) a3, .val [(0, 0)] (.slice (.int .u8)) a4], .agg [.val [] (.int .i64) a5, .val [] .bool a6, .val [] (.int .i64) a7, .val [] (.int .i64) a8, .val [(0, 0)] (.slice (.int .u8)) a9]] (fun _ => none), rowsOf []⟩ (ending T Try.f24 an24 0 K) (fun _ _ => none) from by kernel_rfl) ?_
    rw [← S24_eq k, ← execS_eq T an24 (modesOf F) 0 k 38 (S24 k) (fun _ _ _ _ _ => none) (bodyOf Try.f24) (cuts_of _ _ _ _ _ _ _ _ (bodyOf Try.f24) (l := []) (by kernel_rfl) trivial)]
    kernel_rfl
noncomputable def s24 (k : Nat) (a : List PV) (r : List RowS) (K : List PV → List RowS → Option R) : Option R :=
  onShape [.agg [.val [] (.int .i64), .val [] .bool, .val [] (.int .i64), .val [] (.int .i64), .val [(0, 0)] (.slice (.int .u8))], .agg [.val [] (.int .i64), .val [] .bool, .val [] (.int .i64), .val [] (.int .i64), .val [(0, 0)] (.slice (.int .u8))]] [] (fun v => f24 k v.1.1.1 v.1.1.2.1 v.1.1.2.2.1 v.1.1.2.2.2.1 v.1.1.2.2.2.2.1 v.1.2.1.1 v.1.2.1.2.1 v.1.2.1.2.2.1 v.1.2.1.2.2.2.1 v.1.2.1.2.2.2.2.1 (fun z0 => K [.val [] .bool z0] [])) (callC T F k 24 a r K) a r
theorem s24_eq (k : Nat) (a : List PV) (r : List RowS) (K : List PV → List RowS → Option R) : s24 k a r K = callC T F k 24 a r K := by
  unfold s24
  exact onShape_eq (a := [.agg [.val [] (.int .i64), .val [] .bool, .val [] (.int .i64), .val [] (.int .i64), .val [(0, 0)] (.slice (.int .u8))], .agg [.val [] (.int .i64), .val [] .bool, .val [] (.int .i64), .val [] (.int .i64), .val [(0, 0)] (.slice (.int .u8))]]) (b := []) (G := fun a r => callC T F k 24 a r K) (fun x y => Eq.trans (by kernel_rfl) (Eq.trans (e24 k x.1.1 x.1.2.1 x.1.2.2.1 x.1.2.2.2.1 x.1.2.2.2.2.1 x.2.1.1 x.2.1.2.1 x.2.1.2.2.1 x.2.1.2.2.2.1 x.2.1.2.2.2.2.1 K).symm (by kernel_rfl))) a r
end
section
variable {R : Type}
noncomputable def S27 (k g : Nat) (a : List PV) (r : List RowS) (K : List PV → List RowS → Option R) : Option R := bif g == 24 then s24 k a r K else callC T F k g a r K
theorem S27_eq (k : Nat) : S27 (R := R) k = callC T F k := by
  funext g a r K
  exact pick_eq (fun e => by subst e; exact s24_eq k a r K) (rfl)
section
variable {R : Type} (k : Nat) (K : List PV → List RowS → Option R)
noncomputable def L27_0 (ws : List PV) (rs : List RowS) (N : St → Option R) (X : Nat → St → Option R) : Option R :=
  onShape [.val [(0, 0)] (.slice (.prod (.int .i64) (.prod .bool (.prod (.int .i64) (.prod (.int .i64) (.prod (.slice (.int .u8)) .unit)))))), .val [(0, 0)] (.slice (.prod (.int .i64) (.prod .bool (.prod (.int .i64) (.prod (.int .i64) (.prod (.slice (.int .u8)) .unit)))))), .val [] (.int .i64), .val [] (.int .i64)] [] (fun v => f27_0 k (fun z0 => K [.val [] .bool z0] []) (N (sh jn27_0 [] [])) v.1.1 v.1.2.1 v.1.2.2.1 k v.1.2.2.2.1) (inner T an27 (modesOf F) 0 k 27 (S27 k) (ending T Try.f27 an27 0 K) cd27_0 (sh sp27_0 ws rs) N X) ws rs
noncomputable def L27 (id : Nat) (ws : List PV) (rs : List RowS) (N : St → Option R) (X : Nat → St → Option R) : Option R := bif id == 0 then L27_0 k K ws rs N X else none
theorem b27_0 (rec : St → Option R) (N : St → Option R) (X : Nat → St → Option R) (v0_0 : List ((Int × (Bool × (Int × (Int × (List Int × Unit))))))) (v0_1 : List ((Int × (Bool × (Int × (Int × (List Int × Unit))))))) (v0_2 : Int) (v0_3 : Int) :
    execS T an27 (modesOf F) 0 k 27 (S27 k) (L27 k K) (ending T Try.f27 an27 0 K) bd27_0 (sh sp27_0 [.val [(0, 0)] (.slice (.prod (.int .i64) (.prod .bool (.prod (.int .i64) (.prod (.int .i64) (.prod (.slice (.int .u8)) .unit)))))) v0_0, .val [(0, 0)] (.slice (.prod (.int .i64) (.prod .bool (.prod (.int .i64) (.prod (.int .i64) (.prod (.slice (.int .u8)) .unit)))))) v0_1, .val [] (.int .i64) v0_2, .val [] (.int .i64) v0_3] []) (fun st => atHead an27 0 bd27_0 st rec) (outX an27 0 0 N X) =
      f27_0b k (fun v0_3 => rec (sh sp27_0 [.val [(0, 0)] (.slice (.prod (.int .i64) (.prod .bool (.prod (.int .i64) (.prod (.int .i64) (.prod (.slice (.int .u8)) .unit)))))) v0_0, .val [(0, 0)] (.slice (.prod (.int .i64) (.prod .bool (.prod (.int .i64) (.prod (.int .i64) (.prod (.slice (.int .u8)) .unit)))))) v0_1, .val [] (.int .i64) v0_2, .val [] (.int .i64) v0_3] [])) (fun z0 => K [.val [] .bool z0] []) (N (sh jn27_0 [] [])) v0_0 v0_1 v0_2 v0_3 := by kernel_rfl
theorem i27_0 (N : St → Option R) (X : Nat → St → Option R) (v0_0 : List ((Int × (Bool × (Int × (Int × (List Int × Unit))))))) (v0_1 : List ((Int × (Bool × (Int × (Int × (List Int × Unit))))))) (v0_2 : Int) (m : Nat) : ∀ (v0_3 : Int),
    iter (atHead an27 0 bd27_0) m (fun st N' => exec T an27 (modesOf F) 0 k 27 (S27 k) (ending T Try.f27 an27 0 K) bd27_0 st N' (outX an27 0 0 N X)) (sh sp27_0 [.val [(0, 0)] (.slice (.prod (.int .i64) (.prod .bool (.prod (.int .i64) (.prod (.int .i64) (.prod (.slice (.int .u8)) .unit)))))) v0_0, .val [(0, 0)] (.slice (.prod (.int .i64) (.prod .bool (.prod (.int .i64) (.prod (.int .i64) (.prod (.slice (.int .u8)) .unit)))))) v0_1, .val [] (.int .i64) v0_2, .val [] (.int .i64) v0_3] []) = f27_0d k (fun z0 => K [.val [] .bool z0] []) (N (sh jn27_0 [] [])) v0_0 v0_1 v0_2 m v0_3 := by
  induction m with
  | zero => intros; rfl
  | succ m ih =>
    intro v0_3
    simp only [iter]
    rw [← execS_eq T an27 (modesOf F) 0 k 27 (S27 k) (L27 k K) bd27_0 (cuts_of _ _ _ _ _ _ _ _ bd27_0 (l := []) (by kernel_rfl) trivial)]
    refine (b27_0 k K _ N X v0_0 v0_1 v0_2 v0_3).trans ?_
    simp only [f27_0d, ih]
theorem l27_0 (ws : List PV) (rs : List RowS) (N : St → Option R) (X : Nat → St → Option R) : L27 k K 0 ws rs N X = inner T an27 (modesOf F) 0 k 27 (S27 k) (ending T Try.f27 an27 0 K) cd27_0 (sh sp27_0 ws rs) N X := by
  show L27_0 k K ws rs N X = _
  unfold L27_0
  rw [f27_0_def]
  exact onShape_eq (a := [.val [(0, 0)] (.slice (.prod (.int .i64) (.prod .bool (.prod (.int .i64) (.prod (.int .i64) (.prod (.slice (.int .u8)) .unit)))))), .val [(0, 0)] (.slice (.prod (.int .i64) (.prod .bool (.prod (.int .i64) (.prod (.int .i64) (.prod (.slice (.int .u8)) .unit)))))), .val [] (.int .i64), .val [] (.int .i64)]) (b := []) (G := fun ws rs => inner T an27 (modesOf F) 0 k 27 (S27 k) (ending T Try.f27 an27 0 K) cd27_0 (sh sp27_0 ws rs) N X) (fun x y => Eq.trans (by kernel_rfl) (Eq.trans (i27_0 k K N X x.1 x.2.1 x.2.2.1 k x.2.2.2.1).symm (by kernel_rfl))) ws rs
end
theorem e27 (k : Nat) (a0 : List ((Int × (Bool × (Int × (Int × (List Int × Unit))))))) (a1 : List ((Int × (Bool × (Int × (Int × (List Int × Unit))))))) (K : List PV → List RowS → Option R) : callC T F k 27 [.val [(0, 0)] (.slice (.prod (.int .i64) (.prod .bool (.prod (.int .i64) (.prod (.int .i64) (.prod (.slice (.int .u8)) .unit)))))) a0, .val [(0, 0)] (.slice (.prod (.int .i64) (.prod .bool (.prod (.int .i64) (.prod (.int .i64) (.prod (.slice (.int .u8)) .unit)))))) a1] [] K = f27 k a0 a1 (fun z0 => K [.val [] .bool z0] []) := by
  rw [f27_def]
  cases k with
  | zero => rfl
  | succ k =>
    refine Eq.trans (show _ = exec T an27 (modesOf F) 0 k 27 (callC T F k) (ending T Try.f27 an27 0 K) (bodyOf Try.f27) ⟨argEnv 0 [.val [(0, 0)] (.slice (.prod (.int .i64) (.prod .bool (.prod (.int .i64) (.prod (.int .i64) (.prod (.slice (.int .u8)) .unit)))))) a0, .val [(0, 0)] (.slice (.prod (.int .i64) (.prod .bool (.prod (.int .i64) (.prod (.int .i64) (.prod (.slice (.int .u8)) .unit)))))) a1] (fun _ => none), rowsOf []⟩ (ending T Try.f27 an27 0 K) (fun _ _ => none) from by kernel_rfl) ?_
    rw [← S27_eq k, ← execS_eq T an27 (modesOf F) 0 k 27 (S27 k) (L27 k K) (bodyOf Try.f27) (cuts_of _ _ _ _ _ _ _ _ (bodyOf Try.f27) (l := [(0, sp27_0, cd27_0)]) (by kernel_rfl) ⟨l27_0 k K, trivial⟩)]
    kernel_rfl
noncomputable def s27 (k : Nat) (a : List PV) (r : List RowS) (K : List PV → List RowS → Option R) : Option R :=
  onShape [.val [(0, 0)] (.slice (.prod (.int .i64) (.prod .bool (.prod (.int .i64) (.prod (.int .i64) (.prod (.slice (.int .u8)) .unit)))))), .val [(0, 0)] (.slice (.prod (.int .i64) (.prod .bool (.prod (.int .i64) (.prod (.int .i64) (.prod (.slice (.int .u8)) .unit))))))] [] (fun v => f27 k v.1.1 v.1.2.1 (fun z0 => K [.val [] .bool z0] [])) (callC T F k 27 a r K) a r
theorem s27_eq (k : Nat) (a : List PV) (r : List RowS) (K : List PV → List RowS → Option R) : s27 k a r K = callC T F k 27 a r K := by
  unfold s27
  exact onShape_eq (a := [.val [(0, 0)] (.slice (.prod (.int .i64) (.prod .bool (.prod (.int .i64) (.prod (.int .i64) (.prod (.slice (.int .u8)) .unit)))))), .val [(0, 0)] (.slice (.prod (.int .i64) (.prod .bool (.prod (.int .i64) (.prod (.int .i64) (.prod (.slice (.int .u8)) .unit))))))]) (b := []) (G := fun a r => callC T F k 27 a r K) (fun x y => Eq.trans (by kernel_rfl) (Eq.trans (e27 k x.1 x.2.1 K).symm (by kernel_rfl))) a r
end
section
variable {R : Type}
noncomputable def S19 (k g : Nat) (a : List PV) (r : List RowS) (K : List PV → List RowS → Option R) : Option R := callC T F k g a r K
theorem S19_eq (k : Nat) : S19 (R := R) k = callC T F k := by
  funext g a r K
  exact rfl
section
variable {R : Type} (k : Nat) (K : List PV → List RowS → Option R)
noncomputable def L19_1000010 (ws : List PV) (rs : List RowS) (N : St → Option R) (X : Nat → St → Option R) : Option R :=
  onShape [.val [] (.int .i64), .val [(0, 0)] (.slice (.int .u8)), .val [] (.int .i64), .val [] (.int .i64), .val [] (.int .i64), .val [] .bool] [] (fun v => f19_1000010 k (fun yN_0 => N (sh fi19_10 [.val [] (.int .i64) yN_0, .val [(0, 0)] (.slice (.int .u8)) v.1.2.1, .val [] (.int .i64) v.1.2.2.1, .val [] (.int .i64) v.1.2.2.2.1, .val [] (.int .i64) v.1.2.2.2.2.1] [])) v.1.1 v.1.2.1 v.1.2.2.1 v.1.2.2.2.1 v.1.2.2.2.2.1 v.1.2.2.2.2.2.1) (inner T an19 (modesOf F) 0 k 29 (S19 k) (ending T Try.f19 an19 0 K) cd19_1000010 (sh sp19_1000010 ws rs) N X) ws rs
noncomputable def L19_2 (ws : List PV) (rs : List RowS) (N : St → Option R) (X : Nat → St → Option R) : Option R :=
  onShape [.val [] (.int .i64), .val [(0, 0)] (.slice (.int .u8)), .val [] (.int .i64), .val [] (.int .i64), .val [] (.int .i64)] [] (fun v => f19_2 k (fun y2_0 => N (sh jn19_2 [.val [] (.int .i64) y2_0, .val [(0, 0)] (.slice (.int .u8)) v.1.2.1, .val [] (.int .i64) v.1.2.2.1, .val [] (.int .i64) v.1.2.2.2.1] [])) v.1.2.1 v.1.2.2.1 v.1.2.2.2.1 k v.1.1 v.1.2.2.2.2.1) (inner T an19 (modesOf F) 0 k 29 (S19 k) (ending T Try.f19 an19 0 K) cd19_2 (sh sp19_2 ws rs) N X) ws rs
noncomputable def L19_0 (ws : List PV) (rs : List RowS) (N : St → Option R) (X : Nat → St → Option R) : Option R :=
  onShape [.val [] (.int .i64), .val [(0, 0)] (.slice (.int .u8)), .val [] (.int .i64), .val [] (.int .i64)] [] (fun v => f19_0 k (fun y0_0 => N (sh jn19_0 [.val [] (.int .i64) y0_0] [])) v.1.2.1 v.1.2.2.1 k v.1.1 v.1.2.2.2.1) (inner T an19 (modesOf F) 0 k 29 (S19 k) (ending T Try.f19 an19 0 K) cd19_0 (sh sp19_0 ws rs) N X) ws rs
noncomputable def L19 (id : Nat) (ws : List PV) (rs : List RowS) (N : St → Option R) (X : Nat → St → Option R) : Option R := bif id == 1000010 then L19_1000010 k K ws rs N X else bif id == 2 then L19_2 k K ws rs N X else bif id == 0 then L19_0 k K ws rs N X else none
theorem l19_1000010 (ws : List PV) (rs : List RowS) (N : St → Option R) (X : Nat → St → Option R) : L19 k K 1000010 ws rs N X = inner T an19 (modesOf F) 0 k 29 (S19 k) (ending T Try.f19 an19 0 K) cd19_1000010 (sh sp19_1000010 ws rs) N X := by
  show L19_1000010 k K ws rs N X = _
  unfold L19_1000010
  rw [f19_1000010_def]
  exact onShape_eq (a := [.val [] (.int .i64), .val [(0, 0)] (.slice (.int .u8)), .val [] (.int .i64), .val [] (.int .i64), .val [] (.int .i64), .val [] .bool]) (b := []) (G := fun ws rs => inner T an19 (modesOf F) 0 k 29 (S19 k) (ending T Try.f19 an19 0 K) cd19_1000010 (sh sp19_1000010 ws rs) N X) (fun x y => Eq.trans (by kernel_rfl) (innerS_eq T an19 (modesOf F) 0 k 29 (S19 k) (L19 k K) cd19_1000010 (l := []) (by kernel_rfl) trivial _ N X)) ws rs
theorem b19_2 (rec : St → Option R) (N : St → Option R) (X : Nat → St → Option R) (v2_1 : List Int) (v2_2 : Int) (v2_3 : Int) (v2_0 : Int) (v2_4 : Int) :
    execS T an19 (modesOf F) 0 k 29 (S19 k) (L19 k K) (ending T Try.f19 an19 0 K) bd19_2 (sh sp19_2 [.val [] (.int .i64) v2_0, .val [(0, 0)] (.slice (.int .u8)) v2_1, .val [] (.int .i64) v2_2, .val [] (.int .i64) v2_3, .val [] (.int .i64) v2_4] []) (fun st => atHead an19 0 bd19_2 st rec) (outX an19 0 2 N X) =
      f19_2b k (fun v2_0 v2_4 => rec (sh sp19_2 [.val [] (.int .i64) v2_0, .val [(0, 0)] (.slice (.int .u8)) v2_1, .val [] (.int .i64) v2_2, .val [] (.int .i64) v2_3, .val [] (.int .i64) v2_4] [])) (fun y2_0 => N (sh jn19_2 [.val [] (.int .i64) y2_0, .val [(0, 0)] (.slice (.int .u8)) v2_1, .val [] (.int .i64) v2_2, .val [] (.int .i64) v2_3] [])) v2_1 v2_2 v2_3 v2_0 v2_4 := by kernel_rfl
theorem i19_2 (N : St → Option R) (X : Nat → St → Option R) (v2_1 : List Int) (v2_2 : Int) (v2_3 : Int) (m : Nat) : ∀ (v2_0 : Int) (v2_4 : Int),
    iter (atHead an19 0 bd19_2) m (fun st N' => exec T an19 (modesOf F) 0 k 29 (S19 k) (ending T Try.f19 an19 0 K) bd19_2 st N' (outX an19 0 2 N X)) (sh sp19_2 [.val [] (.int .i64) v2_0, .val [(0, 0)] (.slice (.int .u8)) v2_1, .val [] (.int .i64) v2_2, .val [] (.int .i64) v2_3, .val [] (.int .i64) v2_4] []) = f19_2d k (fun y2_0 => N (sh jn19_2 [.val [] (.int .i64) y2_0, .val [(0, 0)] (.slice (.int .u8)) v2_1, .val [] (.int .i64) v2_2, .val [] (.int .i64) v2_3] [])) v2_1 v2_2 v2_3 m v2_0 v2_4 := by
  induction m with
  | zero => intros; rfl
  | succ m ih =>
    intro v2_0 v2_4
    simp only [iter]
    rw [← execS_eq T an19 (modesOf F) 0 k 29 (S19 k) (L19 k K) bd19_2 (cuts_of _ _ _ _ _ _ _ _ bd19_2 (l := [(1000010, sp19_1000010, cd19_1000010)]) (by kernel_rfl) ⟨l19_1000010 k K, trivial⟩)]
    refine (b19_2 k K _ N X v2_1 v2_2 v2_3 v2_0 v2_4).trans ?_
    simp only [f19_2d, ih]
theorem l19_2 (ws : List PV) (rs : List RowS) (N : St → Option R) (X : Nat → St → Option R) : L19 k K 2 ws rs N X = inner T an19 (modesOf F) 0 k 29 (S19 k) (ending T Try.f19 an19 0 K) cd19_2 (sh sp19_2 ws rs) N X := by
  show L19_2 k K ws rs N X = _
  unfold L19_2
  rw [f19_2_def]
  exact onShape_eq (a := [.val [] (.int .i64), .val [(0, 0)] (.slice (.int .u8)), .val [] (.int .i64), .val [] (.int .i64), .val [] (.int .i64)]) (b := []) (G := fun ws rs => inner T an19 (modesOf F) 0 k 29 (S19 k) (ending T Try.f19 an19 0 K) cd19_2 (sh sp19_2 ws rs) N X) (fun x y => Eq.trans (by kernel_rfl) (Eq.trans (i19_2 k K N X x.2.1 x.2.2.1 x.2.2.2.1 k x.1 x.2.2.2.2.1).symm (by kernel_rfl))) ws rs
theorem b19_0 (rec : St → Option R) (N : St → Option R) (X : Nat → St → Option R) (v0_1 : List Int) (v0_2 : Int) (v0_0 : Int) (v0_3 : Int) :
    execS T an19 (modesOf F) 0 k 29 (S19 k) (L19 k K) (ending T Try.f19 an19 0 K) bd19_0 (sh sp19_0 [.val [] (.int .i64) v0_0, .val [(0, 0)] (.slice (.int .u8)) v0_1, .val [] (.int .i64) v0_2, .val [] (.int .i64) v0_3] []) (fun st => atHead an19 0 bd19_0 st rec) (outX an19 0 0 N X) =
      f19_0b k (fun v0_0 v0_3 => rec (sh sp19_0 [.val [] (.int .i64) v0_0, .val [(0, 0)] (.slice (.int .u8)) v0_1, .val [] (.int .i64) v0_2, .val [] (.int .i64) v0_3] [])) (fun y0_0 => N (sh jn19_0 [.val [] (.int .i64) y0_0] [])) v0_1 v0_2 v0_0 v0_3 := by kernel_rfl
theorem i19_0 (N : St → Option R) (X : Nat → St → Option R) (v0_1 : List Int) (v0_2 : Int) (m : Nat) : ∀ (v0_0 : Int) (v0_3 : Int),
    iter (atHead an19 0 bd19_0) m (fun st N' => exec T an19 (modesOf F) 0 k 29 (S19 k) (ending T Try.f19 an19 0 K) bd19_0 st N' (outX an19 0 0 N X)) (sh sp19_0 [.val [] (.int .i64) v0_0, .val [(0, 0)] (.slice (.int .u8)) v0_1, .val [] (.int .i64) v0_2, .val [] (.int .i64) v0_3] []) = f19_0d k (fun y0_0 => N (sh jn19_0 [.val [] (.int .i64) y0_0] [])) v0_1 v0_2 m v0_0 v0_3 := by
  induction m with
  | zero => intros; rfl
  | succ m ih =>
    intro v0_0 v0_3
    simp only [iter]
    rw [← execS_eq T an19 (modesOf F) 0 k 29 (S19 k) (L19 k K) bd19_0 (cuts_of _ _ _ _ _ _ _ _ bd19_0 (l := [(2, sp19_2, cd19_2)]) (by kernel_rfl) ⟨l19_2 k K, trivial⟩)]
    refine (b19_0 k K _ N X v0_1 v0_2 v0_0 v0_3).trans ?_
    simp only [f19_0d, ih]
theorem l19_0 (ws : List PV) (rs : List RowS) (N : St → Option R) (X : Nat → St → Option R) : L19 k K 0 ws rs N X = inner T an19 (modesOf F) 0 k 29 (S19 k) (ending T Try.f19 an19 0 K) cd19_0 (sh sp19_0 ws rs) N X := by
  show L19_0 k K ws rs N X = _
  unfold L19_0
  rw [f19_0_def]
  exact onShape_eq (a := [.val [] (.int .i64), .val [(0, 0)] (.slice (.int .u8)), .val [] (.int .i64), .val [] (.int .i64)]) (b := []) (G := fun ws rs => inner T an19 (modesOf F) 0 k 29 (S19 k) (ending T Try.f19 an19 0 K) cd19_0 (sh sp19_0 ws rs) N X) (fun x y => Eq.trans (by kernel_rfl) (Eq.trans (i19_0 k K N X x.2.1 x.2.2.1 k x.1 x.2.2.2.1).symm (by kernel_rfl))) ws rs
end
theorem e19 (k : Nat) (a0 : List Int) (K : List PV → List RowS → Option R) : callC T F k 19 [.val [(0, 0)] (.slice (.int .u8)) a0] [] K = f19 k a0 (fun z0 => K [.val [] (.int .i64) z0] []) := by
  rw [f19_def]
  cases k with
  | zero => rfl
  | succ k =>
    refine Eq.trans (show _ = exec T an19 (modesOf F) 0 k 29 (callC T F k) (ending T Try.f19 an19 0 K) (bodyOf Try.f19) ⟨argEnv 0 [.val [(0, 0)] (.slice (.int .u8)) a0] (fun _ => none), rowsOf []⟩ (ending T Try.f19 an19 0 K) (fun _ _ => none) from by kernel_rfl) ?_
    rw [← S19_eq k, ← execS_eq T an19 (modesOf F) 0 k 29 (S19 k) (L19 k K) (bodyOf Try.f19) (cuts_of _ _ _ _ _ _ _ _ (bodyOf Try.f19) (l := [(0, sp19_0, cd19_0)]) (by kernel_rfl) ⟨l19_0 k K, trivial⟩)]
    kernel_rfl
noncomputable def s19 (k : Nat) (a : List PV) (r : List RowS) (K : List PV → List RowS → Option R) : Option R :=
  onShape [.val [(0, 0)] (.slice (.int .u8))] [] (fun v => f19 k v.1.1 (fun z0 => K [.val [] (.int .i64) z0] [])) (callC T F k 19 a r K) a r
theorem s19_eq (k : Nat) (a : List PV) (r : List RowS) (K : List PV → List RowS → Option R) : s19 k a r K = callC T F k 19 a r K := by
  unfold s19
  exact onShape_eq (a := [.val [(0, 0)] (.slice (.int .u8))]) (b := []) (G := fun a r => callC T F k 19 a r K) (fun x y => Eq.trans (by kernel_rfl) (Eq.trans (e19 k x.1 K).symm (by kernel_rfl))) a r
end
section
variable {R : Type}
noncomputable def S21 (k g : Nat) (a : List PV) (r : List RowS) (K : List PV → List RowS → Option R) : Option R := bif g == 19 then s19 k a r K else callC T F k g a r K
theorem S21_eq (k : Nat) : S21 (R := R) k = callC T F k := by
  funext g a r K
  exact pick_eq (fun e => by subst e; exact s19_eq k a r K) (rfl)
theorem e21 (k : Nat) (K : List PV → List RowS → Option R) : callC T F k 21 [] [] K = f21 k (fun z0 => K [.val [] .bool z0] []) := by
  rw [f21_def]
  cases k with
  | zero => rfl
  | succ k =>
    refine Eq.trans (show _ = exec T an21 (modesOf F) 0 k 5 (callC T F k) (ending T Try.f21 an21 0 K) (bodyOf Try.f21) ⟨argEnv 0 [] (fun _ => none), rowsOf []⟩ (ending T Try.f21 an21 0 K) (fun _ _ => none) from by kernel_rfl) ?_
    rw [← S21_eq k, ← execS_eq T an21 (modesOf F) 0 k 5 (S21 k) (fun _ _ _ _ _ => none) (bodyOf Try.f21) (cuts_of _ _ _ _ _ _ _ _ (bodyOf Try.f21) (l := []) (by kernel_rfl) trivial)]
    kernel_rfl
noncomputable def s21 (k : Nat) (a : List PV) (r : List RowS) (K : List PV → List RowS → Option R) : Option R :=
  onShape [] [] (fun v => f21 k (fun z0 => K [.val [] .bool z0] [])) (callC T F k 21 a r K) a r
theorem s21_eq (k : Nat) (a : List PV) (r : List RowS) (K : List PV → List RowS → Option R) : s21 k a r K = callC T F k 21 a r K := by
  unfold s21
  exact onShape_eq (a := []) (b := []) (G := fun a r => callC T F k 21 a r K) (fun x y => Eq.trans (by kernel_rfl) (Eq.trans (e21 k K).symm (by kernel_rfl))) a r
end
section
variable {R : Type}
noncomputable def S5 (k g : Nat) (a : List PV) (r : List RowS) (K : List PV → List RowS → Option R) : Option R := bif g == 21 then s21 k a r K else bif g == 25 then s25 k a r K else bif g == 26 then s26 k a r K else bif g == 27 then s27 k a r K else callC T F k g a r K
theorem S5_eq (k : Nat) : S5 (R := R) k = callC T F k := by
  funext g a r K
  exact pick_eq (fun e => by subst e; exact s21_eq k a r K) (pick_eq (fun e => by subst e; exact s25_eq k a r K) (pick_eq (fun e => by subst e; exact s26_eq k a r K) (pick_eq (fun e => by subst e; exact s27_eq k a r K) (rfl))))
theorem e5 (k : Nat) (a0 : Int) (a1 : Bool) (a2 : Int) (a3 : List Int) (a4 : Int) (K : List PV → List RowS → Option R) : callC T F k 5 [.val [] (.int .i64) a0, .val [] .bool a1, .val [] (.int .i64) a2, .val [(0, 0)] (.slice (.int .u8)) a3, .val [] (.int .i64) a4] [] K = f5 k a0 a1 a2 a3 a4 (fun z0 => K [.val [] .bool z0] []) := by
  rw [f5_def]
  cases k with
  | zero => rfl
  | succ k =>
    refine Eq.trans (show _ = exec T an5 (modesOf F) 0 k 44 (callC T F k) (ending T Try.f5 an5 0 K) (bodyOf Try.f5) ⟨argEnv 0 [.val [] (.int .i64) a0, .val [] .bool a1, .val [] (.int .i64) a2, .val [(0, 0)] (.slice (.int .u8)) a3, .val [] (.int .i64) a4] (fun _ => none), rowsOf []⟩ (ending T Try.f5 an5 0 K) (fun _ _ => none) from by kernel_rfl) ?_
    rw [← S5_eq k, ← execS_eq T an5 (modesOf F) 0 k 44 (S5 k) (fun _ _ _ _ _ => none) (bodyOf Try.f5) (cuts_of _ _ _ _ _ _ _ _ (bodyOf Try.f5) (l := []) (by kernel_rfl) trivial)]
    kernel_rfl
noncomputable def s5 (k : Nat) (a : List PV) (r : List RowS) (K : List PV → List RowS → Option R) : Option R :=
  onShape [.val [] (.int .i64), .val [] .bool, .val [] (.int .i64), .val [(0, 0)] (.slice (.int .u8)), .val [] (.int .i64)] [] (fun v => f5 k v.1.1 v.1.2.1 v.1.2.2.1 v.1.2.2.2.1 v.1.2.2.2.2.1 (fun z0 => K [.val [] .bool z0] [])) (callC T F k 5 a r K) a r
theorem s5_eq (k : Nat) (a : List PV) (r : List RowS) (K : List PV → List RowS → Option R) : s5 k a r K = callC T F k 5 a r K := by
  unfold s5
  exact onShape_eq (a := [.val [] (.int .i64), .val [] .bool, .val [] (.int .i64), .val [(0, 0)] (.slice (.int .u8)), .val [] (.int .i64)]) (b := []) (G := fun a r => callC T F k 5 a r K) (fun x y => Eq.trans (by kernel_rfl) (Eq.trans (e5 k x.1 x.2.1 x.2.2.1 x.2.2.2.1 x.2.2.2.2.1 K).symm (by kernel_rfl))) a r
end
section
variable {R : Type}
noncomputable def S96 (k g : Nat) (a : List PV) (r : List RowS) (K : List PV → List RowS → Option R) : Option R := bif g == 66 then s66 k a r K else callC T F k g a r K
theorem S96_eq (k : Nat) : S96 (R := R) k = callC T F k := by
  funext g a r K
  exact pick_eq (fun e => by subst e; exact s66_eq k a r K) (rfl)
theorem e96 (k : Nat) (a0 : Int) (a1 : Int) (a2 : Int) (K : List PV → List RowS → Option R) : callC T F k 96 [.val [] (.int .i64) a0, .val [] (.int .i64) a1, .val [] (.int .i64) a2] [] K = f96 k a0 a1 a2 (fun z0 => K [.val [] (.int .i64) z0] []) := by
  rw [f96_def]
  cases k with
  | zero => rfl
  | succ k =>
    refine Eq.trans (show _ = exec T an96 (modesOf F) 0 k 12 (callC T F k) (ending T Try.f96 an96 0 K) (bodyOf Try.f96) ⟨argEnv 0 [.val [] (.int .i64) a0, .val [] (.int .i64) a1, .val [] (.int .i64) a2] (fun _ => none), rowsOf []⟩ (ending T Try.f96 an96 0 K) (fun _ _ => none) from by kernel_rfl) ?_
    rw [← S96_eq k, ← execS_eq T an96 (modesOf F) 0 k 12 (S96 k) (fun _ _ _ _ _ => none) (bodyOf Try.f96) (cuts_of _ _ _ _ _ _ _ _ (bodyOf Try.f96) (l := []) (by kernel_rfl) trivial)]
    kernel_rfl
noncomputable def s96 (k : Nat) (a : List PV) (r : List RowS) (K : List PV → List RowS → Option R) : Option R :=
  onShape [.val [] (.int .i64), .val [] (.int .i64), .val [] (.int .i64)] [] (fun v => f96 k v.1.1 v.1.2.1 v.1.2.2.1 (fun z0 => K [.val [] (.int .i64) z0] [])) (callC T F k 96 a r K) a r
theorem s96_eq (k : Nat) (a : List PV) (r : List RowS) (K : List PV → List RowS → Option R) : s96 k a r K = callC T F k 96 a r K := by
  unfold s96
  exact onShape_eq (a := [.val [] (.int .i64), .val [] (.int .i64), .val [] (.int .i64)]) (b := []) (G := fun a r => callC T F k 96 a r K) (fun x y => Eq.trans (by kernel_rfl) (Eq.trans (e96 k x.1 x.2.1 x.2.2.1 K).symm (by kernel_rfl))) a r
end
section
variable {R : Type}
noncomputable def S75 (k g : Nat) (a : List PV) (r : List RowS) (K : List PV → List RowS → Option R) : Option R := bif g == 96 then s96 k a r K else callC T F k g a r K
theorem S75_eq (k : Nat) : S75 (R := R) k = callC T F k := by
  funext g a r K
  exact pick_eq (fun e => by subst e; exact s96_eq k a r K) (rfl)
theorem e75 (k : Nat) (a0 : Int) (K : List PV → List RowS → Option R) : callC T F k 75 [.val [] (.int .i64) a0] [] K = f75 k a0 (fun z0 => K [.val [] (.int .i64) z0] []) := by
  rw [f75_def]
  cases k with
  | zero => rfl
  | succ k =>
    refine Eq.trans (show _ = exec T an75 (modesOf F) 0 k 5 (callC T F k) (ending T Try.f75 an75 0 K) (bodyOf Try.f75) ⟨argEnv 0 [.val [] (.int .i64) a0] (fun _ => none), rowsOf []⟩ (ending T Try.f75 an75 0 K) (fun _ _ => none) from by kernel_rfl) ?_
    rw [← S75_eq k, ← execS_eq T an75 (modesOf F) 0 k 5 (S75 k) (fun _ _ _ _ _ => none) (bodyOf Try.f75) (cuts_of _ _ _ _ _ _ _ _ (bodyOf Try.f75) (l := []) (by kernel_rfl) trivial)]
    kernel_rfl
noncomputable def s75 (k : Nat) (a : List PV) (r : List RowS) (K : List PV → List RowS → Option R) : Option R :=
  onShape [.val [] (.int .i64)] [] (fun v => f75 k v.1.1 (fun z0 => K [.val [] (.int .i64) z0] [])) (callC T F k 75 a r K) a r
theorem s75_eq (k : Nat) (a : List PV) (r : List RowS) (K : List PV → List RowS → Option R) : s75 k a r K = callC T F k 75 a r K := by
  unfold s75
  exact onShape_eq (a := [.val [] (.int .i64)]) (b := []) (G := fun a r => callC T F k 75 a r K) (fun x y => Eq.trans (by kernel_rfl) (Eq.trans (e75 k x.1 K).symm (by kernel_rfl))) a r
end
section
variable {R : Type}
noncomputable def S79 (k g : Nat) (a : List PV) (r : List RowS) (K : List PV → List RowS → Option R) : Option R := callC T F k g a r K
theorem S79_eq (k : Nat) : S79 (R := R) k = callC T F k := by
  funext g a r K
  exact rfl
theorem e79 (k : Nat) (K : List PV → List RowS → Option R) : callC T F k 79 [] [] K = f79 k (fun z0 => K [.rw 1] [⟨0, .arr [] (.int .u8) z0⟩]) := by
  rw [f79_def]
  cases k with
  | zero => rfl
  | succ k =>
    refine Eq.trans (show _ = exec T an79 (modesOf F) 0 k 2 (callC T F k) (ending T Try.f79 an79 0 K) (bodyOf Try.f79) ⟨argEnv 0 [] (fun _ => none), rowsOf []⟩ (ending T Try.f79 an79 0 K) (fun _ _ => none) from by kernel_rfl) ?_
    rw [← S79_eq k, ← execS_eq T an79 (modesOf F) 0 k 2 (S79 k) (fun _ _ _ _ _ => none) (bodyOf Try.f79) (cuts_of _ _ _ _ _ _ _ _ (bodyOf Try.f79) (l := []) (by kernel_rfl) trivial)]
    kernel_rfl
noncomputable def s79 (k : Nat) (a : List PV) (r : List RowS) (K : List PV → List RowS → Option R) : Option R :=
  onShape [] [] (fun v => f79 k (fun z0 => K [.rw 1] [⟨0, .arr [] (.int .u8) z0⟩])) (callC T F k 79 a r K) a r
theorem s79_eq (k : Nat) (a : List PV) (r : List RowS) (K : List PV → List RowS → Option R) : s79 k a r K = callC T F k 79 a r K := by
  unfold s79
  exact onShape_eq (a := []) (b := []) (G := fun a r => callC T F k 79 a r K) (fun x y => Eq.trans (by kernel_rfl) (Eq.trans (e79 k K).symm (by kernel_rfl))) a r
end
section
variable {R : Type}
noncomputable def S78 (k g : Nat) (a : List PV) (r : List RowS) (K : List PV → List RowS → Option R) : Option R := callC T F k g a r K
theorem S78_eq (k : Nat) : S78 (R := R) k = callC T F k := by
  funext g a r K
  exact rfl
section
variable {R : Type} (k : Nat) (K : List PV → List RowS → Option R)
noncomputable def L78_1000002 (ws : List PV) (rs : List RowS) (N : St → Option R) (X : Nat → St → Option R) : Option R :=
  onShape [.nils, .val [] (.int .i64), .val [] .bool] [] (fun v => f78_1000002 k (N (sh fi78_2 [.nils, .val [] (.int .i64) v.1.2.1] [])) v.1.2.1 v.1.2.2.1) (inner T an78 (modesOf F) 0 k 27 (S78 k) (ending T Try.f78 an78 0 K) cd78_1000002 (sh sp78_1000002 ws rs) N X) ws rs
noncomputable def L78_1000005 (ws : List PV) (rs : List RowS) (N : St → Option R) (X : Nat → St → Option R) : Option R :=
  onShape [.nils, .val [] (.int .i64), .val [] .bool] [] (fun v => f78_1000005 k (fun yN_0 => N (sh fi78_5 [.rw 1] [⟨0, .arr [] (.int .u8) yN_0⟩])) v.1.2.1 v.1.2.2.1) (inner T an78 (modesOf F) 0 k 27 (S78 k) (ending T Try.f78 an78 0 K) cd78_1000005 (sh sp78_1000005 ws rs) N X) ws rs
noncomputable def L78 (id : Nat) (ws : List PV) (rs : List RowS) (N : St → Option R) (X : Nat → St → Option R) : Option R := bif id == 1000002 then L78_1000002 k K ws rs N X else bif id == 1000005 then L78_1000005 k K ws rs N X else none
theorem l78_1000002 (ws : List PV) (rs : List RowS) (N : St → Option R) (X : Nat → St → Option R) : L78 k K 1000002 ws rs N X = inner T an78 (modesOf F) 0 k 27 (S78 k) (ending T Try.f78 an78 0 K) cd78_1000002 (sh sp78_1000002 ws rs) N X := by
  show L78_1000002 k K ws rs N X = _
  unfold L78_1000002
  rw [f78_1000002_def]
  exact onShape_eq (a := [.nils, .val [] (.int .i64), .val [] .bool]) (b := []) (G := fun ws rs => inner T an78 (modesOf F) 0 k 27 (S78 k) (ending T Try.f78 an78 0 K) cd78_1000002 (sh sp78_1000002 ws rs) N X) (fun x y => Eq.trans (by kernel_rfl) (innerS_eq T an78 (modesOf F) 0 k 27 (S78 k) (L78 k K) cd78_1000002 (l := []) (by kernel_rfl) trivial _ N X)) ws rs
theorem l78_1000005 (ws : List PV) (rs : List RowS) (N : St → Option R) (X : Nat → St → Option R) : L78 k K 1000005 ws rs N X = inner T an78 (modesOf F) 0 k 27 (S78 k) (ending T Try.f78 an78 0 K) cd78_1000005 (sh sp78_1000005 ws rs) N X := by
  show L78_1000005 k K ws rs N X = _
  unfold L78_1000005
  rw [f78_1000005_def]
  exact onShape_eq (a := [.nils, .val [] (.int .i64), .val [] .bool]) (b := []) (G := fun ws rs => inner T an78 (modesOf F) 0 k 27 (S78 k) (ending T Try.f78 an78 0 K) cd78_1000005 (sh sp78_1000005 ws rs) N X) (fun x y => Eq.trans (by kernel_rfl) (innerS_eq T an78 (modesOf F) 0 k 27 (S78 k) (L78 k K) cd78_1000005 (l := []) (by kernel_rfl) trivial _ N X)) ws rs
end
theorem e78 (k : Nat) (a0 : Int) (K : List PV → List RowS → Option R) : callC T F k 78 [.nils, .val [] (.int .i64) a0] [] K = f78 k a0 (fun z0 => K [.rw 1] [⟨0, .arr [] (.int .u8) z0⟩]) := by
  rw [f78_def]
  cases k with
  | zero => rfl
  | succ k =>
    refine Eq.trans (show _ = exec T an78 (modesOf F) 0 k 27 (callC T F k) (ending T Try.f78 an78 0 K) (bodyOf Try.f78) ⟨argEnv 0 [.nils, .val [] (.int .i64) a0] (fun _ => none), rowsOf []⟩ (ending T Try.f78 an78 0 K) (fun _ _ => none) from by kernel_rfl) ?_
    rw [← S78_eq k, ← execS_eq T an78 (modesOf F) 0 k 27 (S78 k) (L78 k K) (bodyOf Try.f78) (cuts_of _ _ _ _ _ _ _ _ (bodyOf Try.f78) (l := [(1000002, sp78_1000002, cd78_1000002), (1000005, sp78_1000005, cd78_1000005)]) (by kernel_rfl) ⟨l78_1000002 k K, l78_1000005 k K, trivial⟩)]
    kernel_rfl
noncomputable def s78 (k : Nat) (a : List PV) (r : List RowS) (K : List PV → List RowS → Option R) : Option R :=
  onShape [.nils, .val [] (.int .i64)] [] (fun v => f78 k v.1.2.1 (fun z0 => K [.rw 1] [⟨0, .arr [] (.int .u8) z0⟩])) (callC T F k 78 a r K) a r
theorem s78_eq (k : Nat) (a : List PV) (r : List RowS) (K : List PV → List RowS → Option R) : s78 k a r K = callC T F k 78 a r K := by
  unfold s78
  exact onShape_eq (a := [.nils, .val [] (.int .i64)]) (b := []) (G := fun a r => callC T F k 78 a r K) (fun x y => Eq.trans (by kernel_rfl) (Eq.trans (e78 k x.2.1 K).symm (by kernel_rfl))) a r
end
section
variable {R : Type}
noncomputable def S40 (k g : Nat) (a : List PV) (r : List RowS) (K : List PV → List RowS → Option R) : Option R := bif g == 78 then s78 k a r K else callC T F k g a r K
theorem S40_eq (k : Nat) : S40 (R := R) k = callC T F k := by
  funext g a r K
  exact pick_eq (fun e => by subst e; exact s78_eq k a r K) (rfl)
section
variable {R : Type} (k : Nat) (K : List PV → List RowS → Option R)
noncomputable def L40_1000007 (ws : List PV) (rs : List RowS) (N : St → Option R) (X : Nat → St → Option R) : Option R :=
  onShape [.val [(0, 0)] (.slice (.slice (.int .u8))), .val [] (.int .i64), .val [(0, 0)] (.slice (.slice (.int .u8))), .val [] (.int .i64), .val [] (.int .i64), .val [] .bool] [] (fun v => f40_1000007 k (N (sh fi40_7 [.val [(0, 0)] (.slice (.slice (.int .u8))) v.1.1, .val [] (.int .i64) v.1.2.1, .val [(0, 0)] (.slice (.slice (.int .u8))) v.1.2.2.1, .val [] (.int .i64) v.1.2.2.2.1, .val [] (.int .i64) v.1.2.2.2.2.1] [])) v.1.1 v.1.2.1 v.1.2.2.1 v.1.2.2.2.1 v.1.2.2.2.2.1 v.1.2.2.2.2.2.1) (inner T an40 (modesOf F) 0 k 36 (S40 k) (ending T Try.f40 an40 0 K) cd40_1000007 (sh sp40_1000007 ws rs) N X) ws rs
noncomputable def L40_0 (ws : List PV) (rs : List RowS) (N : St → Option R) (X : Nat → St → Option R) : Option R :=
  onShape [.val [(0, 0)] (.slice (.slice (.int .u8))), .val [] (.int .i64), .val [(0, 0)] (.slice (.slice (.int .u8))), .val [] (.int .i64), .val [] (.int .i64)] [] (fun v => f40_0 k (fun y0_1 => N (sh jn40_0 [.val [(0, 0)] (.slice (.slice (.int .u8))) v.1.1, .val [] (.int .i64) y0_1] [])) v.1.1 v.1.2.2.1 v.1.2.2.2.1 k v.1.2.1 v.1.2.2.2.2.1) (inner T an40 (modesOf F) 0 k 36 (S40 k) (ending T Try.f40 an40 0 K) cd40_0 (sh sp40_0 ws rs) N X) ws rs
noncomputable def L40_2 (ws : List PV) (rs : List RowS) (N : St → Option R) (X : Nat → St → Option R) : Option R :=
  onShape [.rw 1, .val [(0, 0)] (.slice (.slice (.int .u8))), .val [] (.int .i64), .val [] (.int .i64)] [.arr [] (.int .u8)] (fun v => f40_2 k (fun y2_0 => N (sh jn40_2 [.rw 1] [⟨0, .arr [] (.int .u8) y2_0⟩])) v.1.2.1 v.1.2.2.1 k v.1.2.2.2.1 v.2.1) (inner T an40 (modesOf F) 0 k 36 (S40 k) (ending T Try.f40 an40 0 K) cd40_2 (sh sp40_2 ws rs) N X) ws rs
noncomputable def L40 (id : Nat) (ws : List PV) (rs : List RowS) (N : St → Option R) (X : Nat → St → Option R) : Option R := bif id == 1000007 then L40_1000007 k K ws rs N X else bif id == 0 then L40_0 k K ws rs N X else bif id == 2 then L40_2 k K ws rs N X else none
theorem l40_1000007 (ws : List PV) (rs : List RowS) (N : St → Option R) (X : Nat → St → Option R) : L40 k K 1000007 ws rs N X = inner T an40 (modesOf F) 0 k 36 (S40 k) (ending T Try.f40 an40 0 K) cd40_1000007 (sh sp40_1000007 ws rs) N X := by
  show L40_1000007 k K ws rs N X = _
  unfold L40_1000007
  rw [f40_1000007_def]
  exact onShape_eq (a := [.val [(0, 0)] (.slice (.slice (.int .u8))), .val [] (.int .i64), .val [(0, 0)] (.slice (.slice (.int .u8))), .val [] (.int .i64), .val [] (.int .i64), .val [] .bool]) (b := []) (G := fun ws rs => inner T an40 (modesOf F) 0 k 36 (S40 k) (ending T Try.f40 an40 0 K) cd40_1000007 (sh sp40_1000007 ws rs) N X) (fun x y => Eq.trans (by kernel_rfl) (innerS_eq T an40 (modesOf F) 0 k 36 (S40 k) (L40 k K) cd40_1000007 (l := []) (by kernel_rfl) trivial _ N X)) ws rs
theorem b40_0 (rec : St → Option R) (N : St → Option R) (X : Nat → St → Option R) (v0_0 : List (List Int)) (v0_2 : List (List Int)) (v0_3 : Int) (v0_1 : Int) (v0_4 : Int) :
    execS T an40 (modesOf F) 0 k 36 (S40 k) (L40 k K) (ending T Try.f40 an40 0 K) bd40_0 (sh sp40_0 [.val [(0, 0)] (.slice (.slice (.int .u8))) v0_0, .val [] (.int .i64) v0_1, .val [(0, 0)] (.slice (.slice (.int .u8))) v0_2, .val [] (.int .i64) v0_3, .val [] (.int .i64) v0_4] []) (fun st => atHead an40 0 bd40_0 st rec) (outX an40 0 0 N X) =
      f40_0b k (fun v0_1 v0_4 => rec (sh sp40_0 [.val [(0, 0)] (.slice (.slice (.int .u8))) v0_0, .val [] (.int .i64) v0_1, .val [(0, 0)] (.slice (.slice (.int .u8))) v0_2, .val [] (.int .i64) v0_3, .val [] (.int .i64) v0_4] [])) (fun y0_1 => N (sh jn40_0 [.val [(0, 0)] (.slice (.slice (.int .u8))) v0_0, .val [] (.int .i64) y0_1] [])) v0_0 v0_2 v0_3 v0_1 v0_4 := by kernel_rfl
theorem i40_0 (N : St → Option R) (X : Nat → St → Option R) (v0_0 : List (List Int)) (v0_2 : List (List Int)) (v0_3 : Int) (m : Nat) : ∀ (v0_1 : Int) (v0_4 : Int),
    iter (atHead an40 0 bd40_0) m (fun st N' => exec T an40 (modesOf F) 0 k 36 (S40 k) (ending T Try.f40 an40 0 K) bd40_0 st N' (outX an40 0 0 N X)) (sh sp40_0 [.val [(0, 0)] (.slice (.slice (.int .u8))) v0_0, .val [] (.int .i64) v0_1, .val [(0, 0)] (.slice (.slice (.int .u8))) v0_2, .val [] (.int .i64) v0_3, .val [] (.int .i64) v0_4] []) = f40_0d k (fun y0_1 => N (sh jn40_0 [.val [(0, 0)] (.slice (.slice (.int .u8))) v0_0, .val [] (.int .i64) y0_1] [])) v0_0 v0_2 v0_3 m v0_1 v0_4 := by
  induction m with
  | zero => intros; rfl
  | succ m ih =>
    intro v0_1 v0_4
    simp only [iter]
    rw [← execS_eq T an40 (modesOf F) 0 k 36 (S40 k) (L40 k K) bd40_0 (cuts_of _ _ _ _ _ _ _ _ bd40_0 (l := [(1000007, sp40_1000007, cd40_1000007)]) (by kernel_rfl) ⟨l40_1000007 k K, trivial⟩)]
    refine (b40_0 k K _ N X v0_0 v0_2 v0_3 v0_1 v0_4).trans ?_
    simp only [f40_0d, ih]
theorem l40_0 (ws : List PV) (rs : List RowS) (N : St → Option R) (X : Nat → St → Option R) : L40 k K 0 ws rs N X = inner T an40 (modesOf F) 0 k 36 (S40 k) (ending T Try.f40 an40 0 K) cd40_0 (sh sp40_0 ws rs) N X := by
  show L40_0 k K ws rs N X = _
  unfold L40_0
  rw [f40_0_def]
  exact onShape_eq (a := [.val [(0, 0)] (.slice (.slice (.int .u8))), .val [] (.int .i64), .val [(0, 0)] (.slice (.slice (.int .u8))), .val [] (.int .i64), .val [] (.int .i64)]) (b := []) (G := fun ws rs => inner T an40 (modesOf F) 0 k 36 (S40 k) (ending T Try.f40 an40 0 K) cd40_0 (sh sp40_0 ws rs) N X) (fun x y => Eq.trans (by kernel_rfl) (Eq.trans (i40_0 k K N X x.1 x.2.2.1 x.2.2.2.1 k x.2.1 x.2.2.2.2.1).symm (by kernel_rfl))) ws rs
theorem b40_2 (rec : St → Option R) (N : St → Option R) (X : Nat → St → Option R) (v2_0 : List (List Int)) (v2_1 : Int) (v2_2 : Int) (v2_3 : List Int) :
    execS T an40 (modesOf F) 0 k 36 (S40 k) (L40 k K) (ending T Try.f40 an40 0 K) bd40_2 (sh sp40_2 [.rw 1, .val [(0, 0)] (.slice (.slice (.int .u8))) v2_0, .val [] (.int .i64) v2_1, .val [] (.int .i64) v2_2] [⟨0, .arr [] (.int .u8) v2_3⟩]) (fun st => atHead an40 0 bd40_2 st rec) (outX an40 0 2 N X) =
      f40_2b k (fun v2_2 v2_3 => rec (sh sp40_2 [.rw 1, .val [(0, 0)] (.slice (.slice (.int .u8))) v2_0, .val [] (.int .i64) v2_1, .val [] (.int .i64) v2_2] [⟨0, .arr [] (.int .u8) v2_3⟩])) (fun y2_0 => N (sh jn40_2 [.rw 1] [⟨0, .arr [] (.int .u8) y2_0⟩])) v2_0 v2_1 v2_2 v2_3 := by kernel_rfl
theorem i40_2 (N : St → Option R) (X : Nat → St → Option R) (v2_0 : List (List Int)) (v2_1 : Int) (m : Nat) : ∀ (v2_2 : Int) (v2_3 : List Int),
    iter (atHead an40 0 bd40_2) m (fun st N' => exec T an40 (modesOf F) 0 k 36 (S40 k) (ending T Try.f40 an40 0 K) bd40_2 st N' (outX an40 0 2 N X)) (sh sp40_2 [.rw 1, .val [(0, 0)] (.slice (.slice (.int .u8))) v2_0, .val [] (.int .i64) v2_1, .val [] (.int .i64) v2_2] [⟨0, .arr [] (.int .u8) v2_3⟩]) = f40_2d k (fun y2_0 => N (sh jn40_2 [.rw 1] [⟨0, .arr [] (.int .u8) y2_0⟩])) v2_0 v2_1 m v2_2 v2_3 := by
  induction m with
  | zero => intros; rfl
  | succ m ih =>
    intro v2_2 v2_3
    simp only [iter]
    rw [← execS_eq T an40 (modesOf F) 0 k 36 (S40 k) (L40 k K) bd40_2 (cuts_of _ _ _ _ _ _ _ _ bd40_2 (l := []) (by kernel_rfl) trivial)]
    refine (b40_2 k K _ N X v2_0 v2_1 v2_2 v2_3).trans ?_
    simp only [f40_2d, ih]
theorem l40_2 (ws : List PV) (rs : List RowS) (N : St → Option R) (X : Nat → St → Option R) : L40 k K 2 ws rs N X = inner T an40 (modesOf F) 0 k 36 (S40 k) (ending T Try.f40 an40 0 K) cd40_2 (sh sp40_2 ws rs) N X := by
  show L40_2 k K ws rs N X = _
  unfold L40_2
  rw [f40_2_def]
  exact onShape_eq (a := [.rw 1, .val [(0, 0)] (.slice (.slice (.int .u8))), .val [] (.int .i64), .val [] (.int .i64)]) (b := [.arr [] (.int .u8)]) (G := fun ws rs => inner T an40 (modesOf F) 0 k 36 (S40 k) (ending T Try.f40 an40 0 K) cd40_2 (sh sp40_2 ws rs) N X) (fun x y => Eq.trans (by kernel_rfl) (Eq.trans (i40_2 k K N X x.2.1 x.2.2.1 k x.2.2.2.1 y.1).symm (by kernel_rfl))) ws rs
end
theorem e40 (k : Nat) (a0 : List (List Int)) (K : List PV → List RowS → Option R) : callC T F k 40 [.val [(0, 0)] (.slice (.slice (.int .u8))) a0] [] K = f40 k a0 (fun z0 => K [.rw 1] [⟨0, .arr [] (.int .u8) z0⟩]) := by
  rw [f40_def]
  cases k with
  | zero => rfl
  | succ k =>
    refine Eq.trans (show _ = exec T an40 (modesOf F) 0 k 36 (callC T F k) (ending T Try.f40 an40 0 K) (bodyOf Try.f40) ⟨argEnv 0 [.val [(0, 0)] (.slice (.slice (.int .u8))) a0] (fun _ => none), rowsOf []⟩ (ending T Try.f40 an40 0 K) (fun _ _ => none) from by kernel_rfl) ?_
    rw [← S40_eq k, ← execS_eq T an40 (modesOf F) 0 k 36 (S40 k) (L40 k K) (bodyOf Try.f40) (cuts_of _ _ _ _ _ _ _ _ (bodyOf Try.f40) (l := [(0, sp40_0, cd40_0), (2, sp40_2, cd40_2)]) (by kernel_rfl) ⟨l40_0 k K, l40_2 k K, trivial⟩)]
    kernel_rfl
noncomputable def s40 (k : Nat) (a : List PV) (r : List RowS) (K : List PV → List RowS → Option R) : Option R :=
  onShape [.val [(0, 0)] (.slice (.slice (.int .u8)))] [] (fun v => f40 k v.1.1 (fun z0 => K [.rw 1] [⟨0, .arr [] (.int .u8) z0⟩])) (callC T F k 40 a r K) a r
theorem s40_eq (k : Nat) (a : List PV) (r : List RowS) (K : List PV → List RowS → Option R) : s40 k a r K = callC T F k 40 a r K := by
  unfold s40
  exact onShape_eq (a := [.val [(0, 0)] (.slice (.slice (.int .u8)))]) (b := []) (G := fun a r => callC T F k 40 a r K) (fun x y => Eq.trans (by kernel_rfl) (Eq.trans (e40 k x.1 K).symm (by kernel_rfl))) a r
end
section
variable {R : Type}
noncomputable def S97 (k g : Nat) (a : List PV) (r : List RowS) (K : List PV → List RowS → Option R) : Option R := bif g == 32 then s32 k a r K else bif g == 79 then s79 k a r K else callC T F k g a r K
theorem S97_eq (k : Nat) : S97 (R := R) k = callC T F k := by
  funext g a r K
  exact pick_eq (fun e => by subst e; exact s32_eq k a r K) (pick_eq (fun e => by subst e; exact s79_eq k a r K) (rfl))
theorem e97 (k : Nat) (a0 : List Int) (K : List PV → List RowS → Option R) : callC T F k 97 [.val [(0, 0)] (.slice (.int .u8)) a0] [] K = f97 k a0 (fun z0 => K [.val [] .bool z0] []) := by
  rw [f97_def]
  cases k with
  | zero => rfl
  | succ k =>
    refine Eq.trans (show _ = exec T an97 (modesOf F) 0 k 18 (callC T F k) (ending T Try.f97 an97 0 K) (bodyOf Try.f97) ⟨argEnv 0 [.val [(0, 0)] (.slice (.int .u8)) a0] (fun _ => none), rowsOf []⟩ (ending T Try.f97 an97 0 K) (fun _ _ => none) from by kernel_rfl) ?_
    rw [← S97_eq k, ← execS_eq T an97 (modesOf F) 0 k 18 (S97 k) (fun _ _ _ _ _ => none) (bodyOf Try.f97) (cuts_of _ _ _ _ _ _ _ _ (bodyOf Try.f97) (l := []) (by kernel_rfl) trivial)]
    kernel_rfl
noncomputable def s97 (k : Nat) (a : List PV) (r : List RowS) (K : List PV → List RowS → Option R) : Option R :=
  onShape [.val [(0, 0)] (.slice (.int .u8))] [] (fun v => f97 k v.1.1 (fun z0 => K [.val [] .bool z0] [])) (callC T F k 97 a r K) a r
theorem s97_eq (k : Nat) (a : List PV) (r : List RowS) (K : List PV → List RowS → Option R) : s97 k a r K = callC T F k 97 a r K := by
  unfold s97
  exact onShape_eq (a := [.val [(0, 0)] (.slice (.int .u8))]) (b := []) (G := fun a r => callC T F k 97 a r K) (fun x y => Eq.trans (by kernel_rfl) (Eq.trans (e97 k x.1 K).symm (by kernel_rfl))) a r
end
section
variable {R : Type}
noncomputable def S65 (k g : Nat) (a : List PV) (r : List RowS) (K : List PV → List RowS → Option R) : Option R := callC T F k g a r K
theorem S65_eq (k : Nat) : S65 (R := R) k = callC T F k := by
  funext g a r K
  exact rfl
theorem e65 (k : Nat) (a0 : List Int) (K : List PV → List RowS → Option R) : callC T F k 65 [.val [(0, 0)] (.slice (.int .u8)) a0] [] K = f65 k a0 (fun z0 => K [.val [] (.int .i64) z0] []) := by
  rw [f65_def]
  cases k with
  | zero => rfl
  | succ k =>
    refine Eq.trans (show _ = exec T an65 (modesOf F) 0 k 13 (callC T F k) (ending T Try.f65 an65 0 K) (bodyOf Try.f65) ⟨argEnv 0 [.val [(0, 0)] (.slice (.int .u8)) a0] (fun _ => none), rowsOf []⟩ (ending T Try.f65 an65 0 K) (fun _ _ => none) from by kernel_rfl) ?_
    rw [← S65_eq k, ← execS_eq T an65 (modesOf F) 0 k 13 (S65 k) (fun _ _ _ _ _ => none) (bodyOf Try.f65) (cuts_of _ _ _ _ _ _ _ _ (bodyOf Try.f65) (l := []) (by kernel_rfl) trivial)]
    kernel_rfl
noncomputable def s65 (k : Nat) (a : List PV) (r : List RowS) (K : List PV → List RowS → Option R) : Option R :=
  onShape [.val [(0, 0)] (.slice (.int .u8))] [] (fun v => f65 k v.1.1 (fun z0 => K [.val [] (.int .i64) z0] [])) (callC T F k 65 a r K) a r
theorem s65_eq (k : Nat) (a : List PV) (r : List RowS) (K : List PV → List RowS → Option R) : s65 k a r K = callC T F k 65 a r K := by
  unfold s65
  exact onShape_eq (a := [.val [(0, 0)] (.slice (.int .u8))]) (b := []) (G := fun a r => callC T F k 65 a r K) (fun x y => Eq.trans (by kernel_rfl) (Eq.trans (e65 k x.1 K).symm (by kernel_rfl))) a r
end
section
variable {R : Type}
noncomputable def S67 (k g : Nat) (a : List PV) (r : List RowS) (K : List PV → List RowS → Option R) : Option R := bif g == 19 then s19 k a r K else bif g == 65 then s65 k a r K else callC T F k g a r K
theorem S67_eq (k : Nat) : S67 (R := R) k = callC T F k := by
  funext g a r K
  exact pick_eq (fun e => by subst e; exact s19_eq k a r K) (pick_eq (fun e => by subst e; exact s65_eq k a r K) (rfl))
theorem e67 (k : Nat) (a0 : List Int) (K : List PV → List RowS → Option R) : callC T F k 67 [.val [(0, 0)] (.slice (.int .u8)) a0] [] K = f67 k a0 (fun z0 => K [.val [] .bool z0] []) := by
  rw [f67_def]
  cases k with
  | zero => rfl
  | succ k =>
    refine Eq.trans (show _ = exec T an67 (modesOf F) 0 k 16 (callC T F k) (ending T Try.f67 an67 0 K) (bodyOf Try.f67) ⟨argEnv 0 [.val [(0, 0)] (.slice (.int .u8)) a0] (fun _ => none), rowsOf []⟩ (ending T Try.f67 an67 0 K) (fun _ _ => none) from by kernel_rfl) ?_
    rw [← S67_eq k, ← execS_eq T an67 (modesOf F) 0 k 16 (S67 k) (fun _ _ _ _ _ => none) (bodyOf Try.f67) (cuts_of _ _ _ _ _ _ _ _ (bodyOf Try.f67) (l := []) (by kernel_rfl) trivial)]
    kernel_rfl
noncomputable def s67 (k : Nat) (a : List PV) (r : List RowS) (K : List PV → List RowS → Option R) : Option R :=
  onShape [.val [(0, 0)] (.slice (.int .u8))] [] (fun v => f67 k v.1.1 (fun z0 => K [.val [] .bool z0] [])) (callC T F k 67 a r K) a r
theorem s67_eq (k : Nat) (a : List PV) (r : List RowS) (K : List PV → List RowS → Option R) : s67 k a r K = callC T F k 67 a r K := by
  unfold s67
  exact onShape_eq (a := [.val [(0, 0)] (.slice (.int .u8))]) (b := []) (G := fun a r => callC T F k 67 a r K) (fun x y => Eq.trans (by kernel_rfl) (Eq.trans (e67 k x.1 K).symm (by kernel_rfl))) a r
end
section
variable {R : Type}
noncomputable def S35 (k g : Nat) (a : List PV) (r : List RowS) (K : List PV → List RowS → Option R) : Option R := bif g == 66 then s66 k a r K else bif g == 75 then s75 k a r K else callC T F k g a r K
theorem S35_eq (k : Nat) : S35 (R := R) k = callC T F k := by
  funext g a r K
  exact pick_eq (fun e => by subst e; exact s66_eq k a r K) (pick_eq (fun e => by subst e; exact s75_eq k a r K) (rfl))
theorem e35 (k : Nat) (a0 : Int) (a1 : Int) (a2 : Int) (a3 : Int) (a4 : List Int) (a5 : Int) (K : List PV → List RowS → Option R) : callC T F k 35 [.agg [.val [] (.int .i64) a0, .val [] (.int .i64) a1, .val [] (.int .i64) a2, .val [] (.int .i64) a3, .val [(0, 0)] (.slice (.int .u8)) a4], .val [] (.int .i64) a5] [] K = f35 k a0 a1 a2 a3 a4 a5 (fun z0 => K [.val [] (.int .i64) z0] []) := by
  rw [f35_def]
  cases k with
  | zero => rfl
  | succ k =>
    refine Eq.trans (show _ = exec T an35 (modesOf F) 0 k 47 (callC T F k) (ending T Try.f35 an35 0 K) (bodyOf Try.f35) ⟨argEnv 0 [.agg [.val [] (.int .i64) a0, .val [] (.int .i64) a1, .val [] (.int .i64) a2, .val [] (.int .i64) a3, .val [(0, 0)] (.slice (.int .u8)) a4], .val [] (.int .i64) a5] (fun _ => none), rowsOf []⟩ (ending T Try.f35 an35 0 K) (fun _ _ => none) from by kernel_rfl) ?_
    rw [← S35_eq k, ← execS_eq T an35 (modesOf F) 0 k 47 (S35 k) (fun _ _ _ _ _ => none) (bodyOf Try.f35) (cuts_of _ _ _ _ _ _ _ _ (bodyOf Try.f35) (l := []) (by kernel_rfl) trivial)]
    kernel_rfl
noncomputable def s35 (k : Nat) (a : List PV) (r : List RowS) (K : List PV → List RowS → Option R) : Option R :=
  onShape [.agg [.val [] (.int .i64), .val [] (.int .i64), .val [] (.int .i64), .val [] (.int .i64), .val [(0, 0)] (.slice (.int .u8))], .val [] (.int .i64)] [] (fun v => f35 k v.1.1.1 v.1.1.2.1 v.1.1.2.2.1 v.1.1.2.2.2.1 v.1.1.2.2.2.2.1 v.1.2.1 (fun z0 => K [.val [] (.int .i64) z0] [])) (callC T F k 35 a r K) a r
theorem s35_eq (k : Nat) (a : List PV) (r : List RowS) (K : List PV → List RowS → Option R) : s35 k a r K = callC T F k 35 a r K := by
  unfold s35
  exact onShape_eq (a := [.agg [.val [] (.int .i64), .val [] (.int .i64), .val [] (.int .i64), .val [] (.int .i64), .val [(0, 0)] (.slice (.int .u8))], .val [] (.int .i64)]) (b := []) (G := fun a r => callC T F k 35 a r K) (fun x y => Eq.trans (by kernel_rfl) (Eq.trans (e35 k x.1.1 x.1.2.1 x.1.2.2.1 x.1.2.2.2.1 x.1.2.2.2.2.1 x.2.1 K).symm (by kernel_rfl))) a r
end
section
variable {R : Type}
noncomputable def S37 (k g : Nat) (a : List PV) (r : List RowS) (K : List PV → List RowS → Option R) : Option R := bif g == 35 then s35 k a r K else bif g == 41 then s41 k a r K else bif g == 65 then s65 k a r K else bif g == 67 then s67 k a r K else bif g == 75 then s75 k a r K else callC T F k g a r K
theorem S37_eq (k : Nat) : S37 (R := R) k = callC T F k := by
  funext g a r K
  exact pick_eq (fun e => by subst e; exact s35_eq k a r K) (pick_eq (fun e => by subst e; exact s41_eq k a r K) (pick_eq (fun e => by subst e; exact s65_eq k a r K) (pick_eq (fun e => by subst e; exact s67_eq k a r K) (pick_eq (fun e => by subst e; exact s75_eq k a r K) (rfl)))))
theorem e37 (k : Nat) (a0 : List Int) (a1 : Int) (K : List PV → List RowS → Option R) : callC T F k 37 [.val [(0, 0)] (.slice (.int .u8)) a0, .val [] (.int .i64) a1] [] K = f37 k a0 a1 (fun z0 z1 z2 z3 z4 z5 => K [.agg [.val [] (.int .i64) z0, .val [] (.int .i64) z1, .val [] (.int .i64) z2, .val [] (.int .i64) z3, .rw 1], .val [] (.int .i64) z4] [⟨0, .arr [] (.int .u8) z5⟩]) := by
  rw [f37_def]
  cases k with
  | zero => rfl
  | succ k =>
    refine Eq.trans (show _ = exec T an37 (modesOf F) 0 k 51 (callC T F k) (ending T Try.f37 an37 0 K) (bodyOf Try.f37) ⟨argEnv 0 [.val [(0, 0)] (.slice (.int .u8)) a0, .val [] (.int .i64) a1] (fun _ => none), rowsOf []⟩ (ending T Try.f37 an37 0 K) (fun _ _ => none) from by kernel_rfl) ?_
    rw [← S37_eq k, ← execS_eq T an37 (modesOf F) 0 k 51 (S37 k) (fun _ _ _ _ _ => none) (bodyOf Try.f37) (cuts_of _ _ _ _ _ _ _ _ (bodyOf Try.f37) (l := []) (by kernel_rfl) trivial)]
    kernel_rfl
noncomputable def s37 (k : Nat) (a : List PV) (r : List RowS) (K : List PV → List RowS → Option R) : Option R :=
  onShape [.val [(0, 0)] (.slice (.int .u8)), .val [] (.int .i64)] [] (fun v => f37 k v.1.1 v.1.2.1 (fun z0 z1 z2 z3 z4 z5 => K [.agg [.val [] (.int .i64) z0, .val [] (.int .i64) z1, .val [] (.int .i64) z2, .val [] (.int .i64) z3, .rw 1], .val [] (.int .i64) z4] [⟨0, .arr [] (.int .u8) z5⟩])) (callC T F k 37 a r K) a r
theorem s37_eq (k : Nat) (a : List PV) (r : List RowS) (K : List PV → List RowS → Option R) : s37 k a r K = callC T F k 37 a r K := by
  unfold s37
  exact onShape_eq (a := [.val [(0, 0)] (.slice (.int .u8)), .val [] (.int .i64)]) (b := []) (G := fun a r => callC T F k 37 a r K) (fun x y => Eq.trans (by kernel_rfl) (Eq.trans (e37 k x.1 x.2.1 K).symm (by kernel_rfl))) a r
end
section
variable {R : Type}
noncomputable def S80 (k g : Nat) (a : List PV) (r : List RowS) (K : List PV → List RowS → Option R) : Option R := bif g == 37 then s37 k a r K else bif g == 79 then s79 k a r K else bif g == 97 then s97 k a r K else callC T F k g a r K
theorem S80_eq (k : Nat) : S80 (R := R) k = callC T F k := by
  funext g a r K
  exact pick_eq (fun e => by subst e; exact s37_eq k a r K) (pick_eq (fun e => by subst e; exact s79_eq k a r K) (pick_eq (fun e => by subst e; exact s97_eq k a r K) (rfl)))
section
variable {R : Type} (k : Nat) (K : List PV → List RowS → Option R)
noncomputable def L80_1000011 (ws : List PV) (rs : List RowS) (N : St → Option R) (X : Nat → St → Option R) : Option R :=
  onShape [.val [(0, 0)] (.slice (.int .u8)), .val [] (.int .i64), .rw 1, .rw 2, .val [] (.int .i64), .val [] (.int .i64), .val [(0, 0)] (.slice (.int .u8)), .val [] .bool] [.arr [] (.prod (.int .i64) (.prod (.int .i64) (.prod (.int .i64) (.prod (.int .i64) (.prod (.slice (.int .u8)) .unit))))), .arr [] (.int .i64)] (fun v => f80_1000011 k (fun y1_3 y1_4 y1_5 => X 1 (sh jn80_1 [.val [(0, 0)] (.slice (.int .u8)) v.1.1, .val [] (.int .i64) v.1.2.1, .rw 1, .rw 2, .val [] (.int .i64) v.1.2.2.2.2.1, .val [] (.int .i64) y1_3] [⟨0, .arr [] (.prod (.int .i64) (.prod (.int .i64) (.prod (.int .i64) (.prod (.int .i64) (.prod (.slice (.int .u8)) .unit))))) y1_4⟩, ⟨0, .arr [] (.int .i64) y1_5⟩])) (N (sh fi80_11 [.val [(0, 0)] (.slice (.int .u8)) v.1.1, .val [] (.int .i64) v.1.2.1, .rw 1, .rw 2, .val [] (.int .i64) v.1.2.2.2.2.1, .val [] (.int .i64) v.1.2.2.2.2.2.1] [⟨0, .arr [] (.prod (.int .i64) (.prod (.int .i64) (.prod (.int .i64) (.prod (.int .i64) (.prod (.slice (.int .u8)) .unit))))) v.2.1⟩, ⟨0, .arr [] (.int .i64) v.2.2.1⟩])) v.1.1 v.1.2.1 v.1.2.2.2.2.1 v.1.2.2.2.2.2.1 v.1.2.2.2.2.2.2.1 v.1.2.2.2.2.2.2.2.1 v.2.1 v.2.2.1) (inner T an80 (modesOf F) 0 k 63 (S80 k) (ending T Try.f80 an80 0 K) cd80_1000011 (sh sp80_1000011 ws rs) N X) ws rs
noncomputable def L80_1 (ws : List PV) (rs : List RowS) (N : St → Option R) (X : Nat → St → Option R) : Option R :=
  onShape [.val [(0, 0)] (.slice (.int .u8)), .val [] (.int .i64), .rw 1, .rw 2, .val [] (.int .i64), .val [] (.int .i64)] [.arr [] (.prod (.int .i64) (.prod (.int .i64) (.prod (.int .i64) (.prod (.int .i64) (.prod (.slice (.int .u8)) .unit))))), .arr [] (.int .i64)] (fun v => f80_1 k (X 0 (sh jn80_0 [.rw 1, .rw 2, .val [] (.int .i64) v.1.2.2.2.2.2.1] [⟨0, .arr [] (.prod (.int .i64) (.prod (.int .i64) (.prod (.int .i64) (.prod (.int .i64) (.prod (.slice (.int .u8)) .unit))))) v.2.1⟩, ⟨0, .arr [] (.int .i64) v.2.2.1⟩])) (fun y1_3 y1_4 y1_5 => N (sh jn80_1 [.val [(0, 0)] (.slice (.int .u8)) v.1.1, .val [] (.int .i64) v.1.2.1, .rw 1, .rw 2, .val [] (.int .i64) v.1.2.2.2.2.1, .val [] (.int .i64) y1_3] [⟨0, .arr [] (.prod (.int .i64) (.prod (.int .i64) (.prod (.int .i64) (.prod (.int .i64) (.prod (.slice (.int .u8)) .unit))))) y1_4⟩, ⟨0, .arr [] (.int .i64) y1_5⟩])) v.1.1 v.1.2.1 v.1.2.2.2.2.1 v.1.2.2.2.2.2.1 v.2.1 v.2.2.1) (inner T an80 (modesOf F) 0 k 63 (S80 k) (ending T Try.f80 an80 0 K) cd80_1 (sh sp80_1 ws rs) N X) ws rs
noncomputable def L80_0 (ws : List PV) (rs : List RowS) (N : St → Option R) (X : Nat → St → Option R) : Option R :=
  onShape [.val [(0, 0)] (.slice (.int .u8)), .val [] (.int .i64), .rw 1, .rw 2, .val [] (.int .i64), .val [] (.int .i64)] [.arr [] (.prod (.int .i64) (.prod (.int .i64) (.prod (.int .i64) (.prod (.int .i64) (.prod (.slice (.int .u8)) .unit))))), .arr [] (.int .i64)] (fun v => f80_0 k (fun y0_0 y0_1 y0_2 => N (sh jn80_0 [.rw 1, .rw 2, .val [] (.int .i64) y0_0] [⟨0, .arr [] (.prod (.int .i64) (.prod (.int .i64) (.prod (.int .i64) (.prod (.int .i64) (.prod (.slice (.int .u8)) .unit))))) y0_1⟩, ⟨0, .arr [] (.int .i64) y0_2⟩])) v.1.1 v.1.2.1 v.1.2.2.2.2.1 k v.1.2.2.2.2.2.1 v.2.1 v.2.2.1) (inner T an80 (modesOf F) 0 k 63 (S80 k) (ending T Try.f80 an80 0 K) cd80_0 (sh sp80_0 ws rs) N X) ws rs
noncomputable def L80 (id : Nat) (ws : List PV) (rs : List RowS) (N : St → Option R) (X : Nat → St → Option R) : Option R := bif id == 1000011 then L80_1000011 k K ws rs N X else bif id == 1 then L80_1 k K ws rs N X else bif id == 0 then L80_0 k K ws rs N X else none
theorem l80_1000011 (ws : List PV) (rs : List RowS) (N : St → Option R) (X : Nat → St → Option R) : L80 k K 1000011 ws rs N X = inner T an80 (modesOf F) 0 k 63 (S80 k) (ending T Try.f80 an80 0 K) cd80_1000011 (sh sp80_1000011 ws rs) N X := by
  show L80_1000011 k K ws rs N X = _
  unfold L80_1000011
  rw [f80_1000011_def]
  exact onShape_eq (a := [.val [(0, 0)] (.slice (.int .u8)), .val [] (.int .i64), .rw 1, .rw 2, .val [] (.int .i64), .val [] (.int .i64), .val [(0, 0)] (.slice (.int .u8)), .val [] .bool]) (b := [.arr [] (.prod (.int .i64) (.prod (.int .i64) (.prod (.int .i64) (.prod (.int .i64) (.prod (.slice (.int .u8)) .unit))))), .arr [] (.int .i64)]) (G := fun ws rs => inner T an80 (modesOf F) 0 k 63 (S80 k) (ending T Try.f80 an80 0 K) cd80_1000011 (sh sp80_1000011 ws rs) N X) (fun x y => Eq.trans (by kernel_rfl) (innerS_eq T an80 (modesOf F) 0 k 63 (S80 k) (L80 k K) cd80_1000011 (l := []) (by kernel_rfl) trivial _ N X)) ws rs
theorem l80_1 (ws : List PV) (rs : List RowS) (N : St → Option R) (X : Nat → St → Option R) : L80 k K 1 ws rs N X = inner T an80 (modesOf F) 0 k 63 (S80 k) (ending T Try.f80 an80 0 K) cd80_1 (sh sp80_1 ws rs) N X := by
  show L80_1 k K ws rs N X = _
  unfold L80_1
  rw [f80_1_def]
  exact onShape_eq (a := [.val [(0, 0)] (.slice (.int .u8)), .val [] (.int .i64), .rw 1, .rw 2, .val [] (.int .i64), .val [] (.int .i64)]) (b := [.arr [] (.prod (.int .i64) (.prod (.int .i64) (.prod (.int .i64) (.prod (.int .i64) (.prod (.slice (.int .u8)) .unit))))), .arr [] (.int .i64)]) (G := fun ws rs => inner T an80 (modesOf F) 0 k 63 (S80 k) (ending T Try.f80 an80 0 K) cd80_1 (sh sp80_1 ws rs) N X) (fun x y => Eq.trans (by kernel_rfl) (innerS_eq T an80 (modesOf F) 0 k 63 (S80 k) (L80 k K) cd80_1 (l := [(1000011, sp80_1000011, cd80_1000011)]) (by kernel_rfl) ⟨l80_1000011 k K, trivial⟩ _ N X)) ws rs
theorem b80_0 (rec : St → Option R) (N : St → Option R) (X : Nat → St → Option R) (v0_0 : List Int) (v0_1 : Int) (v0_2 : Int) (v0_3 : Int) (v0_4 : List (Int × (Int × (Int × (Int × (List Int × Unit)))))) (v0_5 : List Int) :
    execS T an80 (modesOf F) 0 k 63 (S80 k) (L80 k K) (ending T Try.f80 an80 0 K) bd80_0 (sh sp80_0 [.val [(0, 0)] (.slice (.int .u8)) v0_0, .val [] (.int .i64) v0_1, .rw 1, .rw 2, .val [] (.int .i64) v0_2, .val [] (.int .i64) v0_3] [⟨0, .arr [] (.prod (.int .i64) (.prod (.int .i64) (.prod (.int .i64) (.prod (.int .i64) (.prod (.slice (.int .u8)) .unit))))) v0_4⟩, ⟨0, .arr [] (.int .i64) v0_5⟩]) (fun st => atHead an80 0 bd80_0 st rec) (outX an80 0 0 N X) =
      f80_0b k (fun v0_3 v0_4 v0_5 => rec (sh sp80_0 [.val [(0, 0)] (.slice (.int .u8)) v0_0, .val [] (.int .i64) v0_1, .rw 1, .rw 2, .val [] (.int .i64) v0_2, .val [] (.int .i64) v0_3] [⟨0, .arr [] (.prod (.int .i64) (.prod (.int .i64) (.prod (.int .i64) (.prod (.int .i64) (.prod (.slice (.int .u8)) .unit))))) v0_4⟩, ⟨0, .arr [] (.int .i64) v0_5⟩])) (fun y0_0 y0_1 y0_2 => N (sh jn80_0 [.rw 1, .rw 2, .val [] (.int .i64) y0_0] [⟨0, .arr [] (.prod (.int .i64) (.prod (.int .i64) (.prod (.int .i64) (.prod (.int .i64) (.prod (.slice (.int .u8)) .unit))))) y0_1⟩, ⟨0, .arr [] (.int .i64) y0_2⟩])) v0_0 v0_1 v0_2 v0_3 v0_4 v0_5 := by kernel_rfl
theorem i80_0 (N : St → Option R) (X : Nat → St → Option R) (v0_0 : List Int) (v0_1 : Int) (v0_2 : Int) (m : Nat) : ∀ (v0_3 : Int) (v0_4 : List (Int × (Int × (Int × (Int × (List Int × Unit)))))) (v0_5 : List Int),
    iter (atHead an80 0 bd80_0) m (fun st N' => exec T an80 (modesOf F) 0 k 63 (S80 k) (ending T Try.f80 an80 0 K) bd80_0 st N' (outX an80 0 0 N X)) (sh sp80_0 [.val [(0, 0)] (.slice (.int .u8)) v0_0, .val [] (.int .i64) v0_1, .rw 1, .rw 2, .val [] (.int .i64) v0_2, .val [] (.int .i64) v0_3] [⟨0, .arr [] (.prod (.int .i64) (.prod (.int .i64) (.prod (.int .i64) (.prod (.int .i64) (.prod (.slice (.int .u8)) .unit))))) v0_4⟩, ⟨0, .arr [] (.int .i64) v0_5⟩]) = f80_0d k (fun y0_0 y0_1 y0_2 => N (sh jn80_0 [.rw 1, .rw 2, .val [] (.int .i64) y0_0] [⟨0, .arr [] (.prod (.int .i64) (.prod (.int .i64) (.prod (.int .i64) (.prod (.int .i64) (.prod (.slice (.int .u8)) .unit))))) y0_1⟩, ⟨0, .arr [] (.int .i64) y0_2⟩])) v0_0 v0_1 v0_2 m v0_3 v0_4 v0_5 := by
  induction m with
  | zero => intros; rfl
  | succ m ih =>
    intro v0_3 v0_4 v0_5
    simp only [iter]
    rw [← execS_eq T an80 (modesOf F) 0 k 63 (S80 k) (L80 k K) bd80_0 (cuts_of _ _ _ _ _ _ _ _ bd80_0 (l := [(1, sp80_1, cd80_1)]) (by kernel_rfl) ⟨l80_1 k K, trivial⟩)]
    refine (b80_0 k K _ N X v0_0 v0_1 v0_2 v0_3 v0_4 v0_5).trans ?_
    simp only [f80_0d, ih]
theorem l80_0 (ws : List PV) (rs : List RowS) (N : St → Option R) (X : Nat → St → Option R) : L80 k K 0 ws rs N X = inner T an80 (modesOf F) 0 k 63 (S80 k) (ending T Try.f80 an80 0 K) cd80_0 (sh sp80_0 ws rs) N X := by
  show L80_0 k K ws rs N X = _
  unfold L80_0
  rw [f80_0_def]
  exact onShape_eq (a := [.val [(0, 0)] (.slice (.int .u8)), .val [] (.int .i64), .rw 1, .rw 2, .val [] (.int .i64), .val [] (.int .i64)]) (b := [.arr [] (.prod (.int .i64) (.prod (.int .i64) (.prod (.int .i64) (.prod (.int .i64) (.prod (.slice (.int .u8)) .unit))))), .arr [] (.int .i64)]) (G := fun ws rs => inner T an80 (modesOf F) 0 k 63 (S80 k) (ending T Try.f80 an80 0 K) cd80_0 (sh sp80_0 ws rs) N X) (fun x y => Eq.trans (by kernel_rfl) (Eq.trans (i80_0 k K N X x.1 x.2.1 x.2.2.2.2.1 k x.2.2.2.2.2.1 y.1 y.2.1).symm (by kernel_rfl))) ws rs
end
theorem e80 (k : Nat) (a0 : List Int) (a1 : Int) (K : List PV → List RowS → Option R) : callC T F k 80 [.val [(0, 0)] (.slice (.int .u8)) a0, .val [] (.int .i64) a1] [] K = f80 k a0 a1 (fun z0 z1 z2 => K [.rw 1, .rw 2, .val [] (.int .i64) z0] [⟨0, .arr [] (.prod (.int .i64) (.prod (.int .i64) (.prod (.int .i64) (.prod (.int .i64) (.prod (.slice (.int .u8)) .unit))))) z1⟩, ⟨0, .arr [] (.int .i64) z2⟩]) := by
  rw [f80_def]
  cases k with
  | zero => rfl
  | succ k =>
    refine Eq.trans (show _ = exec T an80 (modesOf F) 0 k 63 (callC T F k) (ending T Try.f80 an80 0 K) (bodyOf Try.f80) ⟨argEnv 0 [.val [(0, 0)] (.slice (.int .u8)) a0, .val [] (.int .i64) a1] (fun _ => none), rowsOf []⟩ (ending T Try.f80 an80 0 K) (fun _ _ => none) from by kernel_rfl) ?_
    rw [← S80_eq k, ← execS_eq T an80 (modesOf F) 0 k 63 (S80 k) (L80 k K) (bodyOf Try.f80) (cuts_of _ _ _ _ _ _ _ _ (bodyOf Try.f80) (l := [(0, sp80_0, cd80_0)]) (by kernel_rfl) ⟨l80_0 k K, trivial⟩)]
    kernel_rfl
noncomputable def s80 (k : Nat) (a : List PV) (r : List RowS) (K : List PV → List RowS → Option R) : Option R :=
  onShape [.val [(0, 0)] (.slice (.int .u8)), .val [] (.int .i64)] [] (fun v => f80 k v.1.1 v.1.2.1 (fun z0 z1 z2 => K [.rw 1, .rw 2, .val [] (.int .i64) z0] [⟨0, .arr [] (.prod (.int .i64) (.prod (.int .i64) (.prod (.int .i64) (.prod (.int .i64) (.prod (.slice (.int .u8)) .unit))))) z1⟩, ⟨0, .arr [] (.int .i64) z2⟩])) (callC T F k 80 a r K) a r
theorem s80_eq (k : Nat) (a : List PV) (r : List RowS) (K : List PV → List RowS → Option R) : s80 k a r K = callC T F k 80 a r K := by
  unfold s80
  exact onShape_eq (a := [.val [(0, 0)] (.slice (.int .u8)), .val [] (.int .i64)]) (b := []) (G := fun a r => callC T F k 80 a r K) (fun x y => Eq.trans (by kernel_rfl) (Eq.trans (e80 k x.1 x.2.1 K).symm (by kernel_rfl))) a r
end
section
variable {R : Type}
noncomputable def S43 (k g : Nat) (a : List PV) (r : List RowS) (K : List PV → List RowS → Option R) : Option R := bif g == 40 then s40 k a r K else bif g == 41 then s41 k a r K else bif g == 75 then s75 k a r K else bif g == 79 then s79 k a r K else bif g == 80 then s80 k a r K else callC T F k g a r K
theorem S43_eq (k : Nat) : S43 (R := R) k = callC T F k := by
  funext g a r K
  exact pick_eq (fun e => by subst e; exact s40_eq k a r K) (pick_eq (fun e => by subst e; exact s41_eq k a r K) (pick_eq (fun e => by subst e; exact s75_eq k a r K) (pick_eq (fun e => by subst e; exact s79_eq k a r K) (pick_eq (fun e => by subst e; exact s80_eq k a r K) (rfl)))))
theorem e43 (k : Nat) (a0 : List Int) (a1 : List Int) (a2 : Int) (K : List PV → List RowS → Option R) : callC T F k 43 [.val [(0, 0)] (.slice (.int .u8)) a0, .val [(0, 0)] (.slice (.int .u8)) a1, .val [] (.int .i64) a2] [] K = f43 k a0 a1 a2 (fun z0 z1 z2 => K [.rw 1, .rw 2, .val [] (.int .i64) z0] [⟨0, .arr [] (.prod (.int .i64) (.prod (.int .i64) (.prod (.int .i64) (.prod (.int .i64) (.prod (.slice (.int .u8)) .unit))))) z1⟩, ⟨0, .arr [] (.int .u8) z2⟩]) := by
  rw [f43_def]
  cases k with
  | zero => rfl
  | succ k =>
    refine Eq.trans (show _ = exec T an43 (modesOf F) 0 k 48 (callC T F k) (ending T Try.f43 an43 0 K) (bodyOf Try.f43) ⟨argEnv 0 [.val [(0, 0)] (.slice (.int .u8)) a0, .val [(0, 0)] (.slice (.int .u8)) a1, .val [] (.int .i64) a2] (fun _ => none), rowsOf []⟩ (ending T Try.f43 an43 0 K) (fun _ _ => none) from by kernel_rfl) ?_
    rw [← S43_eq k, ← execS_eq T an43 (modesOf F) 0 k 48 (S43 k) (fun _ _ _ _ _ => none) (bodyOf Try.f43) (cuts_of _ _ _ _ _ _ _ _ (bodyOf Try.f43) (l := []) (by kernel_rfl) trivial)]
    kernel_rfl
noncomputable def s43 (k : Nat) (a : List PV) (r : List RowS) (K : List PV → List RowS → Option R) : Option R :=
  onShape [.val [(0, 0)] (.slice (.int .u8)), .val [(0, 0)] (.slice (.int .u8)), .val [] (.int .i64)] [] (fun v => f43 k v.1.1 v.1.2.1 v.1.2.2.1 (fun z0 z1 z2 => K [.rw 1, .rw 2, .val [] (.int .i64) z0] [⟨0, .arr [] (.prod (.int .i64) (.prod (.int .i64) (.prod (.int .i64) (.prod (.int .i64) (.prod (.slice (.int .u8)) .unit))))) z1⟩, ⟨0, .arr [] (.int .u8) z2⟩])) (callC T F k 43 a r K) a r
theorem s43_eq (k : Nat) (a : List PV) (r : List RowS) (K : List PV → List RowS → Option R) : s43 k a r K = callC T F k 43 a r K := by
  unfold s43
  exact onShape_eq (a := [.val [(0, 0)] (.slice (.int .u8)), .val [(0, 0)] (.slice (.int .u8)), .val [] (.int .i64)]) (b := []) (G := fun a r => callC T F k 43 a r K) (fun x y => Eq.trans (by kernel_rfl) (Eq.trans (e43 k x.1 x.2.1 x.2.2.1 K).symm (by kernel_rfl))) a r
end
section
variable {R : Type}
noncomputable def S76 (k g : Nat) (a : List PV) (r : List RowS) (K : List PV → List RowS → Option R) : Option R := bif g == 69 then s69 k a r K else callC T F k g a r K
theorem S76_eq (k : Nat) : S76 (R := R) k = callC T F k := by
  funext g a r K
  exact pick_eq (fun e => by subst e; exact s69_eq k a r K) (rfl)
theorem e76 (k : Nat) (a0 : Int) (K : List PV → List RowS → Option R) : callC T F k 76 [.val [] (.int .i64) a0] [] K = f76 k a0 (fun z0 => K [.val [] (.int .i64) z0] []) := by
  rw [f76_def]
  cases k with
  | zero => rfl
  | succ k =>
    refine Eq.trans (show _ = exec T an76 (modesOf F) 0 k 6 (callC T F k) (ending T Try.f76 an76 0 K) (bodyOf Try.f76) ⟨argEnv 0 [.val [] (.int .i64) a0] (fun _ => none), rowsOf []⟩ (ending T Try.f76 an76 0 K) (fun _ _ => none) from by kernel_rfl) ?_
    rw [← S76_eq k, ← execS_eq T an76 (modesOf F) 0 k 6 (S76 k) (fun _ _ _ _ _ => none) (bodyOf Try.f76) (cuts_of _ _ _ _ _ _ _ _ (bodyOf Try.f76) (l := []) (by kernel_rfl) trivial)]
    kernel_rfl
noncomputable def s76 (k : Nat) (a : List PV) (r : List RowS) (K : List PV → List RowS → Option R) : Option R :=
  onShape [.val [] (.int .i64)] [] (fun v => f76 k v.1.1 (fun z0 => K [.val [] (.int .i64) z0] [])) (callC T F k 76 a r K) a r
theorem s76_eq (k : Nat) (a : List PV) (r : List RowS) (K : List PV → List RowS → Option R) : s76 k a r K = callC T F k 76 a r K := by
  unfold s76
  exact onShape_eq (a := [.val [] (.int .i64)]) (b := []) (G := fun a r => callC T F k 76 a r K) (fun x y => Eq.trans (by kernel_rfl) (Eq.trans (e76 k x.1 K).symm (by kernel_rfl))) a r
end
section
variable {R : Type}
noncomputable def S105 (k g : Nat) (a : List PV) (r : List RowS) (K : List PV → List RowS → Option R) : Option R := callC T F k g a r K
theorem S105_eq (k : Nat) : S105 (R := R) k = callC T F k := by
  funext g a r K
  exact rfl
theorem e105 (k : Nat) (a0 : List Int) (a1 : List Int) (K : List PV → List RowS → Option R) : callC T F k 105 [.val [(0, 0)] (.slice (.int .u8)) a0, .val [(0, 0)] (.slice (.int .u8)) a1] [] K = f105 k a0 a1 (fun z0 => K [.val [] .bool z0] []) := by
  rw [f105_def]
  cases k with
  | zero => rfl
  | succ k =>
    refine Eq.trans (show _ = exec T an105 (modesOf F) 0 k 10 (callC T F k) (ending T Try.f105 an105 0 K) (bodyOf Try.f105) ⟨argEnv 0 [.val [(0, 0)] (.slice (.int .u8)) a0, .val [(0, 0)] (.slice (.int .u8)) a1] (fun _ => none), rowsOf []⟩ (ending T Try.f105 an105 0 K) (fun _ _ => none) from by kernel_rfl) ?_
    rw [← S105_eq k, ← execS_eq T an105 (modesOf F) 0 k 10 (S105 k) (fun _ _ _ _ _ => none) (bodyOf Try.f105) (cuts_of _ _ _ _ _ _ _ _ (bodyOf Try.f105) (l := []) (by kernel_rfl) trivial)]
    kernel_rfl
noncomputable def s105 (k : Nat) (a : List PV) (r : List RowS) (K : List PV → List RowS → Option R) : Option R :=
  onShape [.val [(0, 0)] (.slice (.int .u8)), .val [(0, 0)] (.slice (.int .u8))] [] (fun v => f105 k v.1.1 v.1.2.1 (fun z0 => K [.val [] .bool z0] [])) (callC T F k 105 a r K) a r
theorem s105_eq (k : Nat) (a : List PV) (r : List RowS) (K : List PV → List RowS → Option R) : s105 k a r K = callC T F k 105 a r K := by
  unfold s105
  exact onShape_eq (a := [.val [(0, 0)] (.slice (.int .u8)), .val [(0, 0)] (.slice (.int .u8))]) (b := []) (G := fun a r => callC T F k 105 a r K) (fun x y => Eq.trans (by kernel_rfl) (Eq.trans (e105 k x.1 x.2.1 K).symm (by kernel_rfl))) a r
end
section
variable {R : Type}
noncomputable def S98 (k g : Nat) (a : List PV) (r : List RowS) (K : List PV → List RowS → Option R) : Option R := bif g == 105 then s105 k a r K else callC T F k g a r K
theorem S98_eq (k : Nat) : S98 (R := R) k = callC T F k := by
  funext g a r K
  exact pick_eq (fun e => by subst e; exact s105_eq k a r K) (rfl)
theorem e98 (k : Nat) (a0 : List Int) (a1 : List Int) (K : List PV → List RowS → Option R) : callC T F k 98 [.val [(0, 0)] (.slice (.int .u8)) a0, .val [(0, 0)] (.slice (.int .u8)) a1] [] K = f98 k a0 a1 (fun z0 => K [.val [] .bool z0] []) := by
  rw [f98_def]
  cases k with
  | zero => rfl
  | succ k =>
    refine Eq.trans (show _ = exec T an98 (modesOf F) 0 k 18 (callC T F k) (ending T Try.f98 an98 0 K) (bodyOf Try.f98) ⟨argEnv 0 [.val [(0, 0)] (.slice (.int .u8)) a0, .val [(0, 0)] (.slice (.int .u8)) a1] (fun _ => none), rowsOf []⟩ (ending T Try.f98 an98 0 K) (fun _ _ => none) from by kernel_rfl) ?_
    rw [← S98_eq k, ← execS_eq T an98 (modesOf F) 0 k 18 (S98 k) (fun _ _ _ _ _ => none) (bodyOf Try.f98) (cuts_of _ _ _ _ _ _ _ _ (bodyOf Try.f98) (l := []) (by kernel_rfl) trivial)]
    kernel_rfl
noncomputable def s98 (k : Nat) (a : List PV) (r : List RowS) (K : List PV → List RowS → Option R) : Option R :=
  onShape [.val [(0, 0)] (.slice (.int .u8)), .val [(0, 0)] (.slice (.int .u8))] [] (fun v => f98 k v.1.1 v.1.2.1 (fun z0 => K [.val [] .bool z0] [])) (callC T F k 98 a r K) a r
theorem s98_eq (k : Nat) (a : List PV) (r : List RowS) (K : List PV → List RowS → Option R) : s98 k a r K = callC T F k 98 a r K := by
  unfold s98
  exact onShape_eq (a := [.val [(0, 0)] (.slice (.int .u8)), .val [(0, 0)] (.slice (.int .u8))]) (b := []) (G := fun a r => callC T F k 98 a r K) (fun x y => Eq.trans (by kernel_rfl) (Eq.trans (e98 k x.1 x.2.1 K).symm (by kernel_rfl))) a r
end
section
variable {R : Type}
noncomputable def S81 (k g : Nat) (a : List PV) (r : List RowS) (K : List PV → List RowS → Option R) : Option R := bif g == 98 then s98 k a r K else callC T F k g a r K
theorem S81_eq (k : Nat) : S81 (R := R) k = callC T F k := by
  funext g a r K
  exact pick_eq (fun e => by subst e; exact s98_eq k a r K) (rfl)
theorem e81 (k : Nat) (a0 : List Int) (a1 : Int) (K : List PV → List RowS → Option R) : callC T F k 81 [.val [(0, 0)] (.slice (.int .u8)) a0, .val [] (.int .i64) a1] [] K = f81 k a0 a1 (fun z0 => K [.val [] .bool z0] []) := by
  rw [f81_def]
  cases k with
  | zero => rfl
  | succ k =>
    refine Eq.trans (show _ = exec T an81 (modesOf F) 0 k 22 (callC T F k) (ending T Try.f81 an81 0 K) (bodyOf Try.f81) ⟨argEnv 0 [.val [(0, 0)] (.slice (.int .u8)) a0, .val [] (.int .i64) a1] (fun _ => none), rowsOf []⟩ (ending T Try.f81 an81 0 K) (fun _ _ => none) from by kernel_rfl) ?_
    rw [← S81_eq k, ← execS_eq T an81 (modesOf F) 0 k 22 (S81 k) (fun _ _ _ _ _ => none) (bodyOf Try.f81) (cuts_of _ _ _ _ _ _ _ _ (bodyOf Try.f81) (l := []) (by kernel_rfl) trivial)]
    kernel_rfl
noncomputable def s81 (k : Nat) (a : List PV) (r : List RowS) (K : List PV → List RowS → Option R) : Option R :=
  onShape [.val [(0, 0)] (.slice (.int .u8)), .val [] (.int .i64)] [] (fun v => f81 k v.1.1 v.1.2.1 (fun z0 => K [.val [] .bool z0] [])) (callC T F k 81 a r K) a r
theorem s81_eq (k : Nat) (a : List PV) (r : List RowS) (K : List PV → List RowS → Option R) : s81 k a r K = callC T F k 81 a r K := by
  unfold s81
  exact onShape_eq (a := [.val [(0, 0)] (.slice (.int .u8)), .val [] (.int .i64)]) (b := []) (G := fun a r => callC T F k 81 a r K) (fun x y => Eq.trans (by kernel_rfl) (Eq.trans (e81 k x.1 x.2.1 K).symm (by kernel_rfl))) a r
end
section
variable {R : Type}
noncomputable def S20 (k g : Nat) (a : List PV) (r : List RowS) (K : List PV → List RowS → Option R) : Option R := callC T F k g a r K
theorem S20_eq (k : Nat) : S20 (R := R) k = callC T F k := by
  funext g a r K
  exact rfl
section
variable {R : Type} (k : Nat) (K : List PV → List RowS → Option R)
noncomputable def L20_1000011 (ws : List PV) (rs : List RowS) (N : St → Option R) (X : Nat → St → Option R) : Option R :=
  onShape [.val [] (.int .i64), .val [(0, 0)] (.slice (.int .u8)), .val [] (.int .i64), .val [] (.int .i64), .val [] (.int .i64), .val [] .bool] [] (fun v => f20_1000011 k (fun yN_0 => N (sh fi20_11 [.val [] (.int .i64) yN_0, .val [(0, 0)] (.slice (.int .u8)) v.1.2.1, .val [] (.int .i64) v.1.2.2.1, .val [] (.int .i64) v.1.2.2.2.1, .val [] (.int .i64) v.1.2.2.2.2.1] [])) v.1.1 v.1.2.1 v.1.2.2.1 v.1.2.2.2.1 v.1.2.2.2.2.1 v.1.2.2.2.2.2.1) (inner T an20 (modesOf F) 0 k 32 (S20 k) (ending T Try.f20 an20 0 K) cd20_1000011 (sh sp20_1000011 ws rs) N X) ws rs
noncomputable def L20_2 (ws : List PV) (rs : List RowS) (N : St → Option R) (X : Nat → St → Option R) : Option R :=
  onShape [.val [] (.int .i64), .val [(0, 0)] (.slice (.int .u8)), .val [] (.int .i64), .val [] (.int .i64), .val [] (.int .i64)] [] (fun v => f20_2 k (fun y2_0 => N (sh jn20_2 [.val [] (.int .i64) y2_0, .val [(0, 0)] (.slice (.int .u8)) v.1.2.1, .val [] (.int .i64) v.1.2.2.1, .val [] (.int .i64) v.1.2.2.2.1] [])) v.1.2.1 v.1.2.2.1 v.1.2.2.2.1 k v.1.1 v.1.2.2.2.2.1) (inner T an20 (modesOf F) 0 k 32 (S20 k) (ending T Try.f20 an20 0 K) cd20_2 (sh sp20_2 ws rs) N X) ws rs
noncomputable def L20_0 (ws : List PV) (rs : List RowS) (N : St → Option R) (X : Nat → St → Option R) : Option R :=
  onShape [.val [] (.int .i64), .val [(0, 0)] (.slice (.int .u8)), .val [] (.int .i64), .val [] (.int .i64)] [] (fun v => f20_0 k (fun y0_0 => N (sh jn20_0 [.val [] (.int .i64) y0_0] [])) v.1.2.1 v.1.2.2.1 k v.1.1 v.1.2.2.2.1) (inner T an20 (modesOf F) 0 k 32 (S20 k) (ending T Try.f20 an20 0 K) cd20_0 (sh sp20_0 ws rs) N X) ws rs
noncomputable def L20 (id : Nat) (ws : List PV) (rs : List RowS) (N : St → Option R) (X : Nat → St → Option R) : Option R := bif id == 1000011 then L20_1000011 k K ws rs N X else bif id == 2 then L20_2 k K ws rs N X else bif id == 0 then L20_0 k K ws rs N X else none
theorem l20_1000011 (ws : List PV) (rs : List RowS) (N : St → Option R) (X : Nat → St → Option R) : L20 k K 1000011 ws rs N X = inner T an20 (modesOf F) 0 k 32 (S20 k) (ending T Try.f20 an20 0 K) cd20_1000011 (sh sp20_1000011 ws rs) N X := by
  show L20_1000011 k K ws rs N X = _
  unfold L20_1000011
  rw [f20_1000011_def]
  exact onShape_eq (a := [.val [] (.int .i64), .val [(0, 0)] (.slice (.int .u8)), .val [] (.int .i64), .val [] (.int .i64), .val [] (.int .i64), .val [] .bool]) (b := []) (G := fun ws rs => inner T an20 (modesOf F) 0 k 32 (S20 k) (ending T Try.f20 an20 0 K) cd20_1000011 (sh sp20_1000011 ws rs) N X) (fun x y => Eq.trans (by kernel_rfl) (innerS_eq T an20 (modesOf F) 0 k 32 (S20 k) (L20 k K) cd20_1000011 (l := []) (by kernel_rfl) trivial _ N X)) ws rs
theorem b20_2 (rec : St → Option R) (N : St → Option R) (X : Nat → St → Option R) (v2_1 : List Int) (v2_2 : Int) (v2_3 : Int) (v2_0 : Int) (v2_4 : Int) :
    execS T an20 (modesOf F) 0 k 32 (S20 k) (L20 k K) (ending T Try.f20 an20 0 K) bd20_2 (sh sp20_2 [.val [] (.int .i64) v2_0, .val [(0, 0)] (.slice (.int .u8)) v2_1, .val [] (.int .i64) v2_2, .val [] (.int .i64) v2_3, .val [] (.int .i64) v2_4] []) (fun st => atHead an20 0 bd20_2 st rec) (outX an20 0 2 N X) =
      f20_2b k (fun v2_0 v2_4 => rec (sh sp20_2 [.val [] (.int .i64) v2_0, .val [(0, 0)] (.slice (.int .u8)) v2_1, .val [] (.int .i64) v2_2, .val [] (.int .i64) v2_3, .val [] (.int .i64) v2_4] [])) (fun y2_0 => N (sh jn20_2 [.val [] (.int .i64) y2_0, .val [(0, 0)] (.slice (.int .u8)) v2_1, .val [] (.int .i64) v2_2, .val [] (.int .i64) v2_3] [])) v2_1 v2_2 v2_3 v2_0 v2_4 := by kernel_rfl
theorem i20_2 (N : St → Option R) (X : Nat → St → Option R) (v2_1 : List Int) (v2_2 : Int) (v2_3 : Int) (m : Nat) : ∀ (v2_0 : Int) (v2_4 : Int),
    iter (atHead an20 0 bd20_2) m (fun st N' => exec T an20 (modesOf F) 0 k 32 (S20 k) (ending T Try.f20 an20 0 K) bd20_2 st N' (outX an20 0 2 N X)) (sh sp20_2 [.val [] (.int .i64) v2_0, .val [(0, 0)] (.slice (.int .u8)) v2_1, .val [] (.int .i64) v2_2, .val [] (.int .i64) v2_3, .val [] (.int .i64) v2_4] []) = f20_2d k (fun y2_0 => N (sh jn20_2 [.val [] (.int .i64) y2_0, .val [(0, 0)] (.slice (.int .u8)) v2_1, .val [] (.int .i64) v2_2, .val [] (.int .i64) v2_3] [])) v2_1 v2_2 v2_3 m v2_0 v2_4 := by
  induction m with
  | zero => intros; rfl
  | succ m ih =>
    intro v2_0 v2_4
    simp only [iter]
    rw [← execS_eq T an20 (modesOf F) 0 k 32 (S20 k) (L20 k K) bd20_2 (cuts_of _ _ _ _ _ _ _ _ bd20_2 (l := [(1000011, sp20_1000011, cd20_1000011)]) (by kernel_rfl) ⟨l20_1000011 k K, trivial⟩)]
    refine (b20_2 k K _ N X v2_1 v2_2 v2_3 v2_0 v2_4).trans ?_
    simp only [f20_2d, ih]
theorem l20_2 (ws : List PV) (rs : List RowS) (N : St → Option R) (X : Nat → St → Option R) : L20 k K 2 ws rs N X = inner T an20 (modesOf F) 0 k 32 (S20 k) (ending T Try.f20 an20 0 K) cd20_2 (sh sp20_2 ws rs) N X := by
  show L20_2 k K ws rs N X = _
  unfold L20_2
  rw [f20_2_def]
  exact onShape_eq (a := [.val [] (.int .i64), .val [(0, 0)] (.slice (.int .u8)), .val [] (.int .i64), .val [] (.int .i64), .val [] (.int .i64)]) (b := []) (G := fun ws rs => inner T an20 (modesOf F) 0 k 32 (S20 k) (ending T Try.f20 an20 0 K) cd20_2 (sh sp20_2 ws rs) N X) (fun x y => Eq.trans (by kernel_rfl) (Eq.trans (i20_2 k K N X x.2.1 x.2.2.1 x.2.2.2.1 k x.1 x.2.2.2.2.1).symm (by kernel_rfl))) ws rs
theorem b20_0 (rec : St → Option R) (N : St → Option R) (X : Nat → St → Option R) (v0_1 : List Int) (v0_2 : Int) (v0_0 : Int) (v0_3 : Int) :
    execS T an20 (modesOf F) 0 k 32 (S20 k) (L20 k K) (ending T Try.f20 an20 0 K) bd20_0 (sh sp20_0 [.val [] (.int .i64) v0_0, .val [(0, 0)] (.slice (.int .u8)) v0_1, .val [] (.int .i64) v0_2, .val [] (.int .i64) v0_3] []) (fun st => atHead an20 0 bd20_0 st rec) (outX an20 0 0 N X) =
      f20_0b k (fun v0_0 v0_3 => rec (sh sp20_0 [.val [] (.int .i64) v0_0, .val [(0, 0)] (.slice (.int .u8)) v0_1, .val [] (.int .i64) v0_2, .val [] (.int .i64) v0_3] [])) (fun y0_0 => N (sh jn20_0 [.val [] (.int .i64) y0_0] [])) v0_1 v0_2 v0_0 v0_3 := by kernel_rfl
theorem i20_0 (N : St → Option R) (X : Nat → St → Option R) (v0_1 : List Int) (v0_2 : Int) (m : Nat) : ∀ (v0_0 : Int) (v0_3 : Int),
    iter (atHead an20 0 bd20_0) m (fun st N' => exec T an20 (modesOf F) 0 k 32 (S20 k) (ending T Try.f20 an20 0 K) bd20_0 st N' (outX an20 0 0 N X)) (sh sp20_0 [.val [] (.int .i64) v0_0, .val [(0, 0)] (.slice (.int .u8)) v0_1, .val [] (.int .i64) v0_2, .val [] (.int .i64) v0_3] []) = f20_0d k (fun y0_0 => N (sh jn20_0 [.val [] (.int .i64) y0_0] [])) v0_1 v0_2 m v0_0 v0_3 := by
  induction m with
  | zero => intros; rfl
  | succ m ih =>
    intro v0_0 v0_3
    simp only [iter]
    rw [← execS_eq T an20 (modesOf F) 0 k 32 (S20 k) (L20 k K) bd20_0 (cuts_of _ _ _ _ _ _ _ _ bd20_0 (l := [(2, sp20_2, cd20_2)]) (by kernel_rfl) ⟨l20_2 k K, trivial⟩)]
    refine (b20_0 k K _ N X v0_1 v0_2 v0_0 v0_3).trans ?_
    simp only [f20_0d, ih]
theorem l20_0 (ws : List PV) (rs : List RowS) (N : St → Option R) (X : Nat → St → Option R) : L20 k K 0 ws rs N X = inner T an20 (modesOf F) 0 k 32 (S20 k) (ending T Try.f20 an20 0 K) cd20_0 (sh sp20_0 ws rs) N X := by
  show L20_0 k K ws rs N X = _
  unfold L20_0
  rw [f20_0_def]
  exact onShape_eq (a := [.val [] (.int .i64), .val [(0, 0)] (.slice (.int .u8)), .val [] (.int .i64), .val [] (.int .i64)]) (b := []) (G := fun ws rs => inner T an20 (modesOf F) 0 k 32 (S20 k) (ending T Try.f20 an20 0 K) cd20_0 (sh sp20_0 ws rs) N X) (fun x y => Eq.trans (by kernel_rfl) (Eq.trans (i20_0 k K N X x.2.1 x.2.2.1 k x.1 x.2.2.2.1).symm (by kernel_rfl))) ws rs
end
theorem e20 (k : Nat) (a0 : List Int) (K : List PV → List RowS → Option R) : callC T F k 20 [.val [(0, 0)] (.slice (.int .u8)) a0] [] K = f20 k a0 (fun z0 => K [.val [] (.int .i64) z0] []) := by
  rw [f20_def]
  cases k with
  | zero => rfl
  | succ k =>
    refine Eq.trans (show _ = exec T an20 (modesOf F) 0 k 32 (callC T F k) (ending T Try.f20 an20 0 K) (bodyOf Try.f20) ⟨argEnv 0 [.val [(0, 0)] (.slice (.int .u8)) a0] (fun _ => none), rowsOf []⟩ (ending T Try.f20 an20 0 K) (fun _ _ => none) from by kernel_rfl) ?_
    rw [← S20_eq k, ← execS_eq T an20 (modesOf F) 0 k 32 (S20 k) (L20 k K) (bodyOf Try.f20) (cuts_of _ _ _ _ _ _ _ _ (bodyOf Try.f20) (l := [(0, sp20_0, cd20_0)]) (by kernel_rfl) ⟨l20_0 k K, trivial⟩)]
    kernel_rfl
noncomputable def s20 (k : Nat) (a : List PV) (r : List RowS) (K : List PV → List RowS → Option R) : Option R :=
  onShape [.val [(0, 0)] (.slice (.int .u8))] [] (fun v => f20 k v.1.1 (fun z0 => K [.val [] (.int .i64) z0] [])) (callC T F k 20 a r K) a r
theorem s20_eq (k : Nat) (a : List PV) (r : List RowS) (K : List PV → List RowS → Option R) : s20 k a r K = callC T F k 20 a r K := by
  unfold s20
  exact onShape_eq (a := [.val [(0, 0)] (.slice (.int .u8))]) (b := []) (G := fun a r => callC T F k 20 a r K) (fun x y => Eq.trans (by kernel_rfl) (Eq.trans (e20 k x.1 K).symm (by kernel_rfl))) a r
end
section
variable {R : Type}
noncomputable def S68 (k g : Nat) (a : List PV) (r : List RowS) (K : List PV → List RowS → Option R) : Option R := callC T F k g a r K
theorem S68_eq (k : Nat) : S68 (R := R) k = callC T F k := by
  funext g a r K
  exact rfl
theorem e68 (k : Nat) (a0 : List Int) (K : List PV → List RowS → Option R) : callC T F k 68 [.val [(0, 0)] (.slice (.int .u8)) a0] [] K = f68 k a0 (fun z0 => K [.val [] (.int .i64) z0] []) := by
  rw [f68_def]
  cases k with
  | zero => rfl
  | succ k =>
    refine Eq.trans (show _ = exec T an68 (modesOf F) 0 k 13 (callC T F k) (ending T Try.f68 an68 0 K) (bodyOf Try.f68) ⟨argEnv 0 [.val [(0, 0)] (.slice (.int .u8)) a0] (fun _ => none), rowsOf []⟩ (ending T Try.f68 an68 0 K) (fun _ _ => none) from by kernel_rfl) ?_
    rw [← S68_eq k, ← execS_eq T an68 (modesOf F) 0 k 13 (S68 k) (fun _ _ _ _ _ => none) (bodyOf Try.f68) (cuts_of _ _ _ _ _ _ _ _ (bodyOf Try.f68) (l := []) (by kernel_rfl) trivial)]
    kernel_rfl
noncomputable def s68 (k : Nat) (a : List PV) (r : List RowS) (K : List PV → List RowS → Option R) : Option R :=
  onShape [.val [(0, 0)] (.slice (.int .u8))] [] (fun v => f68 k v.1.1 (fun z0 => K [.val [] (.int .i64) z0] [])) (callC T F k 68 a r K) a r
theorem s68_eq (k : Nat) (a : List PV) (r : List RowS) (K : List PV → List RowS → Option R) : s68 k a r K = callC T F k 68 a r K := by
  unfold s68
  exact onShape_eq (a := [.val [(0, 0)] (.slice (.int .u8))]) (b := []) (G := fun a r => callC T F k 68 a r K) (fun x y => Eq.trans (by kernel_rfl) (Eq.trans (e68 k x.1 K).symm (by kernel_rfl))) a r
end
section
variable {R : Type}
noncomputable def S77 (k g : Nat) (a : List PV) (r : List RowS) (K : List PV → List RowS → Option R) : Option R := bif g == 69 then s69 k a r K else callC T F k g a r K
theorem S77_eq (k : Nat) : S77 (R := R) k = callC T F k := by
  funext g a r K
  exact pick_eq (fun e => by subst e; exact s69_eq k a r K) (rfl)
theorem e77 (k : Nat) (a0 : Int) (a1 : Int) (a2 : Int) (K : List PV → List RowS → Option R) : callC T F k 77 [.val [] (.int .i64) a0, .val [] (.int .i64) a1, .val [] (.int .i64) a2] [] K = f77 k a0 a1 a2 (fun z0 => K [.val [] (.int .i64) z0] []) := by
  rw [f77_def]
  cases k with
  | zero => rfl
  | succ k =>
    refine Eq.trans (show _ = exec T an77 (modesOf F) 0 k 20 (callC T F k) (ending T Try.f77 an77 0 K) (bodyOf Try.f77) ⟨argEnv 0 [.val [] (.int .i64) a0, .val [] (.int .i64) a1, .val [] (.int .i64) a2] (fun _ => none), rowsOf []⟩ (ending T Try.f77 an77 0 K) (fun _ _ => none) from by kernel_rfl) ?_
    rw [← S77_eq k, ← execS_eq T an77 (modesOf F) 0 k 20 (S77 k) (fun _ _ _ _ _ => none) (bodyOf Try.f77) (cuts_of _ _ _ _ _ _ _ _ (bodyOf Try.f77) (l := []) (by kernel_rfl) trivial)]
    kernel_rfl
noncomputable def s77 (k : Nat) (a : List PV) (r : List RowS) (K : List PV → List RowS → Option R) : Option R :=
  onShape [.val [] (.int .i64), .val [] (.int .i64), .val [] (.int .i64)] [] (fun v => f77 k v.1.1 v.1.2.1 v.1.2.2.1 (fun z0 => K [.val [] (.int .i64) z0] [])) (callC T F k 77 a r K) a r
theorem s77_eq (k : Nat) (a : List PV) (r : List RowS) (K : List PV → List RowS → Option R) : s77 k a r K = callC T F k 77 a r K := by
  unfold s77
  exact onShape_eq (a := [.val [] (.int .i64), .val [] (.int .i64), .val [] (.int .i64)]) (b := []) (G := fun a r => callC T F k 77 a r K) (fun x y => Eq.trans (by kernel_rfl) (Eq.trans (e77 k x.1 x.2.1 x.2.2.1 K).symm (by kernel_rfl))) a r
end
section
variable {R : Type}
noncomputable def S36 (k g : Nat) (a : List PV) (r : List RowS) (K : List PV → List RowS → Option R) : Option R := bif g == 69 then s69 k a r K else bif g == 76 then s76 k a r K else bif g == 77 then s77 k a r K else callC T F k g a r K
theorem S36_eq (k : Nat) : S36 (R := R) k = callC T F k := by
  funext g a r K
  exact pick_eq (fun e => by subst e; exact s69_eq k a r K) (pick_eq (fun e => by subst e; exact s76_eq k a r K) (pick_eq (fun e => by subst e; exact s77_eq k a r K) (rfl)))
theorem e36 (k : Nat) (a0 : Int) (a1 : Int) (a2 : Int) (a3 : Int) (a4 : List Int) (a5 : Int) (K : List PV → List RowS → Option R) : callC T F k 36 [.agg [.val [] (.int .i64) a0, .val [] (.int .i64) a1, .val [] (.int .i64) a2, .val [] (.int .i64) a3, .val [(0, 0)] (.slice (.int .u8)) a4], .val [] (.int .i64) a5] [] K = f36 k a0 a1 a2 a3 a4 a5 (fun z0 => K [.val [] (.int .i64) z0] []) := by
  rw [f36_def]
  cases k with
  | zero => rfl
  | succ k =>
    refine Eq.trans (show _ = exec T an36 (modesOf F) 0 k 41 (callC T F k) (ending T Try.f36 an36 0 K) (bodyOf Try.f36) ⟨argEnv 0 [.agg [.val [] (.int .i64) a0, .val [] (.int .i64) a1, .val [] (.int .i64) a2, .val [] (.int .i64) a3, .val [(0, 0)] (.slice (.int .u8)) a4], .val [] (.int .i64) a5] (fun _ => none), rowsOf []⟩ (ending T Try.f36 an36 0 K) (fun _ _ => none) from by kernel_rfl) ?_
    rw [← S36_eq k, ← execS_eq T an36 (modesOf F) 0 k 41 (S36 k) (fun _ _ _ _ _ => none) (bodyOf Try.f36) (cuts_of _ _ _ _ _ _ _ _ (bodyOf Try.f36) (l := []) (by kernel_rfl) trivial)]
    kernel_rfl
noncomputable def s36 (k : Nat) (a : List PV) (r : List RowS) (K : List PV → List RowS → Option R) : Option R :=
  onShape [.agg [.val [] (.int .i64), .val [] (.int .i64), .val [] (.int .i64), .val [] (.int .i64), .val [(0, 0)] (.slice (.int .u8))], .val [] (.int .i64)] [] (fun v => f36 k v.1.1.1 v.1.1.2.1 v.1.1.2.2.1 v.1.1.2.2.2.1 v.1.1.2.2.2.2.1 v.1.2.1 (fun z0 => K [.val [] (.int .i64) z0] [])) (callC T F k 36 a r K) a r
theorem s36_eq (k : Nat) (a : List PV) (r : List RowS) (K : List PV → List RowS → Option R) : s36 k a r K = callC T F k 36 a r K := by
  unfold s36
  exact onShape_eq (a := [.agg [.val [] (.int .i64), .val [] (.int .i64), .val [] (.int .i64), .val [] (.int .i64), .val [(0, 0)] (.slice (.int .u8))], .val [] (.int .i64)]) (b := []) (G := fun a r => callC T F k 36 a r K) (fun x y => Eq.trans (by kernel_rfl) (Eq.trans (e36 k x.1.1 x.1.2.1 x.1.2.2.1 x.1.2.2.2.1 x.1.2.2.2.2.1 x.2.1 K).symm (by kernel_rfl))) a r
end
section
variable {R : Type}
noncomputable def S38 (k g : Nat) (a : List PV) (r : List RowS) (K : List PV → List RowS → Option R) : Option R := bif g == 20 then s20 k a r K else bif g == 36 then s36 k a r K else bif g == 41 then s41 k a r K else bif g == 68 then s68 k a r K else bif g == 76 then s76 k a r K else callC T F k g a r K
theorem S38_eq (k : Nat) : S38 (R := R) k = callC T F k := by
  funext g a r K
  exact pick_eq (fun e => by subst e; exact s20_eq k a r K) (pick_eq (fun e => by subst e; exact s36_eq k a r K) (pick_eq (fun e => by subst e; exact s41_eq k a r K) (pick_eq (fun e => by subst e; exact s68_eq k a r K) (pick_eq (fun e => by subst e; exact s76_eq k a r K) (rfl)))))
theorem e38 (k : Nat) (a0 : List Int) (a1 : Int) (K : List PV → List RowS → Option R) : callC T F k 38 [.val [(0, 0)] (.slice (.int .u8)) a0, .val [] (.int .i64) a1] [] K = f38 k a0 a1 (fun z0 z1 z2 z3 z4 z5 => K [.agg [.val [] (.int .i64) z0, .val [] (.int .i64) z1, .val [] (.int .i64) z2, .val [] (.int .i64) z3, .rw 1], .val [] (.int .i64) z4] [⟨0, .arr [] (.int .u8) z5⟩]) := by
  rw [f38_def]
  cases k with
  | zero => rfl
  | succ k =>
    refine Eq.trans (show _ = exec T an38 (modesOf F) 0 k 59 (callC T F k) (ending T Try.f38 an38 0 K) (bodyOf Try.f38) ⟨argEnv 0 [.val [(0, 0)] (.slice (.int .u8)) a0, .val [] (.int .i64) a1] (fun _ => none), rowsOf []⟩ (ending T Try.f38 an38 0 K) (fun _ _ => none) from by kernel_rfl) ?_
    rw [← S38_eq k, ← execS_eq T an38 (modesOf F) 0 k 59 (S38 k) (fun _ _ _ _ _ => none) (bodyOf Try.f38) (cuts_of _ _ _ _ _ _ _ _ (bodyOf Try.f38) (l := []) (by kernel_rfl) trivial)]
    kernel_rfl
noncomputable def s38 (k : Nat) (a : List PV) (r : List RowS) (K : List PV → List RowS → Option R) : Option R :=
  onShape [.val [(0, 0)] (.slice (.int .u8)), .val [] (.int .i64)] [] (fun v => f38 k v.1.1 v.1.2.1 (fun z0 z1 z2 z3 z4 z5 => K [.agg [.val [] (.int .i64) z0, .val [] (.int .i64) z1, .val [] (.int .i64) z2, .val [] (.int .i64) z3, .rw 1], .val [] (.int .i64) z4] [⟨0, .arr [] (.int .u8) z5⟩])) (callC T F k 38 a r K) a r
theorem s38_eq (k : Nat) (a : List PV) (r : List RowS) (K : List PV → List RowS → Option R) : s38 k a r K = callC T F k 38 a r K := by
  unfold s38
  exact onShape_eq (a := [.val [(0, 0)] (.slice (.int .u8)), .val [] (.int .i64)]) (b := []) (G := fun a r => callC T F k 38 a r K) (fun x y => Eq.trans (by kernel_rfl) (Eq.trans (e38 k x.1 x.2.1 K).symm (by kernel_rfl))) a r
end
section
variable {R : Type}
noncomputable def S82 (k g : Nat) (a : List PV) (r : List RowS) (K : List PV → List RowS → Option R) : Option R := bif g == 38 then s38 k a r K else callC T F k g a r K
theorem S82_eq (k : Nat) : S82 (R := R) k = callC T F k := by
  funext g a r K
  exact pick_eq (fun e => by subst e; exact s38_eq k a r K) (rfl)
theorem e82 (k : Nat) (a0 : List Int) (a1 : Int) (a2 : Int) (K : List PV → List RowS → Option R) : callC T F k 82 [.val [(0, 0)] (.slice (.int .u8)) a0, .val [] (.int .i64) a1, .val [] (.int .i64) a2] [] K = f82 k a0 a1 a2 (fun z0 z1 z2 z3 z4 z5 => K [.agg [.val [] (.int .i64) z0, .val [] (.int .i64) z1, .val [] (.int .i64) z2, .val [] (.int .i64) z3, .rw 1], .val [] .bool z4] [⟨0, .arr [] (.int .u8) z5⟩]) := by
  rw [f82_def]
  cases k with
  | zero => rfl
  | succ k =>
    refine Eq.trans (show _ = exec T an82 (modesOf F) 0 k 43 (callC T F k) (ending T Try.f82 an82 0 K) (bodyOf Try.f82) ⟨argEnv 0 [.val [(0, 0)] (.slice (.int .u8)) a0, .val [] (.int .i64) a1, .val [] (.int .i64) a2] (fun _ => none), rowsOf []⟩ (ending T Try.f82 an82 0 K) (fun _ _ => none) from by kernel_rfl) ?_
    rw [← S82_eq k, ← execS_eq T an82 (modesOf F) 0 k 43 (S82 k) (fun _ _ _ _ _ => none) (bodyOf Try.f82) (cuts_of _ _ _ _ _ _ _ _ (bodyOf Try.f82) (l := []) (by kernel_rfl) trivial)]
    kernel_rfl
noncomputable def s82 (k : Nat) (a : List PV) (r : List RowS) (K : List PV → List RowS → Option R) : Option R :=
  onShape [.val [(0, 0)] (.slice (.int .u8)), .val [] (.int .i64), .val [] (.int .i64)] [] (fun v => f82 k v.1.1 v.1.2.1 v.1.2.2.1 (fun z0 z1 z2 z3 z4 z5 => K [.agg [.val [] (.int .i64) z0, .val [] (.int .i64) z1, .val [] (.int .i64) z2, .val [] (.int .i64) z3, .rw 1], .val [] .bool z4] [⟨0, .arr [] (.int .u8) z5⟩])) (callC T F k 82 a r K) a r
theorem s82_eq (k : Nat) (a : List PV) (r : List RowS) (K : List PV → List RowS → Option R) : s82 k a r K = callC T F k 82 a r K := by
  unfold s82
  exact onShape_eq (a := [.val [(0, 0)] (.slice (.int .u8)), .val [] (.int .i64), .val [] (.int .i64)]) (b := []) (G := fun a r => callC T F k 82 a r K) (fun x y => Eq.trans (by kernel_rfl) (Eq.trans (e82 k x.1 x.2.1 x.2.2.1 K).symm (by kernel_rfl))) a r
end
section
variable {R : Type}
noncomputable def S44 (k g : Nat) (a : List PV) (r : List RowS) (K : List PV → List RowS → Option R) : Option R := bif g == 40 then s40 k a r K else bif g == 41 then s41 k a r K else bif g == 76 then s76 k a r K else bif g == 81 then s81 k a r K else bif g == 82 then s82 k a r K else callC T F k g a r K
theorem S44_eq (k : Nat) : S44 (R := R) k = callC T F k := by
  funext g a r K
  exact pick_eq (fun e => by subst e; exact s40_eq k a r K) (pick_eq (fun e => by subst e; exact s41_eq k a r K) (pick_eq (fun e => by subst e; exact s76_eq k a r K) (pick_eq (fun e => by subst e; exact s81_eq k a r K) (pick_eq (fun e => by subst e; exact s82_eq k a r K) (rfl)))))
section
variable {R : Type} (k : Nat) (K : List PV → List RowS → Option R)
noncomputable def L44_1 (ws : List PV) (rs : List RowS) (N : St → Option R) (X : Nat → St → Option R) : Option R :=
  onShape [.val [] (.int .i64), .rw 1, .rw 2, .val [] (.int .i64)] [.arr [] (.int .u8), .arr [] (.prod (.int .i64) (.prod (.int .i64) (.prod (.int .i64) (.prod (.int .i64) (.prod (.slice (.int .u8)) .unit)))))] (fun v => f44_1 k (fun y1_1 y1_3 => N (sh jn44_1 [.val [] (.int .i64) v.1.1, .rw 1, .rw 2, .val [] (.int .i64) y1_1] [⟨0, .arr [] (.int .u8) v.2.1⟩, ⟨0, .arr [] (.prod (.int .i64) (.prod (.int .i64) (.prod (.int .i64) (.prod (.int .i64) (.prod (.slice (.int .u8)) .unit))))) y1_3⟩])) v.1.1 v.1.2.2.2.1 v.2.1 v.2.2.1) (inner T an44 (modesOf F) 0 k 71 (S44 k) (ending T Try.f44 an44 0 K) cd44_1 (sh sp44_1 ws rs) N X) ws rs
noncomputable def L44_0 (ws : List PV) (rs : List RowS) (N : St → Option R) (X : Nat → St → Option R) : Option R :=
  onShape [.val [] (.int .i64), .rw 1, .rw 2, .val [] (.int .i64)] [.arr [] (.int .u8), .arr [] (.prod (.int .i64) (.prod (.int .i64) (.prod (.int .i64) (.prod (.int .i64) (.prod (.slice (.int .u8)) .unit)))))] (fun v => f44_0 k (fun y0_0 y0_2 => N (sh jn44_0 [.rw 1, .rw 2, .val [] (.int .i64) y0_0] [⟨0, .arr [] (.int .u8) v.2.1⟩, ⟨0, .arr [] (.prod (.int .i64) (.prod (.int .i64) (.prod (.int .i64) (.prod (.int .i64) (.prod (.slice (.int .u8)) .unit))))) y0_2⟩])) v.1.1 v.2.1 k v.1.2.2.2.1 v.2.2.1) (inner T an44 (modesOf F) 0 k 71 (S44 k) (ending T Try.f44 an44 0 K) cd44_0 (sh sp44_0 ws rs) N X) ws rs
noncomputable def L44 (id : Nat) (ws : List PV) (rs : List RowS) (N : St → Option R) (X : Nat → St → Option R) : Option R := bif id == 1 then L44_1 k K ws rs N X else bif id == 0 then L44_0 k K ws rs N X else none
theorem l44_1 (ws : List PV) (rs : List RowS) (N : St → Option R) (X : Nat → St → Option R) : L44 k K 1 ws rs N X = inner T an44 (modesOf F) 0 k 71 (S44 k) (ending T Try.f44 an44 0 K) cd44_1 (sh sp44_1 ws rs) N X := by
  show L44_1 k K ws rs N X = _
  unfold L44_1
  rw [f44_1_def]
  exact onShape_eq (a := [.val [] (.int .i64), .rw 1, .rw 2, .val [] (.int .i64)]) (b := [.arr [] (.int .u8), .arr [] (.prod (.int .i64) (.prod (.int .i64) (.prod (.int .i64) (.prod (.int .i64) (.prod (.slice (.int .u8)) .unit)))))]) (G := fun ws rs => inner T an44 (modesOf F) 0 k 71 (S44 k) (ending T Try.f44 an44 0 K) cd44_1 (sh sp44_1 ws rs) N X) (fun x y => Eq.trans (by kernel_rfl) (innerS_eq T an44 (modesOf F) 0 k 71 (S44 k) (L44 k K) cd44_1 (l := []) (by kernel_rfl) trivial _ N X)) ws rs
theorem b44_0 (rec : St → Option R) (N : St → Option R) (X : Nat → St → Option R) (v0_0 : Int) (v0_2 : List Int) (v0_1 : Int) (v0_3 : List (Int × (Int × (Int × (Int × (List Int × Unit)))))) :
    execS T an44 (modesOf F) 0 k 71 (S44 k) (L44 k K) (ending T Try.f44 an44 0 K) bd44_0 (sh sp44_0 [.val [] (.int .i64) v0_0, .rw 1, .rw 2, .val [] (.int .i64) v0_1] [⟨0, .arr [] (.int .u8) v0_2⟩, ⟨0, .arr [] (.prod (.int .i64) (.prod (.int .i64) (.prod (.int .i64) (.prod (.int .i64) (.prod (.slice (.int .u8)) .unit))))) v0_3⟩]) (fun st => atHead an44 0 bd44_0 st rec) (outX an44 0 0 N X) =
      f44_0b k (fun v0_1 v0_3 => rec (sh sp44_0 [.val [] (.int .i64) v0_0, .rw 1, .rw 2, .val [] (.int .i64) v0_1] [⟨0, .arr [] (.int .u8) v0_2⟩, ⟨0, .arr [] (.prod (.int .i64) (.prod (.int .i64) (.prod (.int .i64) (.prod (.int .i64) (.prod (.slice (.int .u8)) .unit))))) v0_3⟩])) (fun y0_0 y0_2 => N (sh jn44_0 [.rw 1, .rw 2, .val [] (.int .i64) y0_0] [⟨0, .arr [] (.int .u8) v0_2⟩, ⟨0, .arr [] (.prod (.int .i64) (.prod (.int .i64) (.prod (.int .i64) (.prod (.int .i64) (.prod (.slice (.int .u8)) .unit))))) y0_2⟩])) v0_0 v0_2 v0_1 v0_3 := by kernel_rfl
theorem i44_0 (N : St → Option R) (X : Nat → St → Option R) (v0_0 : Int) (v0_2 : List Int) (m : Nat) : ∀ (v0_1 : Int) (v0_3 : List (Int × (Int × (Int × (Int × (List Int × Unit)))))),
    iter (atHead an44 0 bd44_0) m (fun st N' => exec T an44 (modesOf F) 0 k 71 (S44 k) (ending T Try.f44 an44 0 K) bd44_0 st N' (outX an44 0 0 N X)) (sh sp44_0 [.val [] (.int .i64) v0_0, .rw 1, .rw 2, .val [] (.int .i64) v0_1] [⟨0, .arr [] (.int .u8) v0_2⟩, ⟨0, .arr [] (.prod (.int .i64) (.prod (.int .i64) (.prod (.int .i64) (.prod (.int .i64) (.prod (.slice (.int .u8)) .unit))))) v0_3⟩]) = f44_0d k (fun y0_0 y0_2 => N (sh jn44_0 [.rw 1, .rw 2, .val [] (.int .i64) y0_0] [⟨0, .arr [] (.int .u8) v0_2⟩, ⟨0, .arr [] (.prod (.int .i64) (.prod (.int .i64) (.prod (.int .i64) (.prod (.int .i64) (.prod (.slice (.int .u8)) .unit))))) y0_2⟩])) v0_0 v0_2 m v0_1 v0_3 := by
  induction m with
  | zero => intros; rfl
  | succ m ih =>
    intro v0_1 v0_3
    simp only [iter]
    rw [← execS_eq T an44 (modesOf F) 0 k 71 (S44 k) (L44 k K) bd44_0 (cuts_of _ _ _ _ _ _ _ _ bd44_0 (l := [(1, sp44_1, cd44_1)]) (by kernel_rfl) ⟨l44_1 k K, trivial⟩)]
    refine (b44_0 k K _ N X v0_0 v0_2 v0_1 v0_3).trans ?_
    simp only [f44_0d, ih]
theorem l44_0 (ws : List PV) (rs : List RowS) (N : St → Option R) (X : Nat → St → Option R) : L44 k K 0 ws rs N X = inner T an44 (modesOf F) 0 k 71 (S44 k) (ending T Try.f44 an44 0 K) cd44_0 (sh sp44_0 ws rs) N X := by
  show L44_0 k K ws rs N X = _
  unfold L44_0
  rw [f44_0_def]
  exact onShape_eq (a := [.val [] (.int .i64), .rw 1, .rw 2, .val [] (.int .i64)]) (b := [.arr [] (.int .u8), .arr [] (.prod (.int .i64) (.prod (.int .i64) (.prod (.int .i64) (.prod (.int .i64) (.prod (.slice (.int .u8)) .unit)))))]) (G := fun ws rs => inner T an44 (modesOf F) 0 k 71 (S44 k) (ending T Try.f44 an44 0 K) cd44_0 (sh sp44_0 ws rs) N X) (fun x y => Eq.trans (by kernel_rfl) (Eq.trans (i44_0 k K N X x.1 y.1 k x.2.2.2.1 y.2.1).symm (by kernel_rfl))) ws rs
end
theorem e44 (k : Nat) (a0 : List Int) (a1 : List Int) (a2 : Int) (K : List PV → List RowS → Option R) : callC T F k 44 [.val [(0, 0)] (.slice (.int .u8)) a0, .val [(0, 0)] (.slice (.int .u8)) a1, .val [] (.int .i64) a2] [] K = f44 k a0 a1 a2 (fun z0 z1 z2 => K [.rw 1, .rw 2, .val [] (.int .i64) z0] [⟨0, .arr [] (.prod (.int .i64) (.prod (.int .i64) (.prod (.int .i64) (.prod (.int .i64) (.prod (.slice (.int .u8)) .unit))))) z1⟩, ⟨0, .arr [] (.int .u8) z2⟩]) := by
  rw [f44_def]
  cases k with
  | zero => rfl
  | succ k =>
    refine Eq.trans (show _ = exec T an44 (modesOf F) 0 k 71 (callC T F k) (ending T Try.f44 an44 0 K) (bodyOf Try.f44) ⟨argEnv 0 [.val [(0, 0)] (.slice (.int .u8)) a0, .val [(0, 0)] (.slice (.int .u8)) a1, .val [] (.int .i64) a2] (fun _ => none), rowsOf []⟩ (ending T Try.f44 an44 0 K) (fun _ _ => none) from by kernel_rfl) ?_
    rw [← S44_eq k, ← execS_eq T an44 (modesOf F) 0 k 71 (S44 k) (L44 k K) (bodyOf Try.f44) (cuts_of _ _ _ _ _ _ _ _ (bodyOf Try.f44) (l := [(0, sp44_0, cd44_0)]) (by kernel_rfl) ⟨l44_0 k K, trivial⟩)]
    kernel_rfl
noncomputable def s44 (k : Nat) (a : List PV) (r : List RowS) (K : List PV → List RowS → Option R) : Option R :=
  onShape [.val [(0, 0)] (.slice (.int .u8)), .val [(0, 0)] (.slice (.int .u8)), .val [] (.int .i64)] [] (fun v => f44 k v.1.1 v.1.2.1 v.1.2.2.1 (fun z0 z1 z2 => K [.rw 1, .rw 2, .val [] (.int .i64) z0] [⟨0, .arr [] (.prod (.int .i64) (.prod (.int .i64) (.prod (.int .i64) (.prod (.int .i64) (.prod (.slice (.int .u8)) .unit))))) z1⟩, ⟨0, .arr [] (.int .u8) z2⟩])) (callC T F k 44 a r K) a r
theorem s44_eq (k : Nat) (a : List PV) (r : List RowS) (K : List PV → List RowS → Option R) : s44 k a r K = callC T F k 44 a r K := by
  unfold s44
  exact onShape_eq (a := [.val [(0, 0)] (.slice (.int .u8)), .val [(0, 0)] (.slice (.int .u8)), .val [] (.int .i64)]) (b := []) (G := fun a r => callC T F k 44 a r K) (fun x y => Eq.trans (by kernel_rfl) (Eq.trans (e44 k x.1 x.2.1 x.2.2.1 K).symm (by kernel_rfl))) a r
end
section
variable {R : Type}
noncomputable def S39 (k g : Nat) (a : List PV) (r : List RowS) (K : List PV → List RowS → Option R) : Option R := bif g == 32 then s32 k a r K else callC T F k g a r K
theorem S39_eq (k : Nat) : S39 (R := R) k = callC T F k := by
  funext g a r K
  exact pick_eq (fun e => by subst e; exact s32_eq k a r K) (rfl)
theorem e39 (k : Nat) (a0 : Int) (a1 : Int) (a2 : Int) (a3 : Int) (a4 : List Int) (a5 : Int) (a6 : Int) (a7 : Int) (a8 : Int) (a9 : List Int) (K : List PV → List RowS → Option R) : callC T F k 39 [.agg [.val [] (.int .i64) a0, .val [] (.int .i64) a1, .val [] (.int .i64) a2, .val [] (.int .i64) a3, .val [(0, 0)] (.slice (.int .u8)) a4], .agg [.val [] (.int .i64) a5, .val [] (.int .i64) a6, .val [] (.int .i64) a7, .val [] (.int .i64) a8, .val [(0, 0)] (.slice (.int .u8)) a9]] [] K = f39 k a0 a1 a2 a3 a4 a5 a6 a7 a8 a9 (fun z0 => K [.val [] .bool z0] []) := by
  rw [f39_def]
  cases k with
  | zero => rfl
  | succ k =>
    refine Eq.trans (show _ = exec T an39 (modesOf F) 0 k 38 (callC T F k) (ending T Try.f39 an39 0 K) (bodyOf Try.f39) ⟨argEnv 0 [.agg [.val [] (.int .i64) a0, .val [] (.int .i64) a1, .val [] (.int .i64) a2, .val [] (.int .i64) a3, .val [(0, 0)] (.slice (.int .u8)) a4], .agg [.val [] (.int .i64) a5, .val [] (.int .i64) a6, .val [] (.int .i64) a7, .val [] (.int .i64) a8, .val [(0, 0)] (.slice (.int .u8)) a9]] (fun _ => none), rowsOf []⟩ (ending T Try.f39 an39 0 K) (fun _ _ => none) from by kernel_rfl) ?_
    rw [← S39_eq k, ← execS_eq T an39 (modesOf F) 0 k 38 (S39 k) (fun _ _ _ _ _ => none) (bodyOf Try.f39) (cuts_of _ _ _ _ _ _ _ _ (bodyOf Try.f39) (l := []) (by kernel_rfl) trivial)]
    kernel_rfl
noncomputable def s39 (k : Nat) (a : List PV) (r : List RowS) (K : List PV → List RowS → Option R) : Option R :=
  onShape [.agg [.val [] (.int .i64), .val [] (.int .i64), .val [] (.int .i64), .val [] (.int .i64), .val [(0, 0)] (.slice (.int .u8))], .agg [.val [] (.int .i64), .val [] (.int .i64), .val [] (.int .i64), .val [] (.int .i64), .val [(0, 0)] (.slice (.int .u8))]] [] (fun v => f39 k v.1.1.1 v.1.1.2.1 v.1.1.2.2.1 v.1.1.2.2.2.1 v.1.1.2.2.2.2.1 v.1.2.1.1 v.1.2.1.2.1 v.1.2.1.2.2.1 v.1.2.1.2.2.2.1 v.1.2.1.2.2.2.2.1 (fun z0 => K [.val [] .bool z0] [])) (callC T F k 39 a r K) a r
theorem s39_eq (k : Nat) (a : List PV) (r : List RowS) (K : List PV → List RowS → Option R) : s39 k a r K = callC T F k 39 a r K := by
  unfold s39
  exact onShape_eq (a := [.agg [.val [] (.int .i64), .val [] (.int .i64), .val [] (.int .i64), .val [] (.int .i64), .val [(0, 0)] (.slice (.int .u8))], .agg [.val [] (.int .i64), .val [] (.int .i64), .val [] (.int .i64), .val [] (.int .i64), .val [(0, 0)] (.slice (.int .u8))]]) (b := []) (G := fun a r => callC T F k 39 a r K) (fun x y => Eq.trans (by kernel_rfl) (Eq.trans (e39 k x.1.1 x.1.2.1 x.1.2.2.1 x.1.2.2.2.1 x.1.2.2.2.2.1 x.2.1.1 x.2.1.2.1 x.2.1.2.2.1 x.2.1.2.2.2.1 x.2.1.2.2.2.2.1 K).symm (by kernel_rfl))) a r
end
end Go.Proofs.Ytahdmfboidjkoaa.PM
