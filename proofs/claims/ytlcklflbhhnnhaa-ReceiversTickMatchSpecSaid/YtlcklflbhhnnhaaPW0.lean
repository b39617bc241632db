/- The small machine's run is the typed form (printed by a program of this work). -/
import Derived.Test.YtlcklflbhhnnhaaPA0
set_option linter.unusedVariables false
set_option linter.unusedSimpArgs false
set_option maxRecDepth 100000
namespace Go.Proofs.Ytlcklflbhhnnhaa.PM
open Go
noncomputable def F : Nat → Option PFn := findN [(64, .code Try.f64 an64), (18, .code Try.f18 an18), (65, .code Try.f65 an65), (19, .code Try.f19 an19), (66, .code Try.f66 an66), (67, .code Try.f67 an67), (68, .code Try.f68 an68), (70, .code Try.f70 an70), (69, .code Try.f69 an69), (104, .code Try.f104 an104), (71, .code Try.f71 an71), (45, .code Try.f45 an45), (20, .code Try.f20 an20), (72, .code Try.f72 an72), (73, .code Try.f73 an73), (105, .code Try.f105 an105), (74, .code Try.f74 an74), (106, .code Try.f106 an106), (75, .code Try.f75 an75), (46, .code Try.f46 an46), (21, .code Try.f21 an21), (22, .code Try.f22 an22), (23, .code Try.f23 an23), (24, .code Try.f24 an24), (3, .code Try.f3 an3), (76, .code Try.f76 an76), (77, .ext [.lend (.int .u8)] (cloneSpec (.int .u8) 1)), (25, .code Try.f25 an25), (78, .code Try.f78 an78), (26, .code Try.f26 an26), (30, .code Try.f30 an30), (109, .ext [.lend (.prod (.int .i64) (.prod (.int .i64) .unit))] (cloneSpec (.prod (.int .i64) (.prod (.int .i64) .unit)) 16)), (80, .code Try.f80 an80), (107, .code Try.f107 an107), (128, .code Try.f128 an128), (108, .code Try.f108 an108), (79, .code Try.f79 an79), (27, .code Try.f27 an27), (31, .code Try.f31 an31), (110, .code Try.f110 an110), (129, .code Try.f129 an129), (118, .code Try.f118 an118), (130, .code Try.f130 an130), (111, .code Try.f111 an111), (81, .code Try.f81 an81), (28, .code Try.f28 an28), (51, .code Try.f51 an51), (40, .code Try.f40 an40), (29, .code Try.f29 an29), (33, .code Try.f33 an33), (32, .code Try.f32 an32), (4, .code Try.f4 an4), (87, .code Try.f87 an87), (94, .code Try.f94 an94), (95, .code Try.f95 an95), (56, .code Try.f56 an56), (83, .code Try.f83 an83), (132, .code Try.f132 an132), (114, .code Try.f114 an114), (131, .code Try.f131 an131), (112, .code Try.f112 an112), (82, .code Try.f82 an82), (34, .code Try.f34 an34), (96, .code Try.f96 an96), (97, .code Try.f97 an97), (88, .code Try.f88 an88), (113, .code Try.f113 an113), (98, .code Try.f98 an98), (57, .code Try.f57 an57), (84, .code Try.f84 an84), (85, .code Try.f85 an85), (35, .code Try.f35 an35), (36, .code Try.f36 an36), (37, .code Try.f37 an37), (38, .code Try.f38 an38), (5, .code Try.f5 an5)]
section
variable {R : Type}
noncomputable def S64 (k g : Nat) (a : List PV) (r : List RowS) (K : List PV → List RowS → Option R) : Option R := callC T F k g a r K
theorem S64_eq (k : Nat) : S64 (R := R) k = callC T F k := by
  funext g a r K
  exact rfl
section
variable {R : Type} (k : Nat) (K : List PV → List RowS → Option R)
noncomputable def L64_0 (ws : List PV) (rs : List RowS) (N : St → Option R) (X : Nat → St → Option R) : Option R :=
  onShape [.val [] (.int .i64), .val [(0, 0)] (.slice (.int .u8)), .val [] (.int .i64), .val [] (.int .i64)] [] (fun v => f64_0 k (fun y0_0 => N (sh jn64_0 [.val [] (.int .i64) y0_0] [])) v.1.2.1 v.1.2.2.1 k v.1.1 v.1.2.2.2.1) (inner T an64 (modesOf F) 0 k 25 (S64 k) (ending T Try.f64 an64 0 K) cd64_0 (sh sp64_0 ws rs) N X) ws rs
noncomputable def L64 (id : Nat) (ws : List PV) (rs : List RowS) (N : St → Option R) (X : Nat → St → Option R) : Option R := bif id == 0 then L64_0 k K ws rs N X else none
theorem b64_0 (rec : St → Option R) (N : St → Option R) (X : Nat → St → Option R) (v0_1 : List Int) (v0_2 : Int) (v0_0 : Int) (v0_3 : Int) :
    execS T an64 (modesOf F) 0 k 25 (S64 k) (L64 k K) (ending T Try.f64 an64 0 K) bd64_0 (sh sp64_0 [.val [] (.int .i64) v0_0, .val [(0, 0)] (.slice (.int .u8)) v0_1, .val [] (.int .i64) v0_2, .val [] (.int .i64) v0_3] []) (fun st => atHead an64 0 bd64_0 st rec) (outX an64 0 0 N X) =
      f64_0b k (fun v0_0 v0_3 => rec (sh sp64_0 [.val [] (.int .i64) v0_0, .val [(0, 0)] (.slice (.int .u8)) v0_1, .val [] (.int .i64) v0_2, .val [] (.int .i64) v0_3] [])) (fun y0_0 => N (sh jn64_0 [.val [] (.int .i64) y0_0] [])) v0_1 v0_2 v0_0 v0_3 := by kernel_rfl
theorem i64_0 (N : St → Option R) (X : Nat → St → Option R) (v0_1 : List Int) (v0_2 : Int) (m : Nat) : ∀ (v0_0 : Int) (v0_3 : Int),
    iter (atHead an64 0 bd64_0) m (fun st N' => exec T an64 (modesOf F) 0 k 25 (S64 k) (ending T Try.f64 an64 0 K) bd64_0 st N' (outX an64 0 0 N X)) (sh sp64_0 [.val [] (.int .i64) v0_0, .val [(0, 0)] (.slice (.int .u8)) v0_1, .val [] (.int .i64) v0_2, .val [] (.int .i64) v0_3] []) = f64_0d k (fun y0_0 => N (sh jn64_0 [.val [] (.int .i64) y0_0] [])) v0_1 v0_2 m v0_0 v0_3 := by
  induction m with
  | zero => intros; rfl
  | succ m ih =>
    intro v0_0 v0_3
    simp only [iter]
    rw [← execS_eq T an64 (modesOf F) 0 k 25 (S64 k) (L64 k K) bd64_0 (cuts_of _ _ _ _ _ _ _ _ bd64_0 (l := []) (by kernel_rfl) trivial)]
    refine (b64_0 k K _ N X v0_1 v0_2 v0_0 v0_3).trans ?_
    simp only [f64_0d, ih]
theorem l64_0 (ws : List PV) (rs : List RowS) (N : St → Option R) (X : Nat → St → Option R) : L64 k K 0 ws rs N X = inner T an64 (modesOf F) 0 k 25 (S64 k) (ending T Try.f64 an64 0 K) cd64_0 (sh sp64_0 ws rs) N X := by
  show L64_0 k K ws rs N X = _
  unfold L64_0
  rw [f64_0_def]
  exact onShape_eq (a := [.val [] (.int .i64), .val [(0, 0)] (.slice (.int .u8)), .val [] (.int .i64), .val [] (.int .i64)]) (b := []) (G := fun ws rs => inner T an64 (modesOf F) 0 k 25 (S64 k) (ending T Try.f64 an64 0 K) cd64_0 (sh sp64_0 ws rs) N X) (fun x y => Eq.trans (by kernel_rfl) (Eq.trans (i64_0 k K N X x.2.1 x.2.2.1 k x.1 x.2.2.2.1).symm (by kernel_rfl))) ws rs
end
theorem e64 (k : Nat) (a0 : List Int) (K : List PV → List RowS → Option R) : callC T F k 64 [.val [(0, 0)] (.slice (.int .u8)) a0] [] K = f64 k a0 (fun z0 => K [.val [] (.int .i64) z0] []) := by
  rw [f64_def]
  cases k with
  | zero => rfl
  | succ k =>
    refine Eq.trans (show _ = exec T an64 (modesOf F) 0 k 25 (callC T F k) (ending T Try.f64 an64 0 K) (bodyOf Try.f64) ⟨argEnv 0 [.val [(0, 0)] (.slice (.int .u8)) a0] (fun _ => none), rowsOf []⟩ (ending T Try.f64 an64 0 K) (fun _ _ => none) from by kernel_rfl) ?_
    rw [← S64_eq k, ← execS_eq T an64 (modesOf F) 0 k 25 (S64 k) (L64 k K) (bodyOf Try.f64) (cuts_of _ _ _ _ _ _ _ _ (bodyOf Try.f64) (l := [(0, sp64_0, cd64_0)]) (by kernel_rfl) ⟨l64_0 k K, trivial⟩)]
    kernel_rfl
noncomputable def s64 (k : Nat) (a : List PV) (r : List RowS) (K : List PV → List RowS → Option R) : Option R :=
  onShape [.val [(0, 0)] (.slice (.int .u8))] [] (fun v => f64 k v.1.1 (fun z0 => K [.val [] (.int .i64) z0] [])) (callC T F k 64 a r K) a r
theorem s64_eq (k : Nat) (a : List PV) (r : List RowS) (K : List PV → List RowS → Option R) : s64 k a r K = callC T F k 64 a r K := by
  unfold s64
  exact onShape_eq (a := [.val [(0, 0)] (.slice (.int .u8))]) (b := []) (G := fun a r => callC T F k 64 a r K) (fun x y => Eq.trans (by kernel_rfl) (Eq.trans (e64 k x.1 K).symm (by kernel_rfl))) a r
end
section
variable {R : Type}
noncomputable def S18 (k g : Nat) (a : List PV) (r : List RowS) (K : List PV → List RowS → Option R) : Option R := bif g == 64 then s64 k a r K else callC T F k g a r K
theorem S18_eq (k : Nat) : S18 (R := R) k = callC T F k := by
  funext g a r K
  exact pick_eq (fun e => by subst e; exact s64_eq k a r K) (rfl)
theorem e18 (k : Nat) (a0 : List Int) (K : List PV → List RowS → Option R) : callC T F k 18 [.val [(0, 0)] (.slice (.int .u8)) a0] [] K = f18 k a0 (fun z0 z1 => K [.val [] (.int .i64) z0, .val [] (.int .i64) z1] []) := by
  rw [f18_def]
  cases k with
  | zero => rfl
  | succ k =>
    refine Eq.trans (show _ = exec T an18 (modesOf F) 0 k 9 (callC T F k) (ending T Try.f18 an18 0 K) (bodyOf Try.f18) ⟨argEnv 0 [.val [(0, 0)] (.slice (.int .u8)) a0] (fun _ => none), rowsOf []⟩ (ending T Try.f18 an18 0 K) (fun _ _ => none) from by kernel_rfl) ?_
    rw [← S18_eq k, ← execS_eq T an18 (modesOf F) 0 k 9 (S18 k) (fun _ _ _ _ _ => none) (bodyOf Try.f18) (cuts_of _ _ _ _ _ _ _ _ (bodyOf Try.f18) (l := []) (by kernel_rfl) trivial)]
    kernel_rfl
noncomputable def s18 (k : Nat) (a : List PV) (r : List RowS) (K : List PV → List RowS → Option R) : Option R :=
  onShape [.val [(0, 0)] (.slice (.int .u8))] [] (fun v => f18 k v.1.1 (fun z0 z1 => K [.val [] (.int .i64) z0, .val [] (.int .i64) z1] [])) (callC T F k 18 a r K) a r
theorem s18_eq (k : Nat) (a : List PV) (r : List RowS) (K : List PV → List RowS → Option R) : s18 k a r K = callC T F k 18 a r K := by
  unfold s18
  exact onShape_eq (a := [.val [(0, 0)] (.slice (.int .u8))]) (b := []) (G := fun a r => callC T F k 18 a r K) (fun x y => Eq.trans (by kernel_rfl) (Eq.trans (e18 k x.1 K).symm (by kernel_rfl))) a r
end
section
variable {R : Type}
noncomputable def S65 (k g : Nat) (a : List PV) (r : List RowS) (K : List PV → List RowS → Option R) : Option R := callC T F k g a r K
theorem S65_eq (k : Nat) : S65 (R := R) k = callC T F k := by
  funext g a r K
  exact rfl
section
variable {R : Type} (k : Nat) (K : List PV → List RowS → Option R)
noncomputable def L65_0 (ws : List PV) (rs : List RowS) (N : St → Option R) (X : Nat → St → Option R) : Option R :=
  onShape [.val [(0, 0)] (.slice (.int .u8)), .val [] (.int .i64), .val [] (.int .i64)] [] (fun v => f65_0 k (fun y0_0 => N (sh jn65_0 [.val [] (.int .i64) y0_0] [])) v.1.1 k v.1.2.1 v.1.2.2.1) (inner T an65 (modesOf F) 0 k 26 (S65 k) (ending T Try.f65 an65 0 K) cd65_0 (sh sp65_0 ws rs) N X) ws rs
noncomputable def L65 (id : Nat) (ws : List PV) (rs : List RowS) (N : St → Option R) (X : Nat → St → Option R) : Option R := bif id == 0 then L65_0 k K ws rs N X else none
theorem b65_0 (rec : St → Option R) (N : St → Option R) (X : Nat → St → Option R) (v0_0 : List Int) (v0_1 : Int) (v0_2 : Int) :
    execS T an65 (modesOf F) 0 k 26 (S65 k) (L65 k K) (ending T Try.f65 an65 0 K) bd65_0 (sh sp65_0 [.val [(0, 0)] (.slice (.int .u8)) v0_0, .val [] (.int .i64) v0_1, .val [] (.int .i64) v0_2] []) (fun st => atHead an65 0 bd65_0 st rec) (outX an65 0 0 N X) =
      f65_0b k (fun v0_1 v0_2 => rec (sh sp65_0 [.val [(0, 0)] (.slice (.int .u8)) v0_0, .val [] (.int .i64) v0_1, .val [] (.int .i64) v0_2] [])) (fun y0_0 => N (sh jn65_0 [.val [] (.int .i64) y0_0] [])) v0_0 v0_1 v0_2 := by kernel_rfl
theorem i65_0 (N : St → Option R) (X : Nat → St → Option R) (v0_0 : List Int) (m : Nat) : ∀ (v0_1 : Int) (v0_2 : Int),
    iter (atHead an65 0 bd65_0) m (fun st N' => exec T an65 (modesOf F) 0 k 26 (S65 k) (ending T Try.f65 an65 0 K) bd65_0 st N' (outX an65 0 0 N X)) (sh sp65_0 [.val [(0, 0)] (.slice (.int .u8)) v0_0, .val [] (.int .i64) v0_1, .val [] (.int .i64) v0_2] []) = f65_0d k (fun y0_0 => N (sh jn65_0 [.val [] (.int .i64) y0_0] [])) v0_0 m v0_1 v0_2 := by
  induction m with
  | zero => intros; rfl
  | succ m ih =>
    intro v0_1 v0_2
    simp only [iter]
    rw [← execS_eq T an65 (modesOf F) 0 k 26 (S65 k) (L65 k K) bd65_0 (cuts_of _ _ _ _ _ _ _ _ bd65_0 (l := []) (by kernel_rfl) trivial)]
    refine (b65_0 k K _ N X v0_0 v0_1 v0_2).trans ?_
    simp only [f65_0d, ih]
theorem l65_0 (ws : List PV) (rs : List RowS) (N : St → Option R) (X : Nat → St → Option R) : L65 k K 0 ws rs N X = inner T an65 (modesOf F) 0 k 26 (S65 k) (ending T Try.f65 an65 0 K) cd65_0 (sh sp65_0 ws rs) N X := by
  show L65_0 k K ws rs N X = _
  unfold L65_0
  rw [f65_0_def]
  exact onShape_eq (a := [.val [(0, 0)] (.slice (.int .u8)), .val [] (.int .i64), .val [] (.int .i64)]) (b := []) (G := fun ws rs => inner T an65 (modesOf F) 0 k 26 (S65 k) (ending T Try.f65 an65 0 K) cd65_0 (sh sp65_0 ws rs) N X) (fun x y => Eq.trans (by kernel_rfl) (Eq.trans (i65_0 k K N X x.1 k x.2.1 x.2.2.1).symm (by kernel_rfl))) ws rs
end
theorem e65 (k : Nat) (a0 : List Int) (K : List PV → List RowS → Option R) : callC T F k 65 [.val [(0, 0)] (.slice (.int .u8)) a0] [] K = f65 k a0 (fun z0 => K [.val [] (.int .i64) z0] []) := by
  rw [f65_def]
  cases k with
  | zero => rfl
  | succ k =>
    refine Eq.trans (show _ = exec T an65 (modesOf F) 0 k 26 (callC T F k) (ending T Try.f65 an65 0 K) (bodyOf Try.f65) ⟨argEnv 0 [.val [(0, 0)] (.slice (.int .u8)) a0] (fun _ => none), rowsOf []⟩ (ending T Try.f65 an65 0 K) (fun _ _ => none) from by kernel_rfl) ?_
    rw [← S65_eq k, ← execS_eq T an65 (modesOf F) 0 k 26 (S65 k) (L65 k K) (bodyOf Try.f65) (cuts_of _ _ _ _ _ _ _ _ (bodyOf Try.f65) (l := [(0, sp65_0, cd65_0)]) (by kernel_rfl) ⟨l65_0 k K, trivial⟩)]
    kernel_rfl
noncomputable def s65 (k : Nat) (a : List PV) (r : List RowS) (K : List PV → List RowS → Option R) : Option R :=
  onShape [.val [(0, 0)] (.slice (.int .u8))] [] (fun v => f65 k v.1.1 (fun z0 => K [.val [] (.int .i64) z0] [])) (callC T F k 65 a r K) a r
theorem s65_eq (k : Nat) (a : List PV) (r : List RowS) (K : List PV → List RowS → Option R) : s65 k a r K = callC T F k 65 a r K := by
  unfold s65
  exact onShape_eq (a := [.val [(0, 0)] (.slice (.int .u8))]) (b := []) (G := fun a r => callC T F k 65 a r K) (fun x y => Eq.trans (by kernel_rfl) (Eq.trans (e65 k x.1 K).symm (by kernel_rfl))) a r
end
section
variable {R : Type}
noncomputable def S19 (k g : Nat) (a : List PV) (r : List RowS) (K : List PV → List RowS → Option R) : Option R := bif g == 65 then s65 k a r K else callC T F k g a r K
theorem S19_eq (k : Nat) : S19 (R := R) k = callC T F k := by
  funext g a r K
  exact pick_eq (fun e => by subst e; exact s65_eq k a r K) (rfl)
theorem e19 (k : Nat) (a0 : List Int) (K : List PV → List RowS → Option R) : callC T F k 19 [.val [(0, 0)] (.slice (.int .u8)) a0] [] K = f19 k a0 (fun z0 z1 => K [.val [] (.int .i64) z0, .val [] (.int .i64) z1] []) := by
  rw [f19_def]
  cases k with
  | zero => rfl
  | succ k =>
    refine Eq.trans (show _ = exec T an19 (modesOf F) 0 k 9 (callC T F k) (ending T Try.f19 an19 0 K) (bodyOf Try.f19) ⟨argEnv 0 [.val [(0, 0)] (.slice (.int .u8)) a0] (fun _ => none), rowsOf []⟩ (ending T Try.f19 an19 0 K) (fun _ _ => none) from by kernel_rfl) ?_
    rw [← S19_eq k, ← execS_eq T an19 (modesOf F) 0 k 9 (S19 k) (fun _ _ _ _ _ => none) (bodyOf Try.f19) (cuts_of _ _ _ _ _ _ _ _ (bodyOf Try.f19) (l := []) (by kernel_rfl) trivial)]
    kernel_rfl
noncomputable def s19 (k : Nat) (a : List PV) (r : List RowS) (K : List PV → List RowS → Option R) : Option R :=
  onShape [.val [(0, 0)] (.slice (.int .u8))] [] (fun v => f19 k v.1.1 (fun z0 z1 => K [.val [] (.int .i64) z0, .val [] (.int .i64) z1] [])) (callC T F k 19 a r K) a r
theorem s19_eq (k : Nat) (a : List PV) (r : List RowS) (K : List PV → List RowS → Option R) : s19 k a r K = callC T F k 19 a r K := by
  unfold s19
  exact onShape_eq (a := [.val [(0, 0)] (.slice (.int .u8))]) (b := []) (G := fun a r => callC T F k 19 a r K) (fun x y => Eq.trans (by kernel_rfl) (Eq.trans (e19 k x.1 K).symm (by kernel_rfl))) a r
end
section
variable {R : Type}
noncomputable def S66 (k g : Nat) (a : List PV) (r : List RowS) (K : List PV → List RowS → Option R) : Option R := callC T F k g a r K
theorem S66_eq (k : Nat) : S66 (R := R) k = callC T F k := by
  funext g a r K
  exact rfl
theorem e66 (k : Nat) (a0 : Int) (a1 : Int) (a2 : Int) (K : List PV → List RowS → Option R) : callC T F k 66 [.val [] (.int .i64) a0, .val [] (.int .i64) a1, .val [] (.int .i64) a2] [] K = f66 k a0 a1 a2 (fun z0 => K [.val [] .bool z0] []) := by
  rw [f66_def]
  cases k with
  | zero => rfl
  | succ k =>
    refine Eq.trans (show _ = exec T an66 (modesOf F) 0 k 15 (callC T F k) (ending T Try.f66 an66 0 K) (bodyOf Try.f66) ⟨argEnv 0 [.val [] (.int .i64) a0, .val [] (.int .i64) a1, .val [] (.int .i64) a2] (fun _ => none), rowsOf []⟩ (ending T Try.f66 an66 0 K) (fun _ _ => none) from by kernel_rfl) ?_
    rw [← S66_eq k, ← execS_eq T an66 (modesOf F) 0 k 15 (S66 k) (fun _ _ _ _ _ => none) (bodyOf Try.f66) (cuts_of _ _ _ _ _ _ _ _ (bodyOf Try.f66) (l := []) (by kernel_rfl) trivial)]
    kernel_rfl
noncomputable def s66 (k : Nat) (a : List PV) (r : List RowS) (K : List PV → List RowS → Option R) : Option R :=
  onShape [.val [] (.int .i64), .val [] (.int .i64), .val [] (.int .i64)] [] (fun v => f66 k v.1.1 v.1.2.1 v.1.2.2.1 (fun z0 => K [.val [] .bool z0] [])) (callC T F k 66 a r K) a r
theorem s66_eq (k : Nat) (a : List PV) (r : List RowS) (K : List PV → List RowS → Option R) : s66 k a r K = callC T F k 66 a r K := by
  unfold s66
  exact onShape_eq (a := [.val [] (.int .i64), .val [] (.int .i64), .val [] (.int .i64)]) (b := []) (G := fun a r => callC T F k 66 a r K) (fun x y => Eq.trans (by kernel_rfl) (Eq.trans (e66 k x.1 x.2.1 x.2.2.1 K).symm (by kernel_rfl))) a r
end
section
variable {R : Type}
noncomputable def S67 (k g : Nat) (a : List PV) (r : List RowS) (K : List PV → List RowS → Option R) : Option R := callC T F k g a r K
theorem S67_eq (k : Nat) : S67 (R := R) k = callC T F k := by
  funext g a r K
  exact rfl
section
variable {R : Type} (k : Nat) (K : List PV → List RowS → Option R)
noncomputable def L67_1000013 (ws : List PV) (rs : List RowS) (N : St → Option R) (X : Nat → St → Option R) : Option R :=
  onShape [.ptr 1 0, .val [] .bool] [.vars [.val [] (.int .i64), .val [] (.int .i64), .val [] .str, .val [] (.int .i64), .val [] (.int .i64), .val [] (.int .i64), .val [(0, 0)] (.slice (.int .u8)), .val [(0, 0)] (.slice (.prod (.int .i64) (.prod (.int .i64) .unit))), .val [] .bool]] (fun v => f67_1000013 k (fun yN_8 => N (sh fi67_13 [.ptr 1 0] [⟨0, .vars [.val [] (.int .i64) v.2.1.1, .val [] (.int .i64) v.2.1.2.1, .val [] .str v.2.1.2.2.1, .val [] (.int .i64) v.2.1.2.2.2.1, .val [] (.int .i64) v.2.1.2.2.2.2.1, .val [] (.int .i64) v.2.1.2.2.2.2.2.1, .val [(0, 0)] (.slice (.int .u8)) v.2.1.2.2.2.2.2.2.1, .val [(0, 0)] (.slice (.prod (.int .i64) (.prod (.int .i64) .unit))) v.2.1.2.2.2.2.2.2.2.1, .val [] .bool yN_8]⟩])) v.1.2.1 v.2.1.1 v.2.1.2.1 v.2.1.2.2.1 v.2.1.2.2.2.1 v.2.1.2.2.2.2.1 v.2.1.2.2.2.2.2.1 v.2.1.2.2.2.2.2.2.1 v.2.1.2.2.2.2.2.2.2.1 v.2.1.2.2.2.2.2.2.2.2.1) (inner T an67 (modesOf F) 0 k 62 (S67 k) (ending T Try.f67 an67 0 K) cd67_1000013 (sh sp67_1000013 ws rs) N X) ws rs
noncomputable def L67_1000011 (ws : List PV) (rs : List RowS) (N : St → Option R) (X : Nat → St → Option R) : Option R :=
  onShape [.ptr 1 0, .val [] (.int .i64), .val [] .bool] [.vars [.val [] (.int .i64), .val [] (.int .i64), .val [] .str, .val [] (.int .i64), .val [] (.int .i64), .val [] (.int .i64), .val [(0, 0)] (.slice (.int .u8)), .val [(0, 0)] (.slice (.prod (.int .i64) (.prod (.int .i64) .unit))), .val [] .bool]] (fun v => f67_1000011 k (fun yN_7 yN_8 => N (sh fi67_11 [.ptr 1 0] [⟨0, .vars [.val [] (.int .i64) v.2.1.1, .val [] (.int .i64) v.2.1.2.1, .val [] .str v.2.1.2.2.1, .val [] (.int .i64) v.2.1.2.2.2.1, .val [] (.int .i64) v.2.1.2.2.2.2.1, .val [] (.int .i64) v.2.1.2.2.2.2.2.1, .val [(0, 0)] (.slice (.int .u8)) v.2.1.2.2.2.2.2.2.1, .val [(0, 0)] (.slice (.prod (.int .i64) (.prod (.int .i64) .unit))) yN_7, .val [] .bool yN_8]⟩])) v.1.2.1 v.1.2.2.1 v.2.1.1 v.2.1.2.1 v.2.1.2.2.1 v.2.1.2.2.2.1 v.2.1.2.2.2.2.1 v.2.1.2.2.2.2.2.1 v.2.1.2.2.2.2.2.2.1 v.2.1.2.2.2.2.2.2.2.1 v.2.1.2.2.2.2.2.2.2.2.1) (inner T an67 (modesOf F) 0 k 62 (S67 k) (ending T Try.f67 an67 0 K) cd67_1000011 (sh sp67_1000011 ws rs) N X) ws rs
noncomputable def L67_1000009 (ws : List PV) (rs : List RowS) (N : St → Option R) (X : Nat → St → Option R) : Option R :=
  onShape [.ptr 1 0, .val [] (.int .i64), .val [] .bool] [.vars [.val [] (.int .i64), .val [] (.int .i64), .val [] .str, .val [] (.int .i64), .val [] (.int .i64), .val [] (.int .i64), .val [(0, 0)] (.slice (.int .u8)), .val [(0, 0)] (.slice (.prod (.int .i64) (.prod (.int .i64) .unit))), .val [] .bool]] (fun v => f67_1000009 k (fun yN_3 yN_4 yN_7 yN_8 => N (sh fi67_9 [.ptr 1 0] [⟨0, .vars [.val [] (.int .i64) v.2.1.1, .val [] (.int .i64) v.2.1.2.1, .val [] .str v.2.1.2.2.1, .val [] (.int .i64) yN_3, .val [] (.int .i64) yN_4, .val [] (.int .i64) v.2.1.2.2.2.2.2.1, .val [(0, 0)] (.slice (.int .u8)) v.2.1.2.2.2.2.2.2.1, .val [(0, 0)] (.slice (.prod (.int .i64) (.prod (.int .i64) .unit))) yN_7, .val [] .bool yN_8]⟩])) v.1.2.1 v.1.2.2.1 v.2.1.1 v.2.1.2.1 v.2.1.2.2.1 v.2.1.2.2.2.1 v.2.1.2.2.2.2.1 v.2.1.2.2.2.2.2.1 v.2.1.2.2.2.2.2.2.1 v.2.1.2.2.2.2.2.2.2.1 v.2.1.2.2.2.2.2.2.2.2.1) (inner T an67 (modesOf F) 0 k 62 (S67 k) (ending T Try.f67 an67 0 K) cd67_1000009 (sh sp67_1000009 ws rs) N X) ws rs
noncomputable def L67_1000007 (ws : List PV) (rs : List RowS) (N : St → Option R) (X : Nat → St → Option R) : Option R :=
  onShape [.ptr 1 0, .val [] (.int .i64), .val [] .bool] [.vars [.val [] (.int .i64), .val [] (.int .i64), .val [] .str, .val [] (.int .i64), .val [] (.int .i64), .val [] (.int .i64), .val [(0, 0)] (.slice (.int .u8)), .val [(0, 0)] (.slice (.prod (.int .i64) (.prod (.int .i64) .unit))), .val [] .bool]] (fun v => f67_1000007 k (fun yN_3 yN_4 yN_5 yN_6 yN_7 yN_8 => N (sh fi67_7 [.ptr 1 0] [⟨0, .vars [.val [] (.int .i64) v.2.1.1, .val [] (.int .i64) v.2.1.2.1, .val [] .str v.2.1.2.2.1, .val [] (.int .i64) yN_3, .val [] (.int .i64) yN_4, .val [] (.int .i64) yN_5, .val [(0, 0)] (.slice (.int .u8)) yN_6, .val [(0, 0)] (.slice (.prod (.int .i64) (.prod (.int .i64) .unit))) yN_7, .val [] .bool yN_8]⟩])) v.1.2.1 v.1.2.2.1 v.2.1.1 v.2.1.2.1 v.2.1.2.2.1 v.2.1.2.2.2.1 v.2.1.2.2.2.2.1 v.2.1.2.2.2.2.2.1 v.2.1.2.2.2.2.2.2.1 v.2.1.2.2.2.2.2.2.2.1 v.2.1.2.2.2.2.2.2.2.2.1) (inner T an67 (modesOf F) 0 k 62 (S67 k) (ending T Try.f67 an67 0 K) cd67_1000007 (sh sp67_1000007 ws rs) N X) ws rs
noncomputable def L67_1000005 (ws : List PV) (rs : List RowS) (N : St → Option R) (X : Nat → St → Option R) : Option R :=
  onShape [.ptr 1 0, .val [] (.int .i64), .val [] .bool] [.vars [.val [] (.int .i64), .val [] (.int .i64), .val [] .str, .val [] (.int .i64), .val [] (.int .i64), .val [] (.int .i64), .val [(0, 0)] (.slice (.int .u8)), .val [(0, 0)] (.slice (.prod (.int .i64) (.prod (.int .i64) .unit))), .val [] .bool]] (fun v => f67_1000005 k (fun yN_2 yN_3 yN_4 yN_5 yN_6 yN_7 yN_8 => N (sh fi67_5 [.ptr 1 0] [⟨0, .vars [.val [] (.int .i64) v.2.1.1, .val [] (.int .i64) v.2.1.2.1, .val [] .str yN_2, .val [] (.int .i64) yN_3, .val [] (.int .i64) yN_4, .val [] (.int .i64) yN_5, .val [(0, 0)] (.slice (.int .u8)) yN_6, .val [(0, 0)] (.slice (.prod (.int .i64) (.prod (.int .i64) .unit))) yN_7, .val [] .bool yN_8]⟩])) v.1.2.1 v.1.2.2.1 v.2.1.1 v.2.1.2.1 v.2.1.2.2.1 v.2.1.2.2.2.1 v.2.1.2.2.2.2.1 v.2.1.2.2.2.2.2.1 v.2.1.2.2.2.2.2.2.1 v.2.1.2.2.2.2.2.2.2.1 v.2.1.2.2.2.2.2.2.2.2.1) (inner T an67 (modesOf F) 0 k 62 (S67 k) (ending T Try.f67 an67 0 K) cd67_1000005 (sh sp67_1000005 ws rs) N X) ws rs
noncomputable def L67 (id : Nat) (ws : List PV) (rs : List RowS) (N : St → Option R) (X : Nat → St → Option R) : Option R := bif id == 1000013 then L67_1000013 k K ws rs N X else bif id == 1000011 then L67_1000011 k K ws rs N X else bif id == 1000009 then L67_1000009 k K ws rs N X else bif id == 1000007 then L67_1000007 k K ws rs N X else bif id == 1000005 then L67_1000005 k K ws rs N X else none
theorem l67_1000013 (ws : List PV) (rs : List RowS) (N : St → Option R) (X : Nat → St → Option R) : L67 k K 1000013 ws rs N X = inner T an67 (modesOf F) 0 k 62 (S67 k) (ending T Try.f67 an67 0 K) cd67_1000013 (sh sp67_1000013 ws rs) N X := by
  show L67_1000013 k K ws rs N X = _
  unfold L67_1000013
  rw [f67_1000013_def]
  exact onShape_eq (a := [.ptr 1 0, .val [] .bool]) (b := [.vars [.val [] (.int .i64), .val [] (.int .i64), .val [] .str, .val [] (.int .i64), .val [] (.int .i64), .val [] (.int .i64), .val [(0, 0)] (.slice (.int .u8)), .val [(0, 0)] (.slice (.prod (.int .i64) (.prod (.int .i64) .unit))), .val [] .bool]]) (G := fun ws rs => inner T an67 (modesOf F) 0 k 62 (S67 k) (ending T Try.f67 an67 0 K) cd67_1000013 (sh sp67_1000013 ws rs) N X) (fun x y => Eq.trans (by kernel_rfl) (innerS_eq T an67 (modesOf F) 0 k 62 (S67 k) (L67 k K) cd67_1000013 (l := []) (by kernel_rfl) trivial _ N X)) ws rs
theorem l67_1000011 (ws : List PV) (rs : List RowS) (N : St → Option R) (X : Nat → St → Option R) : L67 k K 1000011 ws rs N X = inner T an67 (modesOf F) 0 k 62 (S67 k) (ending T Try.f67 an67 0 K) cd67_1000011 (sh sp67_1000011 ws rs) N X := by
  show L67_1000011 k K ws rs N X = _
  unfold L67_1000011
  rw [f67_1000011_def]
  exact onShape_eq (a := [.ptr 1 0, .val [] (.int .i64), .val [] .bool]) (b := [.vars [.val [] (.int .i64), .val [] (.int .i64), .val [] .str, .val [] (.int .i64), .val [] (.int .i64), .val [] (.int .i64), .val [(0, 0)] (.slice (.int .u8)), .val [(0, 0)] (.slice (.prod (.int .i64) (.prod (.int .i64) .unit))), .val [] .bool]]) (G := fun ws rs => inner T an67 (modesOf F) 0 k 62 (S67 k) (ending T Try.f67 an67 0 K) cd67_1000011 (sh sp67_1000011 ws rs) N X) (fun x y => Eq.trans (by kernel_rfl) (innerS_eq T an67 (modesOf F) 0 k 62 (S67 k) (L67 k K) cd67_1000011 (l := [(1000013, sp67_1000013, cd67_1000013)]) (by kernel_rfl) ⟨l67_1000013 k K, trivial⟩ _ N X)) ws rs
theorem l67_1000009 (ws : List PV) (rs : List RowS) (N : St → Option R) (X : Nat → St → Option R) : L67 k K 1000009 ws rs N X = inner T an67 (modesOf F) 0 k 62 (S67 k) (ending T Try.f67 an67 0 K) cd67_1000009 (sh sp67_1000009 ws rs) N X := by
  show L67_1000009 k K ws rs N X = _
  unfold L67_1000009
  rw [f67_1000009_def]
  exact onShape_eq (a := [.ptr 1 0, .val [] (.int .i64), .val [] .bool]) (b := [.vars [.val [] (.int .i64), .val [] (.int .i64), .val [] .str, .val [] (.int .i64), .val [] (.int .i64), .val [] (.int .i64), .val [(0, 0)] (.slice (.int .u8)), .val [(0, 0)] (.slice (.prod (.int .i64) (.prod (.int .i64) .unit))), .val [] .bool]]) (G := fun ws rs => inner T an67 (modesOf F) 0 k 62 (S67 k) (ending T Try.f67 an67 0 K) cd67_1000009 (sh sp67_1000009 ws rs) N X) (fun x y => Eq.trans (by kernel_rfl) (innerS_eq T an67 (modesOf F) 0 k 62 (S67 k) (L67 k K) cd67_1000009 (l := [(1000011, sp67_1000011, cd67_1000011)]) (by kernel_rfl) ⟨l67_1000011 k K, trivial⟩ _ N X)) ws rs
theorem l67_1000007 (ws : List PV) (rs : List RowS) (N : St → Option R) (X : Nat → St → Option R) : L67 k K 1000007 ws rs N X = inner T an67 (modesOf F) 0 k 62 (S67 k) (ending T Try.f67 an67 0 K) cd67_1000007 (sh sp67_1000007 ws rs) N X := by
  show L67_1000007 k K ws rs N X = _
  unfold L67_1000007
  rw [f67_1000007_def]
  exact onShape_eq (a := [.ptr 1 0, .val [] (.int .i64), .val [] .bool]) (b := [.vars [.val [] (.int .i64), .val [] (.int .i64), .val [] .str, .val [] (.int .i64), .val [] (.int .i64), .val [] (.int .i64), .val [(0, 0)] (.slice (.int .u8)), .val [(0, 0)] (.slice (.prod (.int .i64) (.prod (.int .i64) .unit))), .val [] .bool]]) (G := fun ws rs => inner T an67 (modesOf F) 0 k 62 (S67 k) (ending T Try.f67 an67 0 K) cd67_1000007 (sh sp67_1000007 ws rs) N X) (fun x y => Eq.trans (by kernel_rfl) (innerS_eq T an67 (modesOf F) 0 k 62 (S67 k) (L67 k K) cd67_1000007 (l := [(1000009, sp67_1000009, cd67_1000009)]) (by kernel_rfl) ⟨l67_1000009 k K, trivial⟩ _ N X)) ws rs
theorem l67_1000005 (ws : List PV) (rs : List RowS) (N : St → Option R) (X : Nat → St → Option R) : L67 k K 1000005 ws rs N X = inner T an67 (modesOf F) 0 k 62 (S67 k) (ending T Try.f67 an67 0 K) cd67_1000005 (sh sp67_1000005 ws rs) N X := by
  show L67_1000005 k K ws rs N X = _
  unfold L67_1000005
  rw [f67_1000005_def]
  exact onShape_eq (a := [.ptr 1 0, .val [] (.int .i64), .val [] .bool]) (b := [.vars [.val [] (.int .i64), .val [] (.int .i64), .val [] .str, .val [] (.int .i64), .val [] (.int .i64), .val [] (.int .i64), .val [(0, 0)] (.slice (.int .u8)), .val [(0, 0)] (.slice (.prod (.int .i64) (.prod (.int .i64) .unit))), .val [] .bool]]) (G := fun ws rs => inner T an67 (modesOf F) 0 k 62 (S67 k) (ending T Try.f67 an67 0 K) cd67_1000005 (sh sp67_1000005 ws rs) N X) (fun x y => Eq.trans (by kernel_rfl) (innerS_eq T an67 (modesOf F) 0 k 62 (S67 k) (L67 k K) cd67_1000005 (l := [(1000007, sp67_1000007, cd67_1000007)]) (by kernel_rfl) ⟨l67_1000007 k K, trivial⟩ _ N X)) ws rs
end
theorem e67 (k : Nat) (a0 : Int) (a1 : Int) (a2 : ByteArray) (a3 : Int) (a4 : Int) (a5 : Int) (a6 : List Int) (a7 : List ((Int × (Int × Unit)))) (a8 : Bool) (K : List PV → List RowS → Option R) : callC T F k 67 [.agg [.val [] (.int .i64) a0, .val [] (.int .i64) a1, .val [] .str a2, .val [] (.int .i64) a3, .val [] (.int .i64) a4, .val [] (.int .i64) a5, .val [(0, 0)] (.slice (.int .u8)) a6, .val [(0, 0)] (.slice (.prod (.int .i64) (.prod (.int .i64) .unit))) a7, .val [] .bool a8]] [] K = f67 k a0 a1 a2 a3 a4 a5 a6 a7 a8 (fun z0 => K [.val [] .bool z0] []) := by
  rw [f67_def]
  cases k with
  | zero => rfl
  | succ k =>
    refine Eq.trans (show _ = exec T an67 (modesOf F) 0 k 62 (callC T F k) (ending T Try.f67 an67 0 K) (bodyOf Try.f67) ⟨argEnv 0 [.agg [.val [] (.int .i64) a0, .val [] (.int .i64) a1, .val [] .str a2, .val [] (.int .i64) a3, .val [] (.int .i64) a4, .val [] (.int .i64) a5, .val [(0, 0)] (.slice (.int .u8)) a6, .val [(0, 0)] (.slice (.prod (.int .i64) (.prod (.int .i64) .unit))) a7, .val [] .bool a8]] (fun _ => none), rowsOf []⟩ (ending T Try.f67 an67 0 K) (fun _ _ => none) from by kernel_rfl) ?_
    rw [← S67_eq k, ← execS_eq T an67 (modesOf F) 0 k 62 (S67 k) (L67 k K) (bodyOf Try.f67) (cuts_of _ _ _ _ _ _ _ _ (bodyOf Try.f67) (l := [(1000005, sp67_1000005, cd67_1000005)]) (by kernel_rfl) ⟨l67_1000005 k K, trivial⟩)]
    kernel_rfl
noncomputable def s67 (k : Nat) (a : List PV) (r : List RowS) (K : List PV → List RowS → Option R) : Option R :=
  onShape [.agg [.val [] (.int .i64), .val [] (.int .i64), .val [] .str, .val [] (.int .i64), .val [] (.int .i64), .val [] (.int .i64), .val [(0, 0)] (.slice (.int .u8)), .val [(0, 0)] (.slice (.prod (.int .i64) (.prod (.int .i64) .unit))), .val [] .bool]] [] (fun v => f67 k v.1.1.1 v.1.1.2.1 v.1.1.2.2.1 v.1.1.2.2.2.1 v.1.1.2.2.2.2.1 v.1.1.2.2.2.2.2.1 v.1.1.2.2.2.2.2.2.1 v.1.1.2.2.2.2.2.2.2.1 v.1.1.2.2.2.2.2.2.2.2.1 (fun z0 => K [.val [] .bool z0] [])) (callC T F k 67 a r K) a r
theorem s67_eq (k : Nat) (a : List PV) (r : List RowS) (K : List PV → List RowS → Option R) : s67 k a r K = callC T F k 67 a r K := by
  unfold s67
  exact onShape_eq (a := [.agg [.val [] (.int .i64), .val [] (.int .i64), .val [] .str, .val [] (.int .i64), .val [] (.int .i64), .val [] (.int .i64), .val [(0, 0)] (.slice (.int .u8)), .val [(0, 0)] (.slice (.prod (.int .i64) (.prod (.int .i64) .unit))), .val [] .bool]]) (b := []) (G := fun a r => callC T F k 67 a r K) (fun x y => Eq.trans (by kernel_rfl) (Eq.trans (e67 k x.1.1 x.1.2.1 x.1.2.2.1 x.1.2.2.2.1 x.1.2.2.2.2.1 x.1.2.2.2.2.2.1 x.1.2.2.2.2.2.2.1 x.1.2.2.2.2.2.2.2.1 x.1.2.2.2.2.2.2.2.2.1 K).symm (by kernel_rfl))) a r
end
section
variable {R : Type}
noncomputable def S68 (k g : Nat) (a : List PV) (r : List RowS) (K : List PV → List RowS → Option R) : Option R := callC T F k g a r K
theorem S68_eq (k : Nat) : S68 (R := R) k = callC T F k := by
  funext g a r K
  exact rfl
section
variable {R : Type} (k : Nat) (K : List PV → List RowS → Option R)
noncomputable def L68_0 (ws : List PV) (rs : List RowS) (N : St → Option R) (X : Nat → St → Option R) : Option R :=
  onShape [.val [] .str, .val [] (.int .i64), .val [] (.int .i64)] [] (fun v => f68_0 k (fun z0 => K [.val [] .bool z0] []) (N (sh jn68_0 [] [])) v.1.1 v.1.2.1 k v.1.2.2.1) (inner T an68 (modesOf F) 0 k 47 (S68 k) (ending T Try.f68 an68 0 K) cd68_0 (sh sp68_0 ws rs) N X) ws rs
noncomputable def L68 (id : Nat) (ws : List PV) (rs : List RowS) (N : St → Option R) (X : Nat → St → Option R) : Option R := bif id == 0 then L68_0 k K ws rs N X else none
theorem b68_0 (rec : St → Option R) (N : St → Option R) (X : Nat → St → Option R) (v0_0 : ByteArray) (v0_1 : Int) (v0_2 : Int) :
    execS T an68 (modesOf F) 0 k 47 (S68 k) (L68 k K) (ending T Try.f68 an68 0 K) bd68_0 (sh sp68_0 [.val [] .str v0_0, .val [] (.int .i64) v0_1, .val [] (.int .i64) v0_2] []) (fun st => atHead an68 0 bd68_0 st rec) (outX an68 0 0 N X) =
      f68_0b k (fun v0_2 => rec (sh sp68_0 [.val [] .str v0_0, .val [] (.int .i64) v0_1, .val [] (.int .i64) v0_2] [])) (fun z0 => K [.val [] .bool z0] []) (N (sh jn68_0 [] [])) v0_0 v0_1 v0_2 := by kernel_rfl
theorem i68_0 (N : St → Option R) (X : Nat → St → Option R) (v0_0 : ByteArray) (v0_1 : Int) (m : Nat) : ∀ (v0_2 : Int),
    iter (atHead an68 0 bd68_0) m (fun st N' => exec T an68 (modesOf F) 0 k 47 (S68 k) (ending T Try.f68 an68 0 K) bd68_0 st N' (outX an68 0 0 N X)) (sh sp68_0 [.val [] .str v0_0, .val [] (.int .i64) v0_1, .val [] (.int .i64) v0_2] []) = f68_0d k (fun z0 => K [.val [] .bool z0] []) (N (sh jn68_0 [] [])) v0_0 v0_1 m v0_2 := by
  induction m with
  | zero => intros; rfl
  | succ m ih =>
    intro v0_2
    simp only [iter]
    rw [← execS_eq T an68 (modesOf F) 0 k 47 (S68 k) (L68 k K) bd68_0 (cuts_of _ _ _ _ _ _ _ _ bd68_0 (l := []) (by kernel_rfl) trivial)]
    refine (b68_0 k K _ N X v0_0 v0_1 v0_2).trans ?_
    simp only [f68_0d, ih]
theorem l68_0 (ws : List PV) (rs : List RowS) (N : St → Option R) (X : Nat → St → Option R) : L68 k K 0 ws rs N X = inner T an68 (modesOf F) 0 k 47 (S68 k) (ending T Try.f68 an68 0 K) cd68_0 (sh sp68_0 ws rs) N X := by
  show L68_0 k K ws rs N X = _
  unfold L68_0
  rw [f68_0_def]
  exact onShape_eq (a := [.val [] .str, .val [] (.int .i64), .val [] (.int .i64)]) (b := []) (G := fun ws rs => inner T an68 (modesOf F) 0 k 47 (S68 k) (ending T Try.f68 an68 0 K) cd68_0 (sh sp68_0 ws rs) N X) (fun x y => Eq.trans (by kernel_rfl) (Eq.trans (i68_0 k K N X x.1 x.2.1 k x.2.2.1).symm (by kernel_rfl))) ws rs
end
theorem e68 (k : Nat) (a0 : ByteArray) (K : List PV → List RowS → Option R) : callC T F k 68 [.val [] .str a0] [] K = f68 k a0 (fun z0 => K [.val [] .bool z0] []) := by
  rw [f68_def]
  cases k with
  | zero => rfl
  | succ k =>
    refine Eq.trans (show _ = exec T an68 (modesOf F) 0 k 47 (callC T F k) (ending T Try.f68 an68 0 K) (bodyOf Try.f68) ⟨argEnv 0 [.val [] .str a0] (fun _ => none), rowsOf []⟩ (ending T Try.f68 an68 0 K) (fun _ _ => none) from by kernel_rfl) ?_
    rw [← S68_eq k, ← execS_eq T an68 (modesOf F) 0 k 47 (S68 k) (L68 k K) (bodyOf Try.f68) (cuts_of _ _ _ _ _ _ _ _ (bodyOf Try.f68) (l := [(0, sp68_0, cd68_0)]) (by kernel_rfl) ⟨l68_0 k K, trivial⟩)]
    kernel_rfl
noncomputable def s68 (k : Nat) (a : List PV) (r : List RowS) (K : List PV → List RowS → Option R) : Option R :=
  onShape [.val [] .str] [] (fun v => f68 k v.1.1 (fun z0 => K [.val [] .bool z0] [])) (callC T F k 68 a r K) a r
theorem s68_eq (k : Nat) (a : List PV) (r : List RowS) (K : List PV → List RowS → Option R) : s68 k a r K = callC T F k 68 a r K := by
  unfold s68
  exact onShape_eq (a := [.val [] .str]) (b := []) (G := fun a r => callC T F k 68 a r K) (fun x y => Eq.trans (by kernel_rfl) (Eq.trans (e68 k x.1 K).symm (by kernel_rfl))) a r
end
section
variable {R : Type}
noncomputable def S70 (k g : Nat) (a : List PV) (r : List RowS) (K : List PV → List RowS → Option R) : Option R := bif g == 66 then s66 k a r K else callC T F k g a r K
theorem S70_eq (k : Nat) : S70 (R := R) k = callC T F k := by
  funext g a r K
  exact pick_eq (fun e => by subst e; exact s66_eq k a r K) (rfl)
theorem e70 (k : Nat) (a0 : Int) (a1 : Int) (a2 : Int) (K : List PV → List RowS → Option R) : callC T F k 70 [.val [] (.int .i64) a0, .val [] (.int .i64) a1, .val [] (.int .i64) a2] [] K = f70 k a0 a1 a2 (fun z0 => K [.val [] (.int .i64) z0] []) := by
  rw [f70_def]
  cases k with
  | zero => rfl
  | succ k =>
    refine Eq.trans (show _ = exec T an70 (modesOf F) 0 k 12 (callC T F k) (ending T Try.f70 an70 0 K) (bodyOf Try.f70) ⟨argEnv 0 [.val [] (.int .i64) a0, .val [] (.int .i64) a1, .val [] (.int .i64) a2] (fun _ => none), rowsOf []⟩ (ending T Try.f70 an70 0 K) (fun _ _ => none) from by kernel_rfl) ?_
    rw [← S70_eq k, ← execS_eq T an70 (modesOf F) 0 k 12 (S70 k) (fun _ _ _ _ _ => none) (bodyOf Try.f70) (cuts_of _ _ _ _ _ _ _ _ (bodyOf Try.f70) (l := []) (by kernel_rfl) trivial)]
    kernel_rfl
noncomputable def s70 (k : Nat) (a : List PV) (r : List RowS) (K : List PV → List RowS → Option R) : Option R :=
  onShape [.val [] (.int .i64), .val [] (.int .i64), .val [] (.int .i64)] [] (fun v => f70 k v.1.1 v.1.2.1 v.1.2.2.1 (fun z0 => K [.val [] (.int .i64) z0] [])) (callC T F k 70 a r K) a r
theorem s70_eq (k : Nat) (a : List PV) (r : List RowS) (K : List PV → List RowS → Option R) : s70 k a r K = callC T F k 70 a r K := by
  unfold s70
  exact onShape_eq (a := [.val [] (.int .i64), .val [] (.int .i64), .val [] (.int .i64)]) (b := []) (G := fun a r => callC T F k 70 a r K) (fun x y => Eq.trans (by kernel_rfl) (Eq.trans (e70 k x.1 x.2.1 x.2.2.1 K).symm (by kernel_rfl))) a r
end
section
variable {R : Type}
noncomputable def S69 (k g : Nat) (a : List PV) (r : List RowS) (K : List PV → List RowS → Option R) : Option R := callC T F k g a r K
theorem S69_eq (k : Nat) : S69 (R := R) k = callC T F k := by
  funext g a r K
  exact rfl
section
variable {R : Type} (k : Nat) (K : List PV → List RowS → Option R)
noncomputable def L69_0 (ws : List PV) (rs : List RowS) (N : St → Option R) (X : Nat → St → Option R) : Option R :=
  onShape [.val [(0, 0)] (.slice (.int .i64)), .val [] (.int .i64), .val [] (.int .i64)] [] (fun v => f69_0 k (fun z0 => K [.val [] (.int .i64) z0] []) (N (sh jn69_0 [] [])) v.1.1 v.1.2.1 k v.1.2.2.1) (inner T an69 (modesOf F) 0 k 15 (S69 k) (ending T Try.f69 an69 0 K) cd69_0 (sh sp69_0 ws rs) N X) ws rs
noncomputable def L69 (id : Nat) (ws : List PV) (rs : List RowS) (N : St → Option R) (X : Nat → St → Option R) : Option R := bif id == 0 then L69_0 k K ws rs N X else none
theorem b69_0 (rec : St → Option R) (N : St → Option R) (X : Nat → St → Option R) (v0_0 : List Int) (v0_1 : Int) (v0_2 : Int) :
    execS T an69 (modesOf F) 0 k 15 (S69 k) (L69 k K) (ending T Try.f69 an69 0 K) bd69_0 (sh sp69_0 [.val [(0, 0)] (.slice (.int .i64)) v0_0, .val [] (.int .i64) v0_1, .val [] (.int .i64) v0_2] []) (fun st => atHead an69 0 bd69_0 st rec) (outX an69 0 0 N X) =
      f69_0b k (fun v0_2 => rec (sh sp69_0 [.val [(0, 0)] (.slice (.int .i64)) v0_0, .val [] (.int .i64) v0_1, .val [] (.int .i64) v0_2] [])) (fun z0 => K [.val [] (.int .i64) z0] []) (N (sh jn69_0 [] [])) v0_0 v0_1 v0_2 := by kernel_rfl
theorem i69_0 (N : St → Option R) (X : Nat → St → Option R) (v0_0 : List Int) (v0_1 : Int) (m : Nat) : ∀ (v0_2 : Int),
    iter (atHead an69 0 bd69_0) m (fun st N' => exec T an69 (modesOf F) 0 k 15 (S69 k) (ending T Try.f69 an69 0 K) bd69_0 st N' (outX an69 0 0 N X)) (sh sp69_0 [.val [(0, 0)] (.slice (.int .i64)) v0_0, .val [] (.int .i64) v0_1, .val [] (.int .i64) v0_2] []) = f69_0d k (fun z0 => K [.val [] (.int .i64) z0] []) (N (sh jn69_0 [] [])) v0_0 v0_1 m v0_2 := by
  induction m with
  | zero => intros; rfl
  | succ m ih =>
    intro v0_2
    simp only [iter]
    rw [← execS_eq T an69 (modesOf F) 0 k 15 (S69 k) (L69 k K) bd69_0 (cuts_of _ _ _ _ _ _ _ _ bd69_0 (l := []) (by kernel_rfl) trivial)]
    refine (b69_0 k K _ N X v0_0 v0_1 v0_2).trans ?_
    simp only [f69_0d, ih]
theorem l69_0 (ws : List PV) (rs : List RowS) (N : St → Option R) (X : Nat → St → Option R) : L69 k K 0 ws rs N X = inner T an69 (modesOf F) 0 k 15 (S69 k) (ending T Try.f69 an69 0 K) cd69_0 (sh sp69_0 ws rs) N X := by
  show L69_0 k K ws rs N X = _
  unfold L69_0
  rw [f69_0_def]
  exact onShape_eq (a := [.val [(0, 0)] (.slice (.int .i64)), .val [] (.int .i64), .val [] (.int .i64)]) (b := []) (G := fun ws rs => inner T an69 (modesOf F) 0 k 15 (S69 k) (ending T Try.f69 an69 0 K) cd69_0 (sh sp69_0 ws rs) N X) (fun x y => Eq.trans (by kernel_rfl) (Eq.trans (i69_0 k K N X x.1 x.2.1 k x.2.2.1).symm (by kernel_rfl))) ws rs
end
theorem e69 (k : Nat) (a0 : List Int) (K : List PV → List RowS → Option R) : callC T F k 69 [.val [(0, 0)] (.slice (.int .i64)) a0] [] K = f69 k a0 (fun z0 => K [.val [] (.int .i64) z0] []) := by
  rw [f69_def]
  cases k with
  | zero => rfl
  | succ k =>
    refine Eq.trans (show _ = exec T an69 (modesOf F) 0 k 15 (callC T F k) (ending T Try.f69 an69 0 K) (bodyOf Try.f69) ⟨argEnv 0 [.val [(0, 0)] (.slice (.int .i64)) a0] (fun _ => none), rowsOf []⟩ (ending T Try.f69 an69 0 K) (fun _ _ => none) from by kernel_rfl) ?_
    rw [← S69_eq k, ← execS_eq T an69 (modesOf F) 0 k 15 (S69 k) (L69 k K) (bodyOf Try.f69) (cuts_of _ _ _ _ _ _ _ _ (bodyOf Try.f69) (l := [(0, sp69_0, cd69_0)]) (by kernel_rfl) ⟨l69_0 k K, trivial⟩)]
    kernel_rfl
noncomputable def s69 (k : Nat) (a : List PV) (r : List RowS) (K : List PV → List RowS → Option R) : Option R :=
  onShape [.val [(0, 0)] (.slice (.int .i64))] [] (fun v => f69 k v.1.1 (fun z0 => K [.val [] (.int .i64) z0] [])) (callC T F k 69 a r K) a r
theorem s69_eq (k : Nat) (a : List PV) (r : List RowS) (K : List PV → List RowS → Option R) : s69 k a r K = callC T F k 69 a r K := by
  unfold s69
  exact onShape_eq (a := [.val [(0, 0)] (.slice (.int .i64))]) (b := []) (G := fun a r => callC T F k 69 a r K) (fun x y => Eq.trans (by kernel_rfl) (Eq.trans (e69 k x.1 K).symm (by kernel_rfl))) a r
end
section
variable {R : Type}
noncomputable def S104 (k g : Nat) (a : List PV) (r : List RowS) (K : List PV → List RowS → Option R) : Option R := callC T F k g a r K
theorem S104_eq (k : Nat) : S104 (R := R) k = callC T F k := by
  funext g a r K
  exact rfl
theorem e104 (k : Nat) (K : List PV → List RowS → Option R) : callC T F k 104 [] [] K = f104 k (fun z0 z1 => K [.agg [.val [] (.int .i64) z0, .val [] (.int .i64) z1]] []) := by
  rw [f104_def]
  cases k with
  | zero => rfl
  | succ k =>
    refine Eq.trans (show _ = exec T an104 (modesOf F) 0 k 2 (callC T F k) (ending T Try.f104 an104 0 K) (bodyOf Try.f104) ⟨argEnv 0 [] (fun _ => none), rowsOf []⟩ (ending T Try.f104 an104 0 K) (fun _ _ => none) from by kernel_rfl) ?_
    rw [← S104_eq k, ← execS_eq T an104 (modesOf F) 0 k 2 (S104 k) (fun _ _ _ _ _ => none) (bodyOf Try.f104) (cuts_of _ _ _ _ _ _ _ _ (bodyOf Try.f104) (l := []) (by kernel_rfl) trivial)]
    kernel_rfl
noncomputable def s104 (k : Nat) (a : List PV) (r : List RowS) (K : List PV → List RowS → Option R) : Option R :=
  onShape [] [] (fun v => f104 k (fun z0 z1 => K [.agg [.val [] (.int .i64) z0, .val [] (.int .i64) z1]] [])) (callC T F k 104 a r K) a r
theorem s104_eq (k : Nat) (a : List PV) (r : List RowS) (K : List PV → List RowS → Option R) : s104 k a r K = callC T F k 104 a r K := by
  unfold s104
  exact onShape_eq (a := []) (b := []) (G := fun a r => callC T F k 104 a r K) (fun x y => Eq.trans (by kernel_rfl) (Eq.trans (e104 k K).symm (by kernel_rfl))) a r
end
section
variable {R : Type}
noncomputable def S71 (k g : Nat) (a : List PV) (r : List RowS) (K : List PV → List RowS → Option R) : Option R := bif g == 104 then s104 k a r K else callC T F k g a r K
theorem S71_eq (k : Nat) : S71 (R := R) k = callC T F k := by
  funext g a r K
  exact pick_eq (fun e => by subst e; exact s104_eq k a r K) (rfl)
theorem e71 (k : Nat) (a0 : List ((Int × (Int × Unit)))) (K : List PV → List RowS → Option R) : callC T F k 71 [.val [(0, 0)] (.slice (.prod (.int .i64) (.prod (.int .i64) .unit))) a0] [] K = f71 k a0 (fun z0 z1 => K [.val [(0, 0)] (.slice (.prod (.int .i64) (.prod (.int .i64) .unit))) z0, .val [] .bool z1] []) := by
  rw [f71_def]
  cases k with
  | zero => rfl
  | succ k =>
    refine Eq.trans (show _ = exec T an71 (modesOf F) 0 k 17 (callC T F k) (ending T Try.f71 an71 0 K) (bodyOf Try.f71) ⟨argEnv 0 [.val [(0, 0)] (.slice (.prod (.int .i64) (.prod (.int .i64) .unit))) a0] (fun _ => none), rowsOf []⟩ (ending T Try.f71 an71 0 K) (fun _ _ => none) from by kernel_rfl) ?_
    rw [← S71_eq k, ← execS_eq T an71 (modesOf F) 0 k 17 (S71 k) (fun _ _ _ _ _ => none) (bodyOf Try.f71) (cuts_of _ _ _ _ _ _ _ _ (bodyOf Try.f71) (l := []) (by kernel_rfl) trivial)]
    kernel_rfl
noncomputable def s71 (k : Nat) (a : List PV) (r : List RowS) (K : List PV → List RowS → Option R) : Option R :=
  onShape [.val [(0, 0)] (.slice (.prod (.int .i64) (.prod (.int .i64) .unit)))] [] (fun v => f71 k v.1.1 (fun z0 z1 => K [.val [(0, 0)] (.slice (.prod (.int .i64) (.prod (.int .i64) .unit))) z0, .val [] .bool z1] [])) (callC T F k 71 a r K) a r
theorem s71_eq (k : Nat) (a : List PV) (r : List RowS) (K : List PV → List RowS → Option R) : s71 k a r K = callC T F k 71 a r K := by
  unfold s71
  exact onShape_eq (a := [.val [(0, 0)] (.slice (.prod (.int .i64) (.prod (.int .i64) .unit)))]) (b := []) (G := fun a r => callC T F k 71 a r K) (fun x y => Eq.trans (by kernel_rfl) (Eq.trans (e71 k x.1 K).symm (by kernel_rfl))) a r
end
section
variable {R : Type}
noncomputable def S45 (k g : Nat) (a : List PV) (r : List RowS) (K : List PV → List RowS → Option R) : Option R := bif g == 66 then s66 k a r K else callC T F k g a r K
theorem S45_eq (k : Nat) : S45 (R := R) k = callC T F k := by
  funext g a r K
  exact pick_eq (fun e => by subst e; exact s66_eq k a r K) (rfl)
section
variable {R : Type} (k : Nat) (K : List PV → List RowS → Option R)
noncomputable def L45_0 (ws : List PV) (rs : List RowS) (N : St → Option R) (X : Nat → St → Option R) : Option R :=
  onShape [.val [(0, 0)] (.slice (.prod (.int .i64) (.prod (.int .i64) .unit))), .val [] (.int .i64), .val [(0, 0)] (.slice (.prod (.int .i64) (.prod (.int .i64) .unit))), .val [] (.int .i64), .val [] (.int .i64)] [] (fun v => f45_0 k (fun z0 => K [.val [] (.int .i64) z0] []) (N (sh jn45_0 [] [])) v.1.1 v.1.2.1 v.1.2.2.1 v.1.2.2.2.1 k v.1.2.2.2.2.1) (inner T an45 (modesOf F) 0 k 51 (S45 k) (ending T Try.f45 an45 0 K) cd45_0 (sh sp45_0 ws rs) N X) ws rs
noncomputable def L45 (id : Nat) (ws : List PV) (rs : List RowS) (N : St → Option R) (X : Nat → St → Option R) : Option R := bif id == 0 then L45_0 k K ws rs N X else none
theorem b45_0 (rec : St → Option R) (N : St → Option R) (X : Nat → St → Option R) (v0_0 : List ((Int × (Int × Unit)))) (v0_1 : Int) (v0_2 : List ((Int × (Int × Unit)))) (v0_3 : Int) (v0_4 : Int) :
    execS T an45 (modesOf F) 0 k 51 (S45 k) (L45 k K) (ending T Try.f45 an45 0 K) bd45_0 (sh sp45_0 [.val [(0, 0)] (.slice (.prod (.int .i64) (.prod (.int .i64) .unit))) v0_0, .val [] (.int .i64) v0_1, .val [(0, 0)] (.slice (.prod (.int .i64) (.prod (.int .i64) .unit))) v0_2, .val [] (.int .i64) v0_3, .val [] (.int .i64) v0_4] []) (fun st => atHead an45 0 bd45_0 st rec) (outX an45 0 0 N X) =
      f45_0b k (fun v0_4 => rec (sh sp45_0 [.val [(0, 0)] (.slice (.prod (.int .i64) (.prod (.int .i64) .unit))) v0_0, .val [] (.int .i64) v0_1, .val [(0, 0)] (.slice (.prod (.int .i64) (.prod (.int .i64) .unit))) v0_2, .val [] (.int .i64) v0_3, .val [] (.int .i64) v0_4] [])) (fun z0 => K [.val [] (.int .i64) z0] []) (N (sh jn45_0 [] [])) v0_0 v0_1 v0_2 v0_3 v0_4 := by kernel_rfl
theorem i45_0 (N : St → Option R) (X : Nat → St → Option R) (v0_0 : List ((Int × (Int × Unit)))) (v0_1 : Int) (v0_2 : List ((Int × (Int × Unit)))) (v0_3 : Int) (m : Nat) : ∀ (v0_4 : Int),
    iter (atHead an45 0 bd45_0) m (fun st N' => exec T an45 (modesOf F) 0 k 51 (S45 k) (ending T Try.f45 an45 0 K) bd45_0 st N' (outX an45 0 0 N X)) (sh sp45_0 [.val [(0, 0)] (.slice (.prod (.int .i64) (.prod (.int .i64) .unit))) v0_0, .val [] (.int .i64) v0_1, .val [(0, 0)] (.slice (.prod (.int .i64) (.prod (.int .i64) .unit))) v0_2, .val [] (.int .i64) v0_3, .val [] (.int .i64) v0_4] []) = f45_0d k (fun z0 => K [.val [] (.int .i64) z0] []) (N (sh jn45_0 [] [])) v0_0 v0_1 v0_2 v0_3 m v0_4 := by
  induction m with
  | zero => intros; rfl
  | succ m ih =>
    intro v0_4
    simp only [iter]
    rw [← execS_eq T an45 (modesOf F) 0 k 51 (S45 k) (L45 k K) bd45_0 (cuts_of _ _ _ _ _ _ _ _ bd45_0 (l := []) (by kernel_rfl) trivial)]
    refine (b45_0 k K _ N X v0_0 v0_1 v0_2 v0_3 v0_4).trans ?_
    simp only [f45_0d, ih]
theorem l45_0 (ws : List PV) (rs : List RowS) (N : St → Option R) (X : Nat → St → Option R) : L45 k K 0 ws rs N X = inner T an45 (modesOf F) 0 k 51 (S45 k) (ending T Try.f45 an45 0 K) cd45_0 (sh sp45_0 ws rs) N X := by
  show L45_0 k K ws rs N X = _
  unfold L45_0
  rw [f45_0_def]
  exact onShape_eq (a := [.val [(0, 0)] (.slice (.prod (.int .i64) (.prod (.int .i64) .unit))), .val [] (.int .i64), .val [(0, 0)] (.slice (.prod (.int .i64) (.prod (.int .i64) .unit))), .val [] (.int .i64), .val [] (.int .i64)]) (b := []) (G := fun ws rs => inner T an45 (modesOf F) 0 k 51 (S45 k) (ending T Try.f45 an45 0 K) cd45_0 (sh sp45_0 ws rs) N X) (fun x y => Eq.trans (by kernel_rfl) (Eq.trans (i45_0 k K N X x.1 x.2.1 x.2.2.1 x.2.2.2.1 k x.2.2.2.2.1).symm (by kernel_rfl))) ws rs
end
theorem e45 (k : Nat) (a0 : List ((Int × (Int × Unit)))) (a1 : Int) (K : List PV → List RowS → Option R) : callC T F k 45 [.val [(0, 0)] (.slice (.prod (.int .i64) (.prod (.int .i64) .unit))) a0, .val [] (.int .i64) a1] [] K = f45 k a0 a1 (fun z0 => K [.val [] (.int .i64) z0] []) := by
  rw [f45_def]
  cases k with
  | zero => rfl
  | succ k =>
    refine Eq.trans (show _ = exec T an45 (modesOf F) 0 k 51 (callC T F k) (ending T Try.f45 an45 0 K) (bodyOf Try.f45) ⟨argEnv 0 [.val [(0, 0)] (.slice (.prod (.int .i64) (.prod (.int .i64) .unit))) a0, .val [] (.int .i64) a1] (fun _ => none), rowsOf []⟩ (ending T Try.f45 an45 0 K) (fun _ _ => none) from by kernel_rfl) ?_
    rw [← S45_eq k, ← execS_eq T an45 (modesOf F) 0 k 51 (S45 k) (L45 k K) (bodyOf Try.f45) (cuts_of _ _ _ _ _ _ _ _ (bodyOf Try.f45) (l := [(0, sp45_0, cd45_0)]) (by kernel_rfl) ⟨l45_0 k K, trivial⟩)]
    kernel_rfl
noncomputable def s45 (k : Nat) (a : List PV) (r : List RowS) (K : List PV → List RowS → Option R) : Option R :=
  onShape [.val [(0, 0)] (.slice (.prod (.int .i64) (.prod (.int .i64) .unit))), .val [] (.int .i64)] [] (fun v => f45 k v.1.1 v.1.2.1 (fun z0 => K [.val [] (.int .i64) z0] [])) (callC T F k 45 a r K) a r
theorem s45_eq (k : Nat) (a : List PV) (r : List RowS) (K : List PV → List RowS → Option R) : s45 k a r K = callC T F k 45 a r K := by
  unfold s45
  exact onShape_eq (a := [.val [(0, 0)] (.slice (.prod (.int .i64) (.prod (.int .i64) .unit))), .val [] (.int .i64)]) (b := []) (G := fun a r => callC T F k 45 a r K) (fun x y => Eq.trans (by kernel_rfl) (Eq.trans (e45 k x.1 x.2.1 K).symm (by kernel_rfl))) a r
end
section
variable {R : Type}
noncomputable def S20 (k g : Nat) (a : List PV) (r : List RowS) (K : List PV → List RowS → Option R) : Option R := bif g == 45 then s45 k a r K else bif g == 66 then s66 k a r K else bif g == 67 then s67 k a r K else bif g == 68 then s68 k a r K else bif g == 69 then s69 k a r K else bif g == 70 then s70 k a r K else bif g == 71 then s71 k a r K else callC T F k g a r K
theorem S20_eq (k : Nat) : S20 (R := R) k = callC T F k := by
  funext g a r K
  exact pick_eq (fun e => by subst e; exact s45_eq k a r K) (pick_eq (fun e => by subst e; exact s66_eq k a r K) (pick_eq (fun e => by subst e; exact s67_eq k a r K) (pick_eq (fun e => by subst e; exact s68_eq k a r K) (pick_eq (fun e => by subst e; exact s69_eq k a r K) (pick_eq (fun e => by subst e; exact s70_eq k a r K) (pick_eq (fun e => by subst e; exact s71_eq k a r K) (rfl)))))))
section
variable {R : Type} (k : Nat) (K : List PV → List RowS → Option R)
noncomputable def L20_1000015 (ws : List PV) (rs : List RowS) (N : St → Option R) (X : Nat → St → Option R) : Option R :=
  onShape [.ptr 1 0, .val [] (.int .i64), .val [] .bool] [.vars [.val [] (.int .i64), .val [] (.int .i64), .val [] .str, .val [] (.int .i64), .val [] (.int .i64), .val [] (.int .i64), .val [(0, 0)] (.slice (.int .u8)), .val [(0, 0)] (.slice (.prod (.int .i64) (.prod (.int .i64) .unit))), .val [] .bool]] (fun v => f20_1000015 k (fun z0 => K [.val [] (.int .i64) z0] []) (N (sh fi20_15 [] [])) v.1.2.1 v.1.2.2.1 v.2.1.1 v.2.1.2.1 v.2.1.2.2.1 v.2.1.2.2.2.1 v.2.1.2.2.2.2.1 v.2.1.2.2.2.2.2.1 v.2.1.2.2.2.2.2.2.1 v.2.1.2.2.2.2.2.2.2.1 v.2.1.2.2.2.2.2.2.2.2.1) (inner T an20 (modesOf F) 0 k 81 (S20 k) (ending T Try.f20 an20 0 K) cd20_1000015 (sh sp20_1000015 ws rs) N X) ws rs
noncomputable def L20 (id : Nat) (ws : List PV) (rs : List RowS) (N : St → Option R) (X : Nat → St → Option R) : Option R := bif id == 1000015 then L20_1000015 k K ws rs N X else none
theorem l20_1000015 (ws : List PV) (rs : List RowS) (N : St → Option R) (X : Nat → St → Option R) : L20 k K 1000015 ws rs N X = inner T an20 (modesOf F) 0 k 81 (S20 k) (ending T Try.f20 an20 0 K) cd20_1000015 (sh sp20_1000015 ws rs) N X := by
  show L20_1000015 k K ws rs N X = _
  unfold L20_1000015
  rw [f20_1000015_def]
  exact onShape_eq (a := [.ptr 1 0, .val [] (.int .i64), .val [] .bool]) (b := [.vars [.val [] (.int .i64), .val [] (.int .i64), .val [] .str, .val [] (.int .i64), .val [] (.int .i64), .val [] (.int .i64), .val [(0, 0)] (.slice (.int .u8)), .val [(0, 0)] (.slice (.prod (.int .i64) (.prod (.int .i64) .unit))), .val [] .bool]]) (G := fun ws rs => inner T an20 (modesOf F) 0 k 81 (S20 k) (ending T Try.f20 an20 0 K) cd20_1000015 (sh sp20_1000015 ws rs) N X) (fun x y => Eq.trans (by kernel_rfl) (innerS_eq T an20 (modesOf F) 0 k 81 (S20 k) (L20 k K) cd20_1000015 (l := []) (by kernel_rfl) trivial _ N X)) ws rs
end
theorem e20 (k : Nat) (a0 : Int) (a1 : Int) (a2 : ByteArray) (a3 : Int) (a4 : Int) (a5 : Int) (a6 : List Int) (a7 : List ((Int × (Int × Unit)))) (a8 : Bool) (K : List PV → List RowS → Option R) : callC T F k 20 [.agg [.val [] (.int .i64) a0, .val [] (.int .i64) a1, .val [] .str a2, .val [] (.int .i64) a3, .val [] (.int .i64) a4, .val [] (.int .i64) a5, .val [(0, 0)] (.slice (.int .u8)) a6, .val [(0, 0)] (.slice (.prod (.int .i64) (.prod (.int .i64) .unit))) a7, .val [] .bool a8]] [] K = f20 k a0 a1 a2 a3 a4 a5 a6 a7 a8 (fun z0 => K [.val [] (.int .i64) z0] []) := by
  rw [f20_def]
  cases k with
  | zero => rfl
  | succ k =>
    refine Eq.trans (show _ = exec T an20 (modesOf F) 0 k 81 (callC T F k) (ending T Try.f20 an20 0 K) (bodyOf Try.f20) ⟨argEnv 0 [.agg [.val [] (.int .i64) a0, .val [] (.int .i64) a1, .val [] .str a2, .val [] (.int .i64) a3, .val [] (.int .i64) a4, .val [] (.int .i64) a5, .val [(0, 0)] (.slice (.int .u8)) a6, .val [(0, 0)] (.slice (.prod (.int .i64) (.prod (.int .i64) .unit))) a7, .val [] .bool a8]] (fun _ => none), rowsOf []⟩ (ending T Try.f20 an20 0 K) (fun _ _ => none) from by kernel_rfl) ?_
    rw [← S20_eq k, ← execS_eq T an20 (modesOf F) 0 k 81 (S20 k) (L20 k K) (bodyOf Try.f20) (cuts_of _ _ _ _ _ _ _ _ (bodyOf Try.f20) (l := [(1000015, sp20_1000015, cd20_1000015)]) (by kernel_rfl) ⟨l20_1000015 k K, trivial⟩)]
    kernel_rfl
noncomputable def s20 (k : Nat) (a : List PV) (r : List RowS) (K : List PV → List RowS → Option R) : Option R :=
  onShape [.agg [.val [] (.int .i64), .val [] (.int .i64), .val [] .str, .val [] (.int .i64), .val [] (.int .i64), .val [] (.int .i64), .val [(0, 0)] (.slice (.int .u8)), .val [(0, 0)] (.slice (.prod (.int .i64) (.prod (.int .i64) .unit))), .val [] .bool]] [] (fun v => f20 k v.1.1.1 v.1.1.2.1 v.1.1.2.2.1 v.1.1.2.2.2.1 v.1.1.2.2.2.2.1 v.1.1.2.2.2.2.2.1 v.1.1.2.2.2.2.2.2.1 v.1.1.2.2.2.2.2.2.2.1 v.1.1.2.2.2.2.2.2.2.2.1 (fun z0 => K [.val [] (.int .i64) z0] [])) (callC T F k 20 a r K) a r
theorem s20_eq (k : Nat) (a : List PV) (r : List RowS) (K : List PV → List RowS → Option R) : s20 k a r K = callC T F k 20 a r K := by
  unfold s20
  exact onShape_eq (a := [.agg [.val [] (.int .i64), .val [] (.int .i64), .val [] .str, .val [] (.int .i64), .val [] (.int .i64), .val [] (.int .i64), .val [(0, 0)] (.slice (.int .u8)), .val [(0, 0)] (.slice (.prod (.int .i64) (.prod (.int .i64) .unit))), .val [] .bool]]) (b := []) (G := fun a r => callC T F k 20 a r K) (fun x y => Eq.trans (by kernel_rfl) (Eq.trans (e20 k x.1.1 x.1.2.1 x.1.2.2.1 x.1.2.2.2.1 x.1.2.2.2.2.1 x.1.2.2.2.2.2.1 x.1.2.2.2.2.2.2.1 x.1.2.2.2.2.2.2.2.1 x.1.2.2.2.2.2.2.2.2.1 K).symm (by kernel_rfl))) a r
end
section
variable {R : Type}
noncomputable def S72 (k g : Nat) (a : List PV) (r : List RowS) (K : List PV → List RowS → Option R) : Option R := callC T F k g a r K
theorem S72_eq (k : Nat) : S72 (R := R) k = callC T F k := by
  funext g a r K
  exact rfl
theorem e72 (k : Nat) (a0 : Int) (a1 : Int) (a2 : Int) (K : List PV → List RowS → Option R) : callC T F k 72 [.val [] (.int .i64) a0, .val [] (.int .i64) a1, .val [] (.int .i64) a2] [] K = f72 k a0 a1 a2 (fun z0 => K [.val [] .bool z0] []) := by
  rw [f72_def]
  cases k with
  | zero => rfl
  | succ k =>
    refine Eq.trans (show _ = exec T an72 (modesOf F) 0 k 15 (callC T F k) (ending T Try.f72 an72 0 K) (bodyOf Try.f72) ⟨argEnv 0 [.val [] (.int .i64) a0, .val [] (.int .i64) a1, .val [] (.int .i64) a2] (fun _ => none), rowsOf []⟩ (ending T Try.f72 an72 0 K) (fun _ _ => none) from by kernel_rfl) ?_
    rw [← S72_eq k, ← execS_eq T an72 (modesOf F) 0 k 15 (S72 k) (fun _ _ _ _ _ => none) (bodyOf Try.f72) (cuts_of _ _ _ _ _ _ _ _ (bodyOf Try.f72) (l := []) (by kernel_rfl) trivial)]
    kernel_rfl
noncomputable def s72 (k : Nat) (a : List PV) (r : List RowS) (K : List PV → List RowS → Option R) : Option R :=
  onShape [.val [] (.int .i64), .val [] (.int .i64), .val [] (.int .i64)] [] (fun v => f72 k v.1.1 v.1.2.1 v.1.2.2.1 (fun z0 => K [.val [] .bool z0] [])) (callC T F k 72 a r K) a r
theorem s72_eq (k : Nat) (a : List PV) (r : List RowS) (K : List PV → List RowS → Option R) : s72 k a r K = callC T F k 72 a r K := by
  unfold s72
  exact onShape_eq (a := [.val [] (.int .i64), .val [] (.int .i64), .val [] (.int .i64)]) (b := []) (G := fun a r => callC T F k 72 a r K) (fun x y => Eq.trans (by kernel_rfl) (Eq.trans (e72 k x.1 x.2.1 x.2.2.1 K).symm (by kernel_rfl))) a r
end
section
variable {R : Type}
noncomputable def S73 (k g : Nat) (a : List PV) (r : List RowS) (K : List PV → List RowS → Option R) : Option R := callC T F k g a r K
theorem S73_eq (k : Nat) : S73 (R := R) k = callC T F k := by
  funext g a r K
  exact rfl
theorem e73 (k : Nat) (a0 : Int) (a1 : Int) (a2 : ByteArray) (a3 : Int) (a4 : Int) (a5 : Int) (a6 : List Int) (a7 : List ((Int × (Int × Unit)))) (a8 : Bool) (K : List PV → List RowS → Option R) : callC T F k 73 [.agg [.val [] (.int .i64) a0, .val [] (.int .i64) a1, .val [] .str a2, .val [] (.int .i64) a3, .val [] (.int .i64) a4, .val [] (.int .i64) a5, .val [(0, 0)] (.slice (.int .u8)) a6, .val [(0, 0)] (.slice (.prod (.int .i64) (.prod (.int .i64) .unit))) a7, .val [] .bool a8]] [] K = f73 k a0 a1 a2 a3 a4 a5 a6 a7 a8 (fun z0 => K [.val [] .bool z0] []) := by
  rw [f73_def]
  cases k with
  | zero => rfl
  | succ k =>
    refine Eq.trans (show _ = exec T an73 (modesOf F) 0 k 72 (callC T F k) (ending T Try.f73 an73 0 K) (bodyOf Try.f73) ⟨argEnv 0 [.agg [.val [] (.int .i64) a0, .val [] (.int .i64) a1, .val [] .str a2, .val [] (.int .i64) a3, .val [] (.int .i64) a4, .val [] (.int .i64) a5, .val [(0, 0)] (.slice (.int .u8)) a6, .val [(0, 0)] (.slice (.prod (.int .i64) (.prod (.int .i64) .unit))) a7, .val [] .bool a8]] (fun _ => none), rowsOf []⟩ (ending T Try.f73 an73 0 K) (fun _ _ => none) from by kernel_rfl) ?_
    rw [← S73_eq k, ← execS_eq T an73 (modesOf F) 0 k 72 (S73 k) (fun _ _ _ _ _ => none) (bodyOf Try.f73) (cuts_of _ _ _ _ _ _ _ _ (bodyOf Try.f73) (l := []) (by kernel_rfl) trivial)]
    kernel_rfl
noncomputable def s73 (k : Nat) (a : List PV) (r : List RowS) (K : List PV → List RowS → Option R) : Option R :=
  onShape [.agg [.val [] (.int .i64), .val [] (.int .i64), .val [] .str, .val [] (.int .i64), .val [] (.int .i64), .val [] (.int .i64), .val [(0, 0)] (.slice (.int .u8)), .val [(0, 0)] (.slice (.prod (.int .i64) (.prod (.int .i64) .unit))), .val [] .bool]] [] (fun v => f73 k v.1.1.1 v.1.1.2.1 v.1.1.2.2.1 v.1.1.2.2.2.1 v.1.1.2.2.2.2.1 v.1.1.2.2.2.2.2.1 v.1.1.2.2.2.2.2.2.1 v.1.1.2.2.2.2.2.2.2.1 v.1.1.2.2.2.2.2.2.2.2.1 (fun z0 => K [.val [] .bool z0] [])) (callC T F k 73 a r K) a r
theorem s73_eq (k : Nat) (a : List PV) (r : List RowS) (K : List PV → List RowS → Option R) : s73 k a r K = callC T F k 73 a r K := by
  unfold s73
  exact onShape_eq (a := [.agg [.val [] (.int .i64), .val [] (.int .i64), .val [] .str, .val [] (.int .i64), .val [] (.int .i64), .val [] (.int .i64), .val [(0, 0)] (.slice (.int .u8)), .val [(0, 0)] (.slice (.prod (.int .i64) (.prod (.int .i64) .unit))), .val [] .bool]]) (b := []) (G := fun a r => callC T F k 73 a r K) (fun x y => Eq.trans (by kernel_rfl) (Eq.trans (e73 k x.1.1 x.1.2.1 x.1.2.2.1 x.1.2.2.2.1 x.1.2.2.2.2.1 x.1.2.2.2.2.2.1 x.1.2.2.2.2.2.2.1 x.1.2.2.2.2.2.2.2.1 x.1.2.2.2.2.2.2.2.2.1 K).symm (by kernel_rfl))) a r
end
section
variable {R : Type}
noncomputable def S105 (k g : Nat) (a : List PV) (r : List RowS) (K : List PV → List RowS → Option R) : Option R := callC T F k g a r K
theorem S105_eq (k : Nat) : S105 (R := R) k = callC T F k := by
  funext g a r K
  exact rfl
theorem e105 (k : Nat) (a0 : Int) (a1 : Int) (a2 : Int) (K : List PV → List RowS → Option R) : callC T F k 105 [.val [] (.int .i64) a0, .val [] (.int .i64) a1, .val [] (.int .i64) a2] [] K = f105 k a0 a1 a2 (fun z0 => K [.val [] .bool z0] []) := by
  rw [f105_def]
  cases k with
  | zero => rfl
  | succ k =>
    refine Eq.trans (show _ = exec T an105 (modesOf F) 0 k 15 (callC T F k) (ending T Try.f105 an105 0 K) (bodyOf Try.f105) ⟨argEnv 0 [.val [] (.int .i64) a0, .val [] (.int .i64) a1, .val [] (.int .i64) a2] (fun _ => none), rowsOf []⟩ (ending T Try.f105 an105 0 K) (fun _ _ => none) from by kernel_rfl) ?_
    rw [← S105_eq k, ← execS_eq T an105 (modesOf F) 0 k 15 (S105 k) (fun _ _ _ _ _ => none) (bodyOf Try.f105) (cuts_of _ _ _ _ _ _ _ _ (bodyOf Try.f105) (l := []) (by kernel_rfl) trivial)]
    kernel_rfl
noncomputable def s105 (k : Nat) (a : List PV) (r : List RowS) (K : List PV → List RowS → Option R) : Option R :=
  onShape [.val [] (.int .i64), .val [] (.int .i64), .val [] (.int .i64)] [] (fun v => f105 k v.1.1 v.1.2.1 v.1.2.2.1 (fun z0 => K [.val [] .bool z0] [])) (callC T F k 105 a r K) a r
theorem s105_eq (k : Nat) (a : List PV) (r : List RowS) (K : List PV → List RowS → Option R) : s105 k a r K = callC T F k 105 a r K := by
  unfold s105
  exact onShape_eq (a := [.val [] (.int .i64), .val [] (.int .i64), .val [] (.int .i64)]) (b := []) (G := fun a r => callC T F k 105 a r K) (fun x y => Eq.trans (by kernel_rfl) (Eq.trans (e105 k x.1 x.2.1 x.2.2.1 K).symm (by kernel_rfl))) a r
end
section
variable {R : Type}
noncomputable def S74 (k g : Nat) (a : List PV) (r : List RowS) (K : List PV → List RowS → Option R) : Option R := bif g == 105 then s105 k a r K else callC T F k g a r K
theorem S74_eq (k : Nat) : S74 (R := R) k = callC T F k := by
  funext g a r K
  exact pick_eq (fun e => by subst e; exact s105_eq k a r K) (rfl)
section
variable {R : Type} (k : Nat) (K : List PV → List RowS → Option R)
noncomputable def L74_0 (ws : List PV) (rs : List RowS) (N : St → Option R) (X : Nat → St → Option R) : Option R :=
  onShape [.val [] .str, .val [] (.int .i64)] [] (fun v => f74_0 k (fun z0 => K [.val [] .bool z0] []) (N (sh jn74_0 [.val [] .str v.1.1] [])) v.1.1 k v.1.2.1) (inner T an74 (modesOf F) 0 k 47 (S74 k) (ending T Try.f74 an74 0 K) cd74_0 (sh sp74_0 ws rs) N X) ws rs
noncomputable def L74 (id : Nat) (ws : List PV) (rs : List RowS) (N : St → Option R) (X : Nat → St → Option R) : Option R := bif id == 0 then L74_0 k K ws rs N X else none
theorem b74_0 (rec : St → Option R) (N : St → Option R) (X : Nat → St → Option R) (v0_0 : ByteArray) (v0_1 : Int) :
    execS T an74 (modesOf F) 0 k 47 (S74 k) (L74 k K) (ending T Try.f74 an74 0 K) bd74_0 (sh sp74_0 [.val [] .str v0_0, .val [] (.int .i64) v0_1] []) (fun st => atHead an74 0 bd74_0 st rec) (outX an74 0 0 N X) =
      f74_0b k (fun v0_1 => rec (sh sp74_0 [.val [] .str v0_0, .val [] (.int .i64) v0_1] [])) (fun z0 => K [.val [] .bool z0] []) (N (sh jn74_0 [.val [] .str v0_0] [])) v0_0 v0_1 := by kernel_rfl
theorem i74_0 (N : St → Option R) (X : Nat → St → Option R) (v0_0 : ByteArray) (m : Nat) : ∀ (v0_1 : Int),
    iter (atHead an74 0 bd74_0) m (fun st N' => exec T an74 (modesOf F) 0 k 47 (S74 k) (ending T Try.f74 an74 0 K) bd74_0 st N' (outX an74 0 0 N X)) (sh sp74_0 [.val [] .str v0_0, .val [] (.int .i64) v0_1] []) = f74_0d k (fun z0 => K [.val [] .bool z0] []) (N (sh jn74_0 [.val [] .str v0_0] [])) v0_0 m v0_1 := by
  induction m with
  | zero => intros; rfl
  | succ m ih =>
    intro v0_1
    simp only [iter]
    rw [← execS_eq T an74 (modesOf F) 0 k 47 (S74 k) (L74 k K) bd74_0 (cuts_of _ _ _ _ _ _ _ _ bd74_0 (l := []) (by kernel_rfl) trivial)]
    refine (b74_0 k K _ N X v0_0 v0_1).trans ?_
    simp only [f74_0d, ih]
theorem l74_0 (ws : List PV) (rs : List RowS) (N : St → Option R) (X : Nat → St → Option R) : L74 k K 0 ws rs N X = inner T an74 (modesOf F) 0 k 47 (S74 k) (ending T Try.f74 an74 0 K) cd74_0 (sh sp74_0 ws rs) N X := by
  show L74_0 k K ws rs N X = _
  unfold L74_0
  rw [f74_0_def]
  exact onShape_eq (a := [.val [] .str, .val [] (.int .i64)]) (b := []) (G := fun ws rs => inner T an74 (modesOf F) 0 k 47 (S74 k) (ending T Try.f74 an74 0 K) cd74_0 (sh sp74_0 ws rs) N X) (fun x y => Eq.trans (by kernel_rfl) (Eq.trans (i74_0 k K N X x.1 k x.2.1).symm (by kernel_rfl))) ws rs
end
theorem e74 (k : Nat) (a0 : ByteArray) (K : List PV → List RowS → Option R) : callC T F k 74 [.val [] .str a0] [] K = f74 k a0 (fun z0 => K [.val [] .bool z0] []) := by
  rw [f74_def]
  cases k with
  | zero => rfl
  | succ k =>
    refine Eq.trans (show _ = exec T an74 (modesOf F) 0 k 47 (callC T F k) (ending T Try.f74 an74 0 K) (bodyOf Try.f74) ⟨argEnv 0 [.val [] .str a0] (fun _ => none), rowsOf []⟩ (ending T Try.f74 an74 0 K) (fun _ _ => none) from by kernel_rfl) ?_
    rw [← S74_eq k, ← execS_eq T an74 (modesOf F) 0 k 47 (S74 k) (L74 k K) (bodyOf Try.f74) (cuts_of _ _ _ _ _ _ _ _ (bodyOf Try.f74) (l := [(0, sp74_0, cd74_0)]) (by kernel_rfl) ⟨l74_0 k K, trivial⟩)]
    kernel_rfl
noncomputable def s74 (k : Nat) (a : List PV) (r : List RowS) (K : List PV → List RowS → Option R) : Option R :=
  onShape [.val [] .str] [] (fun v => f74 k v.1.1 (fun z0 => K [.val [] .bool z0] [])) (callC T F k 74 a r K) a r
theorem s74_eq (k : Nat) (a : List PV) (r : List RowS) (K : List PV → List RowS → Option R) : s74 k a r K = callC T F k 74 a r K := by
  unfold s74
  exact onShape_eq (a := [.val [] .str]) (b := []) (G := fun a r => callC T F k 74 a r K) (fun x y => Eq.trans (by kernel_rfl) (Eq.trans (e74 k x.1 K).symm (by kernel_rfl))) a r
end
section
variable {R : Type}
noncomputable def S106 (k g : Nat) (a : List PV) (r : List RowS) (K : List PV → List RowS → Option R) : Option R := callC T F k g a r K
theorem S106_eq (k : Nat) : S106 (R := R) k = callC T F k := by
  funext g a r K
  exact rfl
theorem e106 (k : Nat) (K : List PV → List RowS → Option R) : callC T F k 106 [] [] K = f106 k (fun z0 z1 => K [.agg [.val [] (.int .i64) z0, .val [] (.int .i64) z1]] []) := by
  rw [f106_def]
  cases k with
  | zero => rfl
  | succ k =>
    refine Eq.trans (show _ = exec T an106 (modesOf F) 0 k 2 (callC T F k) (ending T Try.f106 an106 0 K) (bodyOf Try.f106) ⟨argEnv 0 [] (fun _ => none), rowsOf []⟩ (ending T Try.f106 an106 0 K) (fun _ _ => none) from by kernel_rfl) ?_
    rw [← S106_eq k, ← execS_eq T an106 (modesOf F) 0 k 2 (S106 k) (fun _ _ _ _ _ => none) (bodyOf Try.f106) (cuts_of _ _ _ _ _ _ _ _ (bodyOf Try.f106) (l := []) (by kernel_rfl) trivial)]
    kernel_rfl
noncomputable def s106 (k : Nat) (a : List PV) (r : List RowS) (K : List PV → List RowS → Option R) : Option R :=
  onShape [] [] (fun v => f106 k (fun z0 z1 => K [.agg [.val [] (.int .i64) z0, .val [] (.int .i64) z1]] [])) (callC T F k 106 a r K) a r
theorem s106_eq (k : Nat) (a : List PV) (r : List RowS) (K : List PV → List RowS → Option R) : s106 k a r K = callC T F k 106 a r K := by
  unfold s106
  exact onShape_eq (a := []) (b := []) (G := fun a r => callC T F k 106 a r K) (fun x y => Eq.trans (by kernel_rfl) (Eq.trans (e106 k K).symm (by kernel_rfl))) a r
end
section
variable {R : Type}
noncomputable def S75 (k g : Nat) (a : List PV) (r : List RowS) (K : List PV → List RowS → Option R) : Option R := bif g == 106 then s106 k a r K else callC T F k g a r K
theorem S75_eq (k : Nat) : S75 (R := R) k = callC T F k := by
  funext g a r K
  exact pick_eq (fun e => by subst e; exact s106_eq k a r K) (rfl)
theorem e75 (k : Nat) (a0 : List ((Int × (Int × Unit)))) (K : List PV → List RowS → Option R) : callC T F k 75 [.val [(0, 0)] (.slice (.prod (.int .i64) (.prod (.int .i64) .unit))) a0] [] K = f75 k a0 (fun z0 z1 => K [.val [] .bool z0, .val [(0, 0)] (.slice (.prod (.int .i64) (.prod (.int .i64) .unit))) z1] []) := by
  rw [f75_def]
  cases k with
  | zero => rfl
  | succ k =>
    refine Eq.trans (show _ = exec T an75 (modesOf F) 0 k 17 (callC T F k) (ending T Try.f75 an75 0 K) (bodyOf Try.f75) ⟨argEnv 0 [.val [(0, 0)] (.slice (.prod (.int .i64) (.prod (.int .i64) .unit))) a0] (fun _ => none), rowsOf []⟩ (ending T Try.f75 an75 0 K) (fun _ _ => none) from by kernel_rfl) ?_
    rw [← S75_eq k, ← execS_eq T an75 (modesOf F) 0 k 17 (S75 k) (fun _ _ _ _ _ => none) (bodyOf Try.f75) (cuts_of _ _ _ _ _ _ _ _ (bodyOf Try.f75) (l := []) (by kernel_rfl) trivial)]
    kernel_rfl
noncomputable def s75 (k : Nat) (a : List PV) (r : List RowS) (K : List PV → List RowS → Option R) : Option R :=
  onShape [.val [(0, 0)] (.slice (.prod (.int .i64) (.prod (.int .i64) .unit)))] [] (fun v => f75 k v.1.1 (fun z0 z1 => K [.val [] .bool z0, .val [(0, 0)] (.slice (.prod (.int .i64) (.prod (.int .i64) .unit))) z1] [])) (callC T F k 75 a r K) a r
theorem s75_eq (k : Nat) (a : List PV) (r : List RowS) (K : List PV → List RowS → Option R) : s75 k a r K = callC T F k 75 a r K := by
  unfold s75
  exact onShape_eq (a := [.val [(0, 0)] (.slice (.prod (.int .i64) (.prod (.int .i64) .unit)))]) (b := []) (G := fun a r => callC T F k 75 a r K) (fun x y => Eq.trans (by kernel_rfl) (Eq.trans (e75 k x.1 K).symm (by kernel_rfl))) a r
end
section
variable {R : Type}
noncomputable def S46 (k g : Nat) (a : List PV) (r : List RowS) (K : List PV → List RowS → Option R) : Option R := bif g == 72 then s72 k a r K else callC T F k g a r K
theorem S46_eq (k : Nat) : S46 (R := R) k = callC T F k := by
  funext g a r K
  exact pick_eq (fun e => by subst e; exact s72_eq k a r K) (rfl)
section
variable {R : Type} (k : Nat) (K : List PV → List RowS → Option R)
noncomputable def L46_0 (ws : List PV) (rs : List RowS) (N : St → Option R) (X : Nat → St → Option R) : Option R :=
  onShape [.val [(0, 0)] (.slice (.prod (.int .i64) (.prod (.int .i64) .unit))), .val [] (.int .i64), .val [] (.int .i64)] [] (fun v => f46_0 k (fun z0 => K [.val [] (.int .i64) z0] []) (N (sh jn46_0 [] [])) v.1.1 v.1.2.1 k v.1.2.2.1) (inner T an46 (modesOf F) 0 k 60 (S46 k) (ending T Try.f46 an46 0 K) cd46_0 (sh sp46_0 ws rs) N X) ws rs
noncomputable def L46 (id : Nat) (ws : List PV) (rs : List RowS) (N : St → Option R) (X : Nat → St → Option R) : Option R := bif id == 0 then L46_0 k K ws rs N X else none
theorem b46_0 (rec : St → Option R) (N : St → Option R) (X : Nat → St → Option R) (v0_0 : List ((Int × (Int × Unit)))) (v0_1 : Int) (v0_2 : Int) :
    execS T an46 (modesOf F) 0 k 60 (S46 k) (L46 k K) (ending T Try.f46 an46 0 K) bd46_0 (sh sp46_0 [.val [(0, 0)] (.slice (.prod (.int .i64) (.prod (.int .i64) .unit))) v0_0, .val [] (.int .i64) v0_1, .val [] (.int .i64) v0_2] []) (fun st => atHead an46 0 bd46_0 st rec) (outX an46 0 0 N X) =
      f46_0b k (fun v0_2 => rec (sh sp46_0 [.val [(0, 0)] (.slice (.prod (.int .i64) (.prod (.int .i64) .unit))) v0_0, .val [] (.int .i64) v0_1, .val [] (.int .i64) v0_2] [])) (fun z0 => K [.val [] (.int .i64) z0] []) (N (sh jn46_0 [] [])) v0_0 v0_1 v0_2 := by kernel_rfl
theorem i46_0 (N : St → Option R) (X : Nat → St → Option R) (v0_0 : List ((Int × (Int × Unit)))) (v0_1 : Int) (m : Nat) : ∀ (v0_2 : Int),
    iter (atHead an46 0 bd46_0) m (fun st N' => exec T an46 (modesOf F) 0 k 60 (S46 k) (ending T Try.f46 an46 0 K) bd46_0 st N' (outX an46 0 0 N X)) (sh sp46_0 [.val [(0, 0)] (.slice (.prod (.int .i64) (.prod (.int .i64) .unit))) v0_0, .val [] (.int .i64) v0_1, .val [] (.int .i64) v0_2] []) = f46_0d k (fun z0 => K [.val [] (.int .i64) z0] []) (N (sh jn46_0 [] [])) v0_0 v0_1 m v0_2 := by
  induction m with
  | zero => intros; rfl
  | succ m ih =>
    intro v0_2
    simp only [iter]
    rw [← execS_eq T an46 (modesOf F) 0 k 60 (S46 k) (L46 k K) bd46_0 (cuts_of _ _ _ _ _ _ _ _ bd46_0 (l := []) (by kernel_rfl) trivial)]
    refine (b46_0 k K _ N X v0_0 v0_1 v0_2).trans ?_
    simp only [f46_0d, ih]
theorem l46_0 (ws : List PV) (rs : List RowS) (N : St → Option R) (X : Nat → St → Option R) : L46 k K 0 ws rs N X = inner T an46 (modesOf F) 0 k 60 (S46 k) (ending T Try.f46 an46 0 K) cd46_0 (sh sp46_0 ws rs) N X := by
  show L46_0 k K ws rs N X = _
  unfold L46_0
  rw [f46_0_def]
  exact onShape_eq (a := [.val [(0, 0)] (.slice (.prod (.int .i64) (.prod (.int .i64) .unit))), .val [] (.int .i64), .val [] (.int .i64)]) (b := []) (G := fun ws rs => inner T an46 (modesOf F) 0 k 60 (S46 k) (ending T Try.f46 an46 0 K) cd46_0 (sh sp46_0 ws rs) N X) (fun x y => Eq.trans (by kernel_rfl) (Eq.trans (i46_0 k K N X x.1 x.2.1 k x.2.2.1).symm (by kernel_rfl))) ws rs
end
theorem e46 (k : Nat) (a0 : List ((Int × (Int × Unit)))) (a1 : Int) (K : List PV → List RowS → Option R) : callC T F k 46 [.val [(0, 0)] (.slice (.prod (.int .i64) (.prod (.int .i64) .unit))) a0, .val [] (.int .i64) a1] [] K = f46 k a0 a1 (fun z0 => K [.val [] (.int .i64) z0] []) := by
  rw [f46_def]
  cases k with
  | zero => rfl
  | succ k =>
    refine Eq.trans (show _ = exec T an46 (modesOf F) 0 k 60 (callC T F k) (ending T Try.f46 an46 0 K) (bodyOf Try.f46) ⟨argEnv 0 [.val [(0, 0)] (.slice (.prod (.int .i64) (.prod (.int .i64) .unit))) a0, .val [] (.int .i64) a1] (fun _ => none), rowsOf []⟩ (ending T Try.f46 an46 0 K) (fun _ _ => none) from by kernel_rfl) ?_
    rw [← S46_eq k, ← execS_eq T an46 (modesOf F) 0 k 60 (S46 k) (L46 k K) (bodyOf Try.f46) (cuts_of _ _ _ _ _ _ _ _ (bodyOf Try.f46) (l := [(0, sp46_0, cd46_0)]) (by kernel_rfl) ⟨l46_0 k K, trivial⟩)]
    kernel_rfl
noncomputable def s46 (k : Nat) (a : List PV) (r : List RowS) (K : List PV → List RowS → Option R) : Option R :=
  onShape [.val [(0, 0)] (.slice (.prod (.int .i64) (.prod (.int .i64) .unit))), .val [] (.int .i64)] [] (fun v => f46 k v.1.1 v.1.2.1 (fun z0 => K [.val [] (.int .i64) z0] [])) (callC T F k 46 a r K) a r
theorem s46_eq (k : Nat) (a : List PV) (r : List RowS) (K : List PV → List RowS → Option R) : s46 k a r K = callC T F k 46 a r K := by
  unfold s46
  exact onShape_eq (a := [.val [(0, 0)] (.slice (.prod (.int .i64) (.prod (.int .i64) .unit))), .val [] (.int .i64)]) (b := []) (G := fun a r => callC T F k 46 a r K) (fun x y => Eq.trans (by kernel_rfl) (Eq.trans (e46 k x.1 x.2.1 K).symm (by kernel_rfl))) a r
end
section
variable {R : Type}
noncomputable def S21 (k g : Nat) (a : List PV) (r : List RowS) (K : List PV → List RowS → Option R) : Option R := bif g == 46 then s46 k a r K else bif g == 72 then s72 k a r K else bif g == 73 then s73 k a r K else bif g == 74 then s74 k a r K else bif g == 75 then s75 k a r K else callC T F k g a r K
theorem S21_eq (k : Nat) : S21 (R := R) k = callC T F k := by
  funext g a r K
  exact pick_eq (fun e => by subst e; exact s46_eq k a r K) (pick_eq (fun e => by subst e; exact s72_eq k a r K) (pick_eq (fun e => by subst e; exact s73_eq k a r K) (pick_eq (fun e => by subst e; exact s74_eq k a r K) (pick_eq (fun e => by subst e; exact s75_eq k a r K) (rfl)))))
section
variable {R : Type} (k : Nat) (K : List PV → List RowS → Option R)
noncomputable def L21_1000009 (ws : List PV) (rs : List RowS) (N : St → Option R) (X : Nat → St → Option R) : Option R :=
  onShape [.ptr 1 0, .val [] (.int .i64), .val [] .bool] [.vars [.val [] (.int .i64), .val [] (.int .i64), .val [] .str, .val [] (.int .i64), .val [] (.int .i64), .val [] (.int .i64), .val [(0, 0)] (.slice (.int .u8)), .val [(0, 0)] (.slice (.prod (.int .i64) (.prod (.int .i64) .unit))), .val [] .bool]] (fun v => f21_1000009 k (fun yN_1 => N (sh fi21_9 [.ptr 1 0, .val [] (.int .i64) v.1.2.1, .val [] .bool yN_1] [⟨0, .vars [.val [] (.int .i64) v.2.1.1, .val [] (.int .i64) v.2.1.2.1, .val [] .str v.2.1.2.2.1, .val [] (.int .i64) v.2.1.2.2.2.1, .val [] (.int .i64) v.2.1.2.2.2.2.1, .val [] (.int .i64) v.2.1.2.2.2.2.2.1, .val [(0, 0)] (.slice (.int .u8)) v.2.1.2.2.2.2.2.2.1, .val [(0, 0)] (.slice (.prod (.int .i64) (.prod (.int .i64) .unit))) v.2.1.2.2.2.2.2.2.2.1, .val [] .bool v.2.1.2.2.2.2.2.2.2.2.1]⟩])) v.1.2.1 v.1.2.2.1 v.2.1.1 v.2.1.2.1 v.2.1.2.2.1 v.2.1.2.2.2.1 v.2.1.2.2.2.2.1 v.2.1.2.2.2.2.2.1 v.2.1.2.2.2.2.2.2.1 v.2.1.2.2.2.2.2.2.2.1 v.2.1.2.2.2.2.2.2.2.2.1) (inner T an21 (modesOf F) 0 k 77 (S21 k) (ending T Try.f21 an21 0 K) cd21_1000009 (sh sp21_1000009 ws rs) N X) ws rs
noncomputable def L21_1000015 (ws : List PV) (rs : List RowS) (N : St → Option R) (X : Nat → St → Option R) : Option R :=
  onShape [.ptr 1 0, .val [] (.int .i64), .val [] .bool] [.vars [.val [] (.int .i64), .val [] (.int .i64), .val [] .str, .val [] (.int .i64), .val [] (.int .i64), .val [] (.int .i64), .val [(0, 0)] (.slice (.int .u8)), .val [(0, 0)] (.slice (.prod (.int .i64) (.prod (.int .i64) .unit))), .val [] .bool]] (fun v => f21_1000015 k (fun z0 => K [.val [] (.int .i64) z0] []) (N (sh fi21_15 [] [])) v.1.2.1 v.1.2.2.1 v.2.1.1 v.2.1.2.1 v.2.1.2.2.1 v.2.1.2.2.2.1 v.2.1.2.2.2.2.1 v.2.1.2.2.2.2.2.1 v.2.1.2.2.2.2.2.2.1 v.2.1.2.2.2.2.2.2.2.1 v.2.1.2.2.2.2.2.2.2.2.1) (inner T an21 (modesOf F) 0 k 77 (S21 k) (ending T Try.f21 an21 0 K) cd21_1000015 (sh sp21_1000015 ws rs) N X) ws rs
noncomputable def L21_1000010 (ws : List PV) (rs : List RowS) (N : St → Option R) (X : Nat → St → Option R) : Option R :=
  onShape [.ptr 1 0, .val [] (.int .i64), .val [] .bool] [.vars [.val [] (.int .i64), .val [] (.int .i64), .val [] .str, .val [] (.int .i64), .val [] (.int .i64), .val [] (.int .i64), .val [(0, 0)] (.slice (.int .u8)), .val [(0, 0)] (.slice (.prod (.int .i64) (.prod (.int .i64) .unit))), .val [] .bool]] (fun v => f21_1000010 k (fun z0 => K [.val [] (.int .i64) z0] []) (N (sh fi21_10 [] [])) v.1.2.1 v.1.2.2.1 v.2.1.1 v.2.1.2.1 v.2.1.2.2.1 v.2.1.2.2.2.1 v.2.1.2.2.2.2.1 v.2.1.2.2.2.2.2.1 v.2.1.2.2.2.2.2.2.1 v.2.1.2.2.2.2.2.2.2.1 v.2.1.2.2.2.2.2.2.2.2.1) (inner T an21 (modesOf F) 0 k 77 (S21 k) (ending T Try.f21 an21 0 K) cd21_1000010 (sh sp21_1000010 ws rs) N X) ws rs
noncomputable def L21 (id : Nat) (ws : List PV) (rs : List RowS) (N : St → Option R) (X : Nat → St → Option R) : Option R := bif id == 1000009 then L21_1000009 k K ws rs N X else bif id == 1000015 then L21_1000015 k K ws rs N X else bif id == 1000010 then L21_1000010 k K ws rs N X else none
theorem l21_1000009 (ws : List PV) (rs : List RowS) (N : St → Option R) (X : Nat → St → Option R) : L21 k K 1000009 ws rs N X = inner T an21 (modesOf F) 0 k 77 (S21 k) (ending T Try.f21 an21 0 K) cd21_1000009 (sh sp21_1000009 ws rs) N X := by
  show L21_1000009 k K ws rs N X = _
  unfold L21_1000009
  rw [f21_1000009_def]
  exact onShape_eq (a := [.ptr 1 0, .val [] (.int .i64), .val [] .bool]) (b := [.vars [.val [] (.int .i64), .val [] (.int .i64), .val [] .str, .val [] (.int .i64), .val [] (.int .i64), .val [] (.int .i64), .val [(0, 0)] (.slice (.int .u8)), .val [(0, 0)] (.slice (.prod (.int .i64) (.prod (.int .i64) .unit))), .val [] .bool]]) (G := fun ws rs => inner T an21 (modesOf F) 0 k 77 (S21 k) (ending T Try.f21 an21 0 K) cd21_1000009 (sh sp21_1000009 ws rs) N X) (fun x y => Eq.trans (by kernel_rfl) (innerS_eq T an21 (modesOf F) 0 k 77 (S21 k) (L21 k K) cd21_1000009 (l := []) (by kernel_rfl) trivial _ N X)) ws rs
theorem l21_1000015 (ws : List PV) (rs : List RowS) (N : St → Option R) (X : Nat → St → Option R) : L21 k K 1000015 ws rs N X = inner T an21 (modesOf F) 0 k 77 (S21 k) (ending T Try.f21 an21 0 K) cd21_1000015 (sh sp21_1000015 ws rs) N X := by
  show L21_1000015 k K ws rs N X = _
  unfold L21_1000015
  rw [f21_1000015_def]
  exact onShape_eq (a := [.ptr 1 0, .val [] (.int .i64), .val [] .bool]) (b := [.vars [.val [] (.int .i64), .val [] (.int .i64), .val [] .str, .val [] (.int .i64), .val [] (.int .i64), .val [] (.int .i64), .val [(0, 0)] (.slice (.int .u8)), .val [(0, 0)] (.slice (.prod (.int .i64) (.prod (.int .i64) .unit))), .val [] .bool]]) (G := fun ws rs => inner T an21 (modesOf F) 0 k 77 (S21 k) (ending T Try.f21 an21 0 K) cd21_1000015 (sh sp21_1000015 ws rs) N X) (fun x y => Eq.trans (by kernel_rfl) (innerS_eq T an21 (modesOf F) 0 k 77 (S21 k) (L21 k K) cd21_1000015 (l := []) (by kernel_rfl) trivial _ N X)) ws rs
theorem l21_1000010 (ws : List PV) (rs : List RowS) (N : St → Option R) (X : Nat → St → Option R) : L21 k K 1000010 ws rs N X = inner T an21 (modesOf F) 0 k 77 (S21 k) (ending T Try.f21 an21 0 K) cd21_1000010 (sh sp21_1000010 ws rs) N X := by
  show L21_1000010 k K ws rs N X = _
  unfold L21_1000010
  rw [f21_1000010_def]
  exact onShape_eq (a := [.ptr 1 0, .val [] (.int .i64), .val [] .bool]) (b := [.vars [.val [] (.int .i64), .val [] (.int .i64), .val [] .str, .val [] (.int .i64), .val [] (.int .i64), .val [] (.int .i64), .val [(0, 0)] (.slice (.int .u8)), .val [(0, 0)] (.slice (.prod (.int .i64) (.prod (.int .i64) .unit))), .val [] .bool]]) (G := fun ws rs => inner T an21 (modesOf F) 0 k 77 (S21 k) (ending T Try.f21 an21 0 K) cd21_1000010 (sh sp21_1000010 ws rs) N X) (fun x y => Eq.trans (by kernel_rfl) (innerS_eq T an21 (modesOf F) 0 k 77 (S21 k) (L21 k K) cd21_1000010 (l := [(1000015, sp21_1000015, cd21_1000015)]) (by kernel_rfl) ⟨l21_1000015 k K, trivial⟩ _ N X)) ws rs
end
theorem e21 (k : Nat) (a0 : Int) (a1 : Int) (a2 : ByteArray) (a3 : Int) (a4 : Int) (a5 : Int) (a6 : List Int) (a7 : List ((Int × (Int × Unit)))) (a8 : Bool) (K : List PV → List RowS → Option R) : callC T F k 21 [.agg [.val [] (.int .i64) a0, .val [] (.int .i64) a1, .val [] .str a2, .val [] (.int .i64) a3, .val [] (.int .i64) a4, .val [] (.int .i64) a5, .val [(0, 0)] (.slice (.int .u8)) a6, .val [(0, 0)] (.slice (.prod (.int .i64) (.prod (.int .i64) .unit))) a7, .val [] .bool a8]] [] K = f21 k a0 a1 a2 a3 a4 a5 a6 a7 a8 (fun z0 => K [.val [] (.int .i64) z0] []) := by
  rw [f21_def]
  cases k with
  | zero => rfl
  | succ k =>
    refine Eq.trans (show _ = exec T an21 (modesOf F) 0 k 77 (callC T F k) (ending T Try.f21 an21 0 K) (bodyOf Try.f21) ⟨argEnv 0 [.agg [.val [] (.int .i64) a0, .val [] (.int .i64) a1, .val [] .str a2, .val [] (.int .i64) a3, .val [] (.int .i64) a4, .val [] (.int .i64) a5, .val [(0, 0)] (.slice (.int .u8)) a6, .val [(0, 0)] (.slice (.prod (.int .i64) (.prod (.int .i64) .unit))) a7, .val [] .bool a8]] (fun _ => none), rowsOf []⟩ (ending T Try.f21 an21 0 K) (fun _ _ => none) from by kernel_rfl) ?_
    rw [← S21_eq k, ← execS_eq T an21 (modesOf F) 0 k 77 (S21 k) (L21 k K) (bodyOf Try.f21) (cuts_of _ _ _ _ _ _ _ _ (bodyOf Try.f21) (l := [(1000009, sp21_1000009, cd21_1000009), (1000010, sp21_1000010, cd21_1000010)]) (by kernel_rfl) ⟨l21_1000009 k K, l21_1000010 k K, trivial⟩)]
    kernel_rfl
noncomputable def s21 (k : Nat) (a : List PV) (r : List RowS) (K : List PV → List RowS → Option R) : Option R :=
  onShape [.agg [.val [] (.int .i64), .val [] (.int .i64), .val [] .str, .val [] (.int .i64), .val [] (.int .i64), .val [] (.int .i64), .val [(0, 0)] (.slice (.int .u8)), .val [(0, 0)] (.slice (.prod (.int .i64) (.prod (.int .i64) .unit))), .val [] .bool]] [] (fun v => f21 k v.1.1.1 v.1.1.2.1 v.1.1.2.2.1 v.1.1.2.2.2.1 v.1.1.2.2.2.2.1 v.1.1.2.2.2.2.2.1 v.1.1.2.2.2.2.2.2.1 v.1.1.2.2.2.2.2.2.2.1 v.1.1.2.2.2.2.2.2.2.2.1 (fun z0 => K [.val [] (.int .i64) z0] [])) (callC T F k 21 a r K) a r
theorem s21_eq (k : Nat) (a : List PV) (r : List RowS) (K : List PV → List RowS → Option R) : s21 k a r K = callC T F k 21 a r K := by
  unfold s21
  exact onShape_eq (a := [.agg [.val [] (.int .i64), .val [] (.int .i64), .val [] .str, .val [] (.int .i64), .val [] (.int .i64), .val [] (.int .i64), .val [(0, 0)] (.slice (.int .u8)), .val [(0, 0)] (.slice (.prod (.int .i64) (.prod (.int .i64) .unit))), .val [] .bool]]) (b := []) (G := fun a r => callC T F k 21 a r K) (fun x y => Eq.trans (by kernel_rfl) (Eq.trans (e21 k x.1.1 x.1.2.1 x.1.2.2.1 x.1.2.2.2.1 x.1.2.2.2.2.1 x.1.2.2.2.2.2.1 x.1.2.2.2.2.2.2.1 x.1.2.2.2.2.2.2.2.1 x.1.2.2.2.2.2.2.2.2.1 K).symm (by kernel_rfl))) a r
end
section
variable {R : Type}
noncomputable def S22 (k g : Nat) (a : List PV) (r : List RowS) (K : List PV → List RowS → Option R) : Option R := bif g == 66 then s66 k a r K else callC T F k g a r K
theorem S22_eq (k : Nat) : S22 (R := R) k = callC T F k := by
  funext g a r K
  exact pick_eq (fun e => by subst e; exact s66_eq k a r K) (rfl)
theorem e22 (k : Nat) (a0 : Int) (a1 : Int) (a2 : Int) (a3 : Int) (a4 : Int) (K : List PV → List RowS → Option R) : callC T F k 22 [.agg [.val [] (.int .i64) a0, .val [] (.int .i64) a1, .val [] (.int .i64) a2, .val [] (.int .i64) a3, .val [] (.int .i64) a4]] [] K = f22 k a0 a1 a2 a3 a4 (fun z0 => K [.val [] (.int .i64) z0] []) := by
  rw [f22_def]
  cases k with
  | zero => rfl
  | succ k =>
    refine Eq.trans (show _ = exec T an22 (modesOf F) 0 k 31 (callC T F k) (ending T Try.f22 an22 0 K) (bodyOf Try.f22) ⟨argEnv 0 [.agg [.val [] (.int .i64) a0, .val [] (.int .i64) a1, .val [] (.int .i64) a2, .val [] (.int .i64) a3, .val [] (.int .i64) a4]] (fun _ => none), rowsOf []⟩ (ending T Try.f22 an22 0 K) (fun _ _ => none) from by kernel_rfl) ?_
    rw [← S22_eq k, ← execS_eq T an22 (modesOf F) 0 k 31 (S22 k) (fun _ _ _ _ _ => none) (bodyOf Try.f22) (cuts_of _ _ _ _ _ _ _ _ (bodyOf Try.f22) (l := []) (by kernel_rfl) trivial)]
    kernel_rfl
noncomputable def s22 (k : Nat) (a : List PV) (r : List RowS) (K : List PV → List RowS → Option R) : Option R :=
  onShape [.agg [.val [] (.int .i64), .val [] (.int .i64), .val [] (.int .i64), .val [] (.int .i64), .val [] (.int .i64)]] [] (fun v => f22 k v.1.1.1 v.1.1.2.1 v.1.1.2.2.1 v.1.1.2.2.2.1 v.1.1.2.2.2.2.1 (fun z0 => K [.val [] (.int .i64) z0] [])) (callC T F k 22 a r K) a r
theorem s22_eq (k : Nat) (a : List PV) (r : List RowS) (K : List PV → List RowS → Option R) : s22 k a r K = callC T F k 22 a r K := by
  unfold s22
  exact onShape_eq (a := [.agg [.val [] (.int .i64), .val [] (.int .i64), .val [] (.int .i64), .val [] (.int .i64), .val [] (.int .i64)]]) (b := []) (G := fun a r => callC T F k 22 a r K) (fun x y => Eq.trans (by kernel_rfl) (Eq.trans (e22 k x.1.1 x.1.2.1 x.1.2.2.1 x.1.2.2.2.1 x.1.2.2.2.2.1 K).symm (by kernel_rfl))) a r
end
section
variable {R : Type}
noncomputable def S23 (k g : Nat) (a : List PV) (r : List RowS) (K : List PV → List RowS → Option R) : Option R := bif g == 72 then s72 k a r K else callC T F k g a r K
theorem S23_eq (k : Nat) : S23 (R := R) k = callC T F k := by
  funext g a r K
  exact pick_eq (fun e => by subst e; exact s72_eq k a r K) (rfl)
theorem e23 (k : Nat) (a0 : Int) (a1 : Int) (a2 : Int) (a3 : Int) (a4 : Int) (K : List PV → List RowS → Option R) : callC T F k 23 [.agg [.val [] (.int .i64) a0, .val [] (.int .i64) a1, .val [] (.int .i64) a2, .val [] (.int .i64) a3, .val [] (.int .i64) a4]] [] K = f23 k a0 a1 a2 a3 a4 (fun z0 => K [.val [] (.int .i64) z0] []) := by
  rw [f23_def]
  cases k with
  | zero => rfl
  | succ k =>
    refine Eq.trans (show _ = exec T an23 (modesOf F) 0 k 31 (callC T F k) (ending T Try.f23 an23 0 K) (bodyOf Try.f23) ⟨argEnv 0 [.agg [.val [] (.int .i64) a0, .val [] (.int .i64) a1, .val [] (.int .i64) a2, .val [] (.int .i64) a3, .val [] (.int .i64) a4]] (fun _ => none), rowsOf []⟩ (ending T Try.f23 an23 0 K) (fun _ _ => none) from by kernel_rfl) ?_
    rw [← S23_eq k, ← execS_eq T an23 (modesOf F) 0 k 31 (S23 k) (fun _ _ _ _ _ => none) (bodyOf Try.f23) (cuts_of _ _ _ _ _ _ _ _ (bodyOf Try.f23) (l := []) (by kernel_rfl) trivial)]
    kernel_rfl
noncomputable def s23 (k : Nat) (a : List PV) (r : List RowS) (K : List PV → List RowS → Option R) : Option R :=
  onShape [.agg [.val [] (.int .i64), .val [] (.int .i64), .val [] (.int .i64), .val [] (.int .i64), .val [] (.int .i64)]] [] (fun v => f23 k v.1.1.1 v.1.1.2.1 v.1.1.2.2.1 v.1.1.2.2.2.1 v.1.1.2.2.2.2.1 (fun z0 => K [.val [] (.int .i64) z0] [])) (callC T F k 23 a r K) a r
theorem s23_eq (k : Nat) (a : List PV) (r : List RowS) (K : List PV → List RowS → Option R) : s23 k a r K = callC T F k 23 a r K := by
  unfold s23
  exact onShape_eq (a := [.agg [.val [] (.int .i64), .val [] (.int .i64), .val [] (.int .i64), .val [] (.int .i64), .val [] (.int .i64)]]) (b := []) (G := fun a r => callC T F k 23 a r K) (fun x y => Eq.trans (by kernel_rfl) (Eq.trans (e23 k x.1.1 x.1.2.1 x.1.2.2.1 x.1.2.2.2.1 x.1.2.2.2.2.1 K).symm (by kernel_rfl))) a r
end
section
variable {R : Type}
noncomputable def S24 (k g : Nat) (a : List PV) (r : List RowS) (K : List PV → List RowS → Option R) : Option R := bif g == 18 then s18 k a r K else callC T F k g a r K
theorem S24_eq (k : Nat) : S24 (R := R) k = callC T F k := by
  funext g a r K
  exact pick_eq (fun e => by subst e; exact s18_eq k a r K) (rfl)
theorem e24 (k : Nat) (K : List PV → List RowS → Option R) : callC T F k 24 [] [] K = f24 k (fun z0 => K [.val [] .bool z0] []) := by
  rw [f24_def]
  cases k with
  | zero => rfl
  | succ k =>
    refine Eq.trans (show _ = exec T an24 (modesOf F) 0 k 14 (callC T F k) (ending T Try.f24 an24 0 K) (bodyOf Try.f24) ⟨argEnv 0 [] (fun _ => none), rowsOf []⟩ (ending T Try.f24 an24 0 K) (fun _ _ => none) from by kernel_rfl) ?_
    rw [← S24_eq k, ← execS_eq T an24 (modesOf F) 0 k 14 (S24 k) (fun _ _ _ _ _ => none) (bodyOf Try.f24) (cuts_of _ _ _ _ _ _ _ _ (bodyOf Try.f24) (l := []) (by kernel_rfl) trivial)]
    kernel_rfl
noncomputable def s24 (k : Nat) (a : List PV) (r : List RowS) (K : List PV → List RowS → Option R) : Option R :=
  onShape [] [] (fun v => f24 k (fun z0 => K [.val [] .bool z0] [])) (callC T F k 24 a r K) a r
theorem s24_eq (k : Nat) (a : List PV) (r : List RowS) (K : List PV → List RowS → Option R) : s24 k a r K = callC T F k 24 a r K := by
  unfold s24
  exact onShape_eq (a := []) (b := []) (G := fun a r => callC T F k 24 a r K) (fun x y => Eq.trans (by kernel_rfl) (Eq.trans (e24 k K).symm (by kernel_rfl))) a r
end
section
variable {R : Type}
noncomputable def S3 (k g : Nat) (a : List PV) (r : List RowS) (K : List PV → List RowS → Option R) : Option R := bif g == 18 then s18 k a r K else bif g == 19 then s19 k a r K else bif g == 20 then s20 k a r K else bif g == 21 then s21 k a r K else bif g == 22 then s22 k a r K else bif g == 23 then s23 k a r K else bif g == 24 then s24 k a r K else callC T F k g a r K
theorem S3_eq (k : Nat) : S3 (R := R) k = callC T F k := by
  funext g a r K
  exact pick_eq (fun e => by subst e; exact s18_eq k a r K) (pick_eq (fun e => by subst e; exact s19_eq k a r K) (pick_eq (fun e => by subst e; exact s20_eq k a r K) (pick_eq (fun e => by subst e; exact s21_eq k a r K) (pick_eq (fun e => by subst e; exact s22_eq k a r K) (pick_eq (fun e => by subst e; exact s23_eq k a r K) (pick_eq (fun e => by subst e; exact s24_eq k a r K) (rfl)))))))
theorem e3 (k : Nat) (a0 : List Int) (a1 : Int) (a2 : Int) (a3 : ByteArray) (a4 : Int) (a5 : Int) (a6 : Int) (a7 : List Int) (a8 : List ((Int × (Int × Unit)))) (a9 : Bool) (a10 : Int) (a11 : Int) (a12 : Int) (a13 : Int) (a14 : Int) (K : List PV → List RowS → Option R) : callC T F k 3 [.val [(0, 0)] (.slice (.int .u8)) a0, .agg [.val [] (.int .i64) a1, .val [] (.int .i64) a2, .val [] .str a3, .val [] (.int .i64) a4, .val [] (.int .i64) a5, .val [] (.int .i64) a6, .val [(0, 0)] (.slice (.int .u8)) a7, .val [(0, 0)] (.slice (.prod (.int .i64) (.prod (.int .i64) .unit))) a8, .val [] .bool a9], .agg [.val [] (.int .i64) a10, .val [] (.int .i64) a11, .val [] (.int .i64) a12, .val [] (.int .i64) a13, .val [] (.int .i64) a14]] [] K = f3 k a0 a1 a2 a3 a4 a5 a6 a7 a8 a9 a10 a11 a12 a13 a14 (fun z0 => K [.val [] .bool z0] []) := by
  rw [f3_def]
  cases k with
  | zero => rfl
  | succ k =>
    refine Eq.trans (show _ = exec T an3 (modesOf F) 0 k 46 (callC T F k) (ending T Try.f3 an3 0 K) (bodyOf Try.f3) ⟨argEnv 0 [.val [(0, 0)] (.slice (.int .u8)) a0, .agg [.val [] (.int .i64) a1, .val [] (.int .i64) a2, .val [] .str a3, .val [] (.int .i64) a4, .val [] (.int .i64) a5, .val [] (.int .i64) a6, .val [(0, 0)] (.slice (.int .u8)) a7, .val [(0, 0)] (.slice (.prod (.int .i64) (.prod (.int .i64) .unit))) a8, .val [] .bool a9], .agg [.val [] (.int .i64) a10, .val [] (.int .i64) a11, .val [] (.int .i64) a12, .val [] (.int .i64) a13, .val [] (.int .i64) a14]] (fun _ => none), rowsOf []⟩ (ending T Try.f3 an3 0 K) (fun _ _ => none) from by kernel_rfl) ?_
    rw [← S3_eq k, ← execS_eq T an3 (modesOf F) 0 k 46 (S3 k) (fun _ _ _ _ _ => none) (bodyOf Try.f3) (cuts_of _ _ _ _ _ _ _ _ (bodyOf Try.f3) (l := []) (by kernel_rfl) trivial)]
    kernel_rfl
noncomputable def s3 (k : Nat) (a : List PV) (r : List RowS) (K : List PV → List RowS → Option R) : Option R :=
  onShape [.val [(0, 0)] (.slice (.int .u8)), .agg [.val [] (.int .i64), .val [] (.int .i64), .val [] .str, .val [] (.int .i64), .val [] (.int .i64), .val [] (.int .i64), .val [(0, 0)] (.slice (.int .u8)), .val [(0, 0)] (.slice (.prod (.int .i64) (.prod (.int .i64) .unit))), .val [] .bool], .agg [.val [] (.int .i64), .val [] (.int .i64), .val [] (.int .i64), .val [] (.int .i64), .val [] (.int .i64)]] [] (fun v => f3 k v.1.1 v.1.2.1.1 v.1.2.1.2.1 v.1.2.1.2.2.1 v.1.2.1.2.2.2.1 v.1.2.1.2.2.2.2.1 v.1.2.1.2.2.2.2.2.1 v.1.2.1.2.2.2.2.2.2.1 v.1.2.1.2.2.2.2.2.2.2.1 v.1.2.1.2.2.2.2.2.2.2.2.1 v.1.2.2.1.1 v.1.2.2.1.2.1 v.1.2.2.1.2.2.1 v.1.2.2.1.2.2.2.1 v.1.2.2.1.2.2.2.2.1 (fun z0 => K [.val [] .bool z0] [])) (callC T F k 3 a r K) a r
theorem s3_eq (k : Nat) (a : List PV) (r : List RowS) (K : List PV → List RowS → Option R) : s3 k a r K = callC T F k 3 a r K := by
  unfold s3
  exact onShape_eq (a := [.val [(0, 0)] (.slice (.int .u8)), .agg [.val [] (.int .i64), .val [] (.int .i64), .val [] .str, .val [] (.int .i64), .val [] (.int .i64), .val [] (.int .i64), .val [(0, 0)] (.slice (.int .u8)), .val [(0, 0)] (.slice (.prod (.int .i64) (.prod (.int .i64) .unit))), .val [] .bool], .agg [.val [] (.int .i64), .val [] (.int .i64), .val [] (.int .i64), .val [] (.int .i64), .val [] (.int .i64)]]) (b := []) (G := fun a r => callC T F k 3 a r K) (fun x y => Eq.trans (by kernel_rfl) (Eq.trans (e3 k x.1 x.2.1.1 x.2.1.2.1 x.2.1.2.2.1 x.2.1.2.2.2.1 x.2.1.2.2.2.2.1 x.2.1.2.2.2.2.2.1 x.2.1.2.2.2.2.2.2.1 x.2.1.2.2.2.2.2.2.2.1 x.2.1.2.2.2.2.2.2.2.2.1 x.2.2.1.1 x.2.2.1.2.1 x.2.2.1.2.2.1 x.2.2.1.2.2.2.1 x.2.2.1.2.2.2.2.1 K).symm (by kernel_rfl))) a r
end
section
variable {R : Type}
noncomputable def S76 (k g : Nat) (a : List PV) (r : List RowS) (K : List PV → List RowS → Option R) : Option R := bif g == 66 then s66 k a r K else bif g == 68 then s68 k a r K else callC T F k g a r K
theorem S76_eq (k : Nat) : S76 (R := R) k = callC T F k := by
  funext g a r K
  exact pick_eq (fun e => by subst e; exact s66_eq k a r K) (pick_eq (fun e => by subst e; exact s68_eq k a r K) (rfl))
theorem e76 (k : Nat) (a0 : Int) (a1 : ByteArray) (a2 : List Int) (K : List PV → List RowS → Option R) : callC T F k 76 [.val [] (.int .i64) a0, .val [] .str a1, .val [(0, 0)] (.slice (.int .u8)) a2] [] K = f76 k a0 a1 a2 (fun z0 => K [.val [] (.int .i64) z0] []) := by
  rw [f76_def]
  cases k with
  | zero => rfl
  | succ k =>
    refine Eq.trans (show _ = exec T an76 (modesOf F) 0 k 19 (callC T F k) (ending T Try.f76 an76 0 K) (bodyOf Try.f76) ⟨argEnv 0 [.val [] (.int .i64) a0, .val [] .str a1, .val [(0, 0)] (.slice (.int .u8)) a2] (fun _ => none), rowsOf []⟩ (ending T Try.f76 an76 0 K) (fun _ _ => none) from by kernel_rfl) ?_
    rw [← S76_eq k, ← execS_eq T an76 (modesOf F) 0 k 19 (S76 k) (fun _ _ _ _ _ => none) (bodyOf Try.f76) (cuts_of _ _ _ _ _ _ _ _ (bodyOf Try.f76) (l := []) (by kernel_rfl) trivial)]
    kernel_rfl
noncomputable def s76 (k : Nat) (a : List PV) (r : List RowS) (K : List PV → List RowS → Option R) : Option R :=
  onShape [.val [] (.int .i64), .val [] .str, .val [(0, 0)] (.slice (.int .u8))] [] (fun v => f76 k v.1.1 v.1.2.1 v.1.2.2.1 (fun z0 => K [.val [] (.int .i64) z0] [])) (callC T F k 76 a r K) a r
theorem s76_eq (k : Nat) (a : List PV) (r : List RowS) (K : List PV → List RowS → Option R) : s76 k a r K = callC T F k 76 a r K := by
  unfold s76
  exact onShape_eq (a := [.val [] (.int .i64), .val [] .str, .val [(0, 0)] (.slice (.int .u8))]) (b := []) (G := fun a r => callC T F k 76 a r K) (fun x y => Eq.trans (by kernel_rfl) (Eq.trans (e76 k x.1 x.2.1 x.2.2.1 K).symm (by kernel_rfl))) a r
end
section
variable {R : Type}
theorem e77 (k : Nat) (a0 : List Int) (K : List PV → List RowS → Option R) : callC T F k 77 [.val [(0, 0)] (.slice (.int .u8)) a0] [] K = f77 k a0 (fun z0 => K [.rw 1] [⟨0, .arr [] (.int .u8) z0⟩]) := by
  rw [f77_def]
  cases k with
  | zero => rfl
  | succ k => exact clone_call (m := [.lend (.int .u8)]) (ty := (.int .u8)) (bytes := 1) (by kernel_rfl) a0 K
noncomputable def s77 (k : Nat) (a : List PV) (r : List RowS) (K : List PV → List RowS → Option R) : Option R :=
  onShape [.val [(0, 0)] (.slice (.int .u8))] [] (fun v => f77 k v.1.1 (fun z0 => K [.rw 1] [⟨0, .arr [] (.int .u8) z0⟩])) (callC T F k 77 a r K) a r
theorem s77_eq (k : Nat) (a : List PV) (r : List RowS) (K : List PV → List RowS → Option R) : s77 k a r K = callC T F k 77 a r K := by
  unfold s77
  exact onShape_eq (a := [.val [(0, 0)] (.slice (.int .u8))]) (b := []) (G := fun a r => callC T F k 77 a r K) (fun x y => Eq.trans (by kernel_rfl) (Eq.trans (e77 k x.1 K).symm (by kernel_rfl))) a r
end
section
variable {R : Type}
noncomputable def S25 (k g : Nat) (a : List PV) (r : List RowS) (K : List PV → List RowS → Option R) : Option R := bif g == 76 then s76 k a r K else bif g == 77 then s77 k a r K else callC T F k g a r K
theorem S25_eq (k : Nat) : S25 (R := R) k = callC T F k := by
  funext g a r K
  exact pick_eq (fun e => by subst e; exact s76_eq k a r K) (pick_eq (fun e => by subst e; exact s77_eq k a r K) (rfl))
theorem e25 (k : Nat) (a0 : Int) (a1 : ByteArray) (a2 : List Int) (K : List PV → List RowS → Option R) : callC T F k 25 [.val [] (.int .i64) a0, .val [] .str a1, .val [(0, 0)] (.slice (.int .u8)) a2] [] K = f25 k a0 a1 a2 (fun z0 z1 z2 z3 z4 z5 z6 z7 => K [.agg [.val [] (.int .i64) z0, .val [] (.int .i64) z1, .val [] .str z2, .rw 1, .val [] (.int .i64) z3, .nils, .val [] (.int .i64) z4, .val [] (.int .i64) z5], .val [] (.int .i64) z6] [⟨0, .arr [] (.int .u8) z7⟩]) := by
  rw [f25_def]
  cases k with
  | zero => rfl
  | succ k =>
    refine Eq.trans (show _ = exec T an25 (modesOf F) 0 k 22 (callC T F k) (ending T Try.f25 an25 0 K) (bodyOf Try.f25) ⟨argEnv 0 [.val [] (.int .i64) a0, .val [] .str a1, .val [(0, 0)] (.slice (.int .u8)) a2] (fun _ => none), rowsOf []⟩ (ending T Try.f25 an25 0 K) (fun _ _ => none) from by kernel_rfl) ?_
    rw [← S25_eq k, ← execS_eq T an25 (modesOf F) 0 k 22 (S25 k) (fun _ _ _ _ _ => none) (bodyOf Try.f25) (cuts_of _ _ _ _ _ _ _ _ (bodyOf Try.f25) (l := []) (by kernel_rfl) trivial)]
    kernel_rfl
noncomputable def s25 (k : Nat) (a : List PV) (r : List RowS) (K : List PV → List RowS → Option R) : Option R :=
  onShape [.val [] (.int .i64), .val [] .str, .val [(0, 0)] (.slice (.int .u8))] [] (fun v => f25 k v.1.1 v.1.2.1 v.1.2.2.1 (fun z0 z1 z2 z3 z4 z5 z6 z7 => K [.agg [.val [] (.int .i64) z0, .val [] (.int .i64) z1, .val [] .str z2, .rw 1, .val [] (.int .i64) z3, .nils, .val [] (.int .i64) z4, .val [] (.int .i64) z5], .val [] (.int .i64) z6] [⟨0, .arr [] (.int .u8) z7⟩])) (callC T F k 25 a r K) a r
theorem s25_eq (k : Nat) (a : List PV) (r : List RowS) (K : List PV → List RowS → Option R) : s25 k a r K = callC T F k 25 a r K := by
  unfold s25
  exact onShape_eq (a := [.val [] (.int .i64), .val [] .str, .val [(0, 0)] (.slice (.int .u8))]) (b := []) (G := fun a r => callC T F k 25 a r K) (fun x y => Eq.trans (by kernel_rfl) (Eq.trans (e25 k x.1 x.2.1 x.2.2.1 K).symm (by kernel_rfl))) a r
end
section
variable {R : Type}
noncomputable def S78 (k g : Nat) (a : List PV) (r : List RowS) (K : List PV → List RowS → Option R) : Option R := bif g == 72 then s72 k a r K else bif g == 74 then s74 k a r K else callC T F k g a r K
theorem S78_eq (k : Nat) : S78 (R := R) k = callC T F k := by
  funext g a r K
  exact pick_eq (fun e => by subst e; exact s72_eq k a r K) (pick_eq (fun e => by subst e; exact s74_eq k a r K) (rfl))
theorem e78 (k : Nat) (a0 : Int) (a1 : ByteArray) (a2 : List Int) (K : List PV → List RowS → Option R) : callC T F k 78 [.val [] (.int .i64) a0, .val [] .str a1, .val [(0, 0)] (.slice (.int .u8)) a2] [] K = f78 k a0 a1 a2 (fun z0 => K [.val [] (.int .i64) z0] []) := by
  rw [f78_def]
  cases k with
  | zero => rfl
  | succ k =>
    refine Eq.trans (show _ = exec T an78 (modesOf F) 0 k 16 (callC T F k) (ending T Try.f78 an78 0 K) (bodyOf Try.f78) ⟨argEnv 0 [.val [] (.int .i64) a0, .val [] .str a1, .val [(0, 0)] (.slice (.int .u8)) a2] (fun _ => none), rowsOf []⟩ (ending T Try.f78 an78 0 K) (fun _ _ => none) from by kernel_rfl) ?_
    rw [← S78_eq k, ← execS_eq T an78 (modesOf F) 0 k 16 (S78 k) (fun _ _ _ _ _ => none) (bodyOf Try.f78) (cuts_of _ _ _ _ _ _ _ _ (bodyOf Try.f78) (l := []) (by kernel_rfl) trivial)]
    kernel_rfl
noncomputable def s78 (k : Nat) (a : List PV) (r : List RowS) (K : List PV → List RowS → Option R) : Option R :=
  onShape [.val [] (.int .i64), .val [] .str, .val [(0, 0)] (.slice (.int .u8))] [] (fun v => f78 k v.1.1 v.1.2.1 v.1.2.2.1 (fun z0 => K [.val [] (.int .i64) z0] [])) (callC T F k 78 a r K) a r
theorem s78_eq (k : Nat) (a : List PV) (r : List RowS) (K : List PV → List RowS → Option R) : s78 k a r K = callC T F k 78 a r K := by
  unfold s78
  exact onShape_eq (a := [.val [] (.int .i64), .val [] .str, .val [(0, 0)] (.slice (.int .u8))]) (b := []) (G := fun a r => callC T F k 78 a r K) (fun x y => Eq.trans (by kernel_rfl) (Eq.trans (e78 k x.1 x.2.1 x.2.2.1 K).symm (by kernel_rfl))) a r
end
section
variable {R : Type}
noncomputable def S26 (k g : Nat) (a : List PV) (r : List RowS) (K : List PV → List RowS → Option R) : Option R := bif g == 78 then s78 k a r K else callC T F k g a r K
theorem S26_eq (k : Nat) : S26 (R := R) k = callC T F k := by
  funext g a r K
  exact pick_eq (fun e => by subst e; exact s78_eq k a r K) (rfl)
theorem e26 (k : Nat) (a0 : Int) (a1 : ByteArray) (a2 : List Int) (K : List PV → List RowS → Option R) : callC T F k 26 [.val [] (.int .i64) a0, .val [] .str a1, .val [(0, 0)] (.slice (.int .u8)) a2] [] K = f26 k a0 a1 a2 (fun z0 z1 z2 z3 z4 z5 z6 z7 => K [.agg [.val [] (.int .i64) z0, .val [] (.int .i64) z1, .val [] .str z2, .rw 1, .val [] (.int .i64) z3, .nils, .val [] (.int .i64) z4, .val [] (.int .i64) z5], .val [] (.int .i64) z6] [⟨0, .arr [] (.int .u8) z7⟩]) := by
  rw [f26_def]
  cases k with
  | zero => rfl
  | succ k =>
    refine Eq.trans (show _ = exec T an26 (modesOf F) 0 k 27 (callC T F k) (ending T Try.f26 an26 0 K) (bodyOf Try.f26) ⟨argEnv 0 [.val [] (.int .i64) a0, .val [] .str a1, .val [(0, 0)] (.slice (.int .u8)) a2] (fun _ => none), rowsOf []⟩ (ending T Try.f26 an26 0 K) (fun _ _ => none) from by kernel_rfl) ?_
    rw [← S26_eq k, ← execS_eq T an26 (modesOf F) 0 k 27 (S26 k) (fun _ _ _ _ _ => none) (bodyOf Try.f26) (cuts_of _ _ _ _ _ _ _ _ (bodyOf Try.f26) (l := []) (by kernel_rfl) trivial)]
    kernel_rfl
noncomputable def s26 (k : Nat) (a : List PV) (r : List RowS) (K : List PV → List RowS → Option R) : Option R :=
  onShape [.val [] (.int .i64), .val [] .str, .val [(0, 0)] (.slice (.int .u8))] [] (fun v => f26 k v.1.1 v.1.2.1 v.1.2.2.1 (fun z0 z1 z2 z3 z4 z5 z6 z7 => K [.agg [.val [] (.int .i64) z0, .val [] (.int .i64) z1, .val [] .str z2, .rw 1, .val [] (.int .i64) z3, .nils, .val [] (.int .i64) z4, .val [] (.int .i64) z5], .val [] (.int .i64) z6] [⟨0, .arr [] (.int .u8) z7⟩])) (callC T F k 26 a r K) a r
theorem s26_eq (k : Nat) (a : List PV) (r : List RowS) (K : List PV → List RowS → Option R) : s26 k a r K = callC T F k 26 a r K := by
  unfold s26
  exact onShape_eq (a := [.val [] (.int .i64), .val [] .str, .val [(0, 0)] (.slice (.int .u8))]) (b := []) (G := fun a r => callC T F k 26 a r K) (fun x y => Eq.trans (by kernel_rfl) (Eq.trans (e26 k x.1 x.2.1 x.2.2.1 K).symm (by kernel_rfl))) a r
end
section
variable {R : Type}
noncomputable def S30 (k g : Nat) (a : List PV) (r : List RowS) (K : List PV → List RowS → Option R) : Option R := bif g == 45 then s45 k a r K else bif g == 66 then s66 k a r K else bif g == 71 then s71 k a r K else bif g == 76 then s76 k a r K else callC T F k g a r K
theorem S30_eq (k : Nat) : S30 (R := R) k = callC T F k := by
  funext g a r K
  exact pick_eq (fun e => by subst e; exact s45_eq k a r K) (pick_eq (fun e => by subst e; exact s66_eq k a r K) (pick_eq (fun e => by subst e; exact s71_eq k a r K) (pick_eq (fun e => by subst e; exact s76_eq k a r K) (rfl))))
theorem e30 (k : Nat) (a0 : Int) (a1 : Int) (a2 : ByteArray) (a3 : List Int) (a4 : Int) (a5 : List ((Int × (Int × Unit)))) (a6 : Int) (a7 : Int) (K : List PV → List RowS → Option R) : callC T F k 30 [.agg [.val [] (.int .i64) a0, .val [] (.int .i64) a1, .val [] .str a2, .val [(0, 0)] (.slice (.int .u8)) a3, .val [] (.int .i64) a4, .val [(0, 0)] (.slice (.prod (.int .i64) (.prod (.int .i64) .unit))) a5, .val [] (.int .i64) a6, .val [] (.int .i64) a7]] [] K = f30 k a0 a1 a2 a3 a4 a5 a6 a7 (fun z0 => K [.val [] (.int .i64) z0] []) := by
  rw [f30_def]
  cases k with
  | zero => rfl
  | succ k =>
    refine Eq.trans (show _ = exec T an30 (modesOf F) 0 k 87 (callC T F k) (ending T Try.f30 an30 0 K) (bodyOf Try.f30) ⟨argEnv 0 [.agg [.val [] (.int .i64) a0, .val [] (.int .i64) a1, .val [] .str a2, .val [(0, 0)] (.slice (.int .u8)) a3, .val [] (.int .i64) a4, .val [(0, 0)] (.slice (.prod (.int .i64) (.prod (.int .i64) .unit))) a5, .val [] (.int .i64) a6, .val [] (.int .i64) a7]] (fun _ => none), rowsOf []⟩ (ending T Try.f30 an30 0 K) (fun _ _ => none) from by kernel_rfl) ?_
    rw [← S30_eq k, ← execS_eq T an30 (modesOf F) 0 k 87 (S30 k) (fun _ _ _ _ _ => none) (bodyOf Try.f30) (cuts_of _ _ _ _ _ _ _ _ (bodyOf Try.f30) (l := []) (by kernel_rfl) trivial)]
    kernel_rfl
noncomputable def s30 (k : Nat) (a : List PV) (r : List RowS) (K : List PV → List RowS → Option R) : Option R :=
  onShape [.agg [.val [] (.int .i64), .val [] (.int .i64), .val [] .str, .val [(0, 0)] (.slice (.int .u8)), .val [] (.int .i64), .val [(0, 0)] (.slice (.prod (.int .i64) (.prod (.int .i64) .unit))), .val [] (.int .i64), .val [] (.int .i64)]] [] (fun v => f30 k v.1.1.1 v.1.1.2.1 v.1.1.2.2.1 v.1.1.2.2.2.1 v.1.1.2.2.2.2.1 v.1.1.2.2.2.2.2.1 v.1.1.2.2.2.2.2.2.1 v.1.1.2.2.2.2.2.2.2.1 (fun z0 => K [.val [] (.int .i64) z0] [])) (callC T F k 30 a r K) a r
theorem s30_eq (k : Nat) (a : List PV) (r : List RowS) (K : List PV → List RowS → Option R) : s30 k a r K = callC T F k 30 a r K := by
  unfold s30
  exact onShape_eq (a := [.agg [.val [] (.int .i64), .val [] (.int .i64), .val [] .str, .val [(0, 0)] (.slice (.int .u8)), .val [] (.int .i64), .val [(0, 0)] (.slice (.prod (.int .i64) (.prod (.int .i64) .unit))), .val [] (.int .i64), .val [] (.int .i64)]]) (b := []) (G := fun a r => callC T F k 30 a r K) (fun x y => Eq.trans (by kernel_rfl) (Eq.trans (e30 k x.1.1 x.1.2.1 x.1.2.2.1 x.1.2.2.2.1 x.1.2.2.2.2.1 x.1.2.2.2.2.2.1 x.1.2.2.2.2.2.2.1 x.1.2.2.2.2.2.2.2.1 K).symm (by kernel_rfl))) a r
end
section
variable {R : Type}
theorem e109 (k : Nat) (a0 : List ((Int × (Int × Unit)))) (K : List PV → List RowS → Option R) : callC T F k 109 [.val [(0, 0)] (.slice (.prod (.int .i64) (.prod (.int .i64) .unit))) a0] [] K = f109 k a0 (fun z0 => K [.rw 1] [⟨0, .arr [] (.prod (.int .i64) (.prod (.int .i64) .unit)) z0⟩]) := by
  rw [f109_def]
  cases k with
  | zero => rfl
  | succ k => exact clone_call (m := [.lend (.prod (.int .i64) (.prod (.int .i64) .unit))]) (ty := (.prod (.int .i64) (.prod (.int .i64) .unit))) (bytes := 16) (by kernel_rfl) a0 K
noncomputable def s109 (k : Nat) (a : List PV) (r : List RowS) (K : List PV → List RowS → Option R) : Option R :=
  onShape [.val [(0, 0)] (.slice (.prod (.int .i64) (.prod (.int .i64) .unit)))] [] (fun v => f109 k v.1.1 (fun z0 => K [.rw 1] [⟨0, .arr [] (.prod (.int .i64) (.prod (.int .i64) .unit)) z0⟩])) (callC T F k 109 a r K) a r
theorem s109_eq (k : Nat) (a : List PV) (r : List RowS) (K : List PV → List RowS → Option R) : s109 k a r K = callC T F k 109 a r K := by
  unfold s109
  exact onShape_eq (a := [.val [(0, 0)] (.slice (.prod (.int .i64) (.prod (.int .i64) .unit)))]) (b := []) (G := fun a r => callC T F k 109 a r K) (fun x y => Eq.trans (by kernel_rfl) (Eq.trans (e109 k x.1 K).symm (by kernel_rfl))) a r
end
section
variable {R : Type}
noncomputable def S80 (k g : Nat) (a : List PV) (r : List RowS) (K : List PV → List RowS → Option R) : Option R := bif g == 77 then s77 k a r K else bif g == 109 then s109 k a r K else callC T F k g a r K
theorem S80_eq (k : Nat) : S80 (R := R) k = callC T F k := by
  funext g a r K
  exact pick_eq (fun e => by subst e; exact s77_eq k a r K) (pick_eq (fun e => by subst e; exact s109_eq k a r K) (rfl))
theorem e80 (k : Nat) (a0 : Int) (a1 : Int) (a2 : ByteArray) (a3 : List Int) (a4 : Int) (a5 : List ((Int × (Int × Unit)))) (a6 : Int) (a7 : Int) (K : List PV → List RowS → Option R) : callC T F k 80 [.agg [.val [] (.int .i64) a0, .val [] (.int .i64) a1, .val [] .str a2, .val [(0, 0)] (.slice (.int .u8)) a3, .val [] (.int .i64) a4, .val [(0, 0)] (.slice (.prod (.int .i64) (.prod (.int .i64) .unit))) a5, .val [] (.int .i64) a6, .val [] (.int .i64) a7]] [] K = f80 k a0 a1 a2 a3 a4 a5 a6 a7 (fun z0 z1 z2 z3 z4 z5 z6 z7 => K [.agg [.val [] (.int .i64) z0, .val [] (.int .i64) z1, .val [] .str z2, .rw 1, .val [] (.int .i64) z3, .rw 2, .val [] (.int .i64) z4, .val [] (.int .i64) z5]] [⟨0, .arr [] (.int .u8) z6⟩, ⟨0, .arr [] (.prod (.int .i64) (.prod (.int .i64) .unit)) z7⟩]) := by
  rw [f80_def]
  cases k with
  | zero => rfl
  | succ k =>
    refine Eq.trans (show _ = exec T an80 (modesOf F) 0 k 12 (callC T F k) (ending T Try.f80 an80 0 K) (bodyOf Try.f80) ⟨argEnv 0 [.agg [.val [] (.int .i64) a0, .val [] (.int .i64) a1, .val [] .str a2, .val [(0, 0)] (.slice (.int .u8)) a3, .val [] (.int .i64) a4, .val [(0, 0)] (.slice (.prod (.int .i64) (.prod (.int .i64) .unit))) a5, .val [] (.int .i64) a6, .val [] (.int .i64) a7]] (fun _ => none), rowsOf []⟩ (ending T Try.f80 an80 0 K) (fun _ _ => none) from by kernel_rfl) ?_
    rw [← S80_eq k, ← execS_eq T an80 (modesOf F) 0 k 12 (S80 k) (fun _ _ _ _ _ => none) (bodyOf Try.f80) (cuts_of _ _ _ _ _ _ _ _ (bodyOf Try.f80) (l := []) (by kernel_rfl) trivial)]
    kernel_rfl
noncomputable def s80 (k : Nat) (a : List PV) (r : List RowS) (K : List PV → List RowS → Option R) : Option R :=
  onShape [.agg [.val [] (.int .i64), .val [] (.int .i64), .val [] .str, .val [(0, 0)] (.slice (.int .u8)), .val [] (.int .i64), .val [(0, 0)] (.slice (.prod (.int .i64) (.prod (.int .i64) .unit))), .val [] (.int .i64), .val [] (.int .i64)]] [] (fun v => f80 k v.1.1.1 v.1.1.2.1 v.1.1.2.2.1 v.1.1.2.2.2.1 v.1.1.2.2.2.2.1 v.1.1.2.2.2.2.2.1 v.1.1.2.2.2.2.2.2.1 v.1.1.2.2.2.2.2.2.2.1 (fun z0 z1 z2 z3 z4 z5 z6 z7 => K [.agg [.val [] (.int .i64) z0, .val [] (.int .i64) z1, .val [] .str z2, .rw 1, .val [] (.int .i64) z3, .rw 2, .val [] (.int .i64) z4, .val [] (.int .i64) z5]] [⟨0, .arr [] (.int .u8) z6⟩, ⟨0, .arr [] (.prod (.int .i64) (.prod (.int .i64) .unit)) z7⟩])) (callC T F k 80 a r K) a r
theorem s80_eq (k : Nat) (a : List PV) (r : List RowS) (K : List PV → List RowS → Option R) : s80 k a r K = callC T F k 80 a r K := by
  unfold s80
  exact onShape_eq (a := [.agg [.val [] (.int .i64), .val [] (.int .i64), .val [] .str, .val [(0, 0)] (.slice (.int .u8)), .val [] (.int .i64), .val [(0, 0)] (.slice (.prod (.int .i64) (.prod (.int .i64) .unit))), .val [] (.int .i64), .val [] (.int .i64)]]) (b := []) (G := fun a r => callC T F k 80 a r K) (fun x y => Eq.trans (by kernel_rfl) (Eq.trans (e80 k x.1.1 x.1.2.1 x.1.2.2.1 x.1.2.2.2.1 x.1.2.2.2.2.1 x.1.2.2.2.2.2.1 x.1.2.2.2.2.2.2.1 x.1.2.2.2.2.2.2.2.1 K).symm (by kernel_rfl))) a r
end
section
variable {R : Type}
noncomputable def S107 (k g : Nat) (a : List PV) (r : List RowS) (K : List PV → List RowS → Option R) : Option R := bif g == 64 then s64 k a r K else callC T F k g a r K
theorem S107_eq (k : Nat) : S107 (R := R) k = callC T F k := by
  funext g a r K
  exact pick_eq (fun e => by subst e; exact s64_eq k a r K) (rfl)
theorem e107 (k : Nat) (a0 : Int) (a1 : Int) (a2 : ByteArray) (a3 : List Int) (a4 : Int) (a5 : List ((Int × (Int × Unit)))) (a6 : Int) (a7 : Int) (K : List PV → List RowS → Option R) : callC T F k 107 [.agg [.val [] (.int .i64) a0, .val [] (.int .i64) a1, .val [] .str a2, .val [(0, 0)] (.slice (.int .u8)) a3, .val [] (.int .i64) a4, .val [(0, 0)] (.slice (.prod (.int .i64) (.prod (.int .i64) .unit))) a5, .val [] (.int .i64) a6, .val [] (.int .i64) a7]] [] K = f107 k a0 a1 a2 a3 a4 a5 a6 a7 (fun z0 z1 z2 z3 z4 z5 z6 => K [.agg [.val [] (.int .i64) z0, .val [] (.int .i64) z1, .val [] .str z2, .val [] (.int .i64) z3, .val [] (.int .i64) z4, .val [] (.int .i64) z5, .nils, .nils, .val [] .bool z6]] []) := by
  rw [f107_def]
  cases k with
  | zero => rfl
  | succ k =>
    refine Eq.trans (show _ = exec T an107 (modesOf F) 0 k 12 (callC T F k) (ending T Try.f107 an107 0 K) (bodyOf Try.f107) ⟨argEnv 0 [.agg [.val [] (.int .i64) a0, .val [] (.int .i64) a1, .val [] .str a2, .val [(0, 0)] (.slice (.int .u8)) a3, .val [] (.int .i64) a4, .val [(0, 0)] (.slice (.prod (.int .i64) (.prod (.int .i64) .unit))) a5, .val [] (.int .i64) a6, .val [] (.int .i64) a7]] (fun _ => none), rowsOf []⟩ (ending T Try.f107 an107 0 K) (fun _ _ => none) from by kernel_rfl) ?_
    rw [← S107_eq k, ← execS_eq T an107 (modesOf F) 0 k 12 (S107 k) (fun _ _ _ _ _ => none) (bodyOf Try.f107) (cuts_of _ _ _ _ _ _ _ _ (bodyOf Try.f107) (l := []) (by kernel_rfl) trivial)]
    kernel_rfl
noncomputable def s107 (k : Nat) (a : List PV) (r : List RowS) (K : List PV → List RowS → Option R) : Option R :=
  onShape [.agg [.val [] (.int .i64), .val [] (.int .i64), .val [] .str, .val [(0, 0)] (.slice (.int .u8)), .val [] (.int .i64), .val [(0, 0)] (.slice (.prod (.int .i64) (.prod (.int .i64) .unit))), .val [] (.int .i64), .val [] (.int .i64)]] [] (fun v => f107 k v.1.1.1 v.1.1.2.1 v.1.1.2.2.1 v.1.1.2.2.2.1 v.1.1.2.2.2.2.1 v.1.1.2.2.2.2.2.1 v.1.1.2.2.2.2.2.2.1 v.1.1.2.2.2.2.2.2.2.1 (fun z0 z1 z2 z3 z4 z5 z6 => K [.agg [.val [] (.int .i64) z0, .val [] (.int .i64) z1, .val [] .str z2, .val [] (.int .i64) z3, .val [] (.int .i64) z4, .val [] (.int .i64) z5, .nils, .nils, .val [] .bool z6]] [])) (callC T F k 107 a r K) a r
theorem s107_eq (k : Nat) (a : List PV) (r : List RowS) (K : List PV → List RowS → Option R) : s107 k a r K = callC T F k 107 a r K := by
  unfold s107
  exact onShape_eq (a := [.agg [.val [] (.int .i64), .val [] (.int .i64), .val [] .str, .val [(0, 0)] (.slice (.int .u8)), .val [] (.int .i64), .val [(0, 0)] (.slice (.prod (.int .i64) (.prod (.int .i64) .unit))), .val [] (.int .i64), .val [] (.int .i64)]]) (b := []) (G := fun a r => callC T F k 107 a r K) (fun x y => Eq.trans (by kernel_rfl) (Eq.trans (e107 k x.1.1 x.1.2.1 x.1.2.2.1 x.1.2.2.2.1 x.1.2.2.2.2.1 x.1.2.2.2.2.2.1 x.1.2.2.2.2.2.2.1 x.1.2.2.2.2.2.2.2.1 K).symm (by kernel_rfl))) a r
end
section
variable {R : Type}
noncomputable def S128 (k g : Nat) (a : List PV) (r : List RowS) (K : List PV → List RowS → Option R) : Option R := bif g == 77 then s77 k a r K else callC T F k g a r K
theorem S128_eq (k : Nat) : S128 (R := R) k = callC T F k := by
  funext g a r K
  exact pick_eq (fun e => by subst e; exact s77_eq k a r K) (rfl)
theorem e128 (k : Nat) (a0 : Int) (a1 : Int) (a2 : ByteArray) (a3 : List Int) (a4 : Int) (a5 : List ((Int × (Int × Unit)))) (a6 : Int) (a7 : Int) (a8 : Int) (a9 : Int) (K : List PV → List RowS → Option R) : callC T F k 128 [.agg [.val [] (.int .i64) a0, .val [] (.int .i64) a1, .val [] .str a2, .val [(0, 0)] (.slice (.int .u8)) a3, .val [] (.int .i64) a4, .val [(0, 0)] (.slice (.prod (.int .i64) (.prod (.int .i64) .unit))) a5, .val [] (.int .i64) a6, .val [] (.int .i64) a7], .val [] (.int .i64) a8, .val [] (.int .i64) a9] [] K = f128 k a0 a1 a2 a3 a4 a5 a6 a7 a8 a9 (fun z0 z1 z2 z3 z4 z5 z6 z7 => K [.agg [.val [] (.int .i64) z0, .val [] (.int .i64) z1, .val [] .str z2, .val [] (.int .i64) z3, .val [] (.int .i64) z4, .val [] (.int .i64) z5, .rw 1, .nils, .val [] .bool z6]] [⟨0, .arr [] (.int .u8) z7⟩]) := by
  rw [f128_def]
  cases k with
  | zero => rfl
  | succ k =>
    refine Eq.trans (show _ = exec T an128 (modesOf F) 0 k 19 (callC T F k) (ending T Try.f128 an128 0 K) (bodyOf Try.f128) ⟨argEnv 0 [.agg [.val [] (.int .i64) a0, .val [] (.int .i64) a1, .val [] .str a2, .val [(0, 0)] (.slice (.int .u8)) a3, .val [] (.int .i64) a4, .val [(0, 0)] (.slice (.prod (.int .i64) (.prod (.int .i64) .unit))) a5, .val [] (.int .i64) a6, .val [] (.int .i64) a7], .val [] (.int .i64) a8, .val [] (.int .i64) a9] (fun _ => none), rowsOf []⟩ (ending T Try.f128 an128 0 K) (fun _ _ => none) from by kernel_rfl) ?_
    rw [← S128_eq k, ← execS_eq T an128 (modesOf F) 0 k 19 (S128 k) (fun _ _ _ _ _ => none) (bodyOf Try.f128) (cuts_of _ _ _ _ _ _ _ _ (bodyOf Try.f128) (l := []) (by kernel_rfl) trivial)]
    kernel_rfl
noncomputable def s128 (k : Nat) (a : List PV) (r : List RowS) (K : List PV → List RowS → Option R) : Option R :=
  onShape [.agg [.val [] (.int .i64), .val [] (.int .i64), .val [] .str, .val [(0, 0)] (.slice (.int .u8)), .val [] (.int .i64), .val [(0, 0)] (.slice (.prod (.int .i64) (.prod (.int .i64) .unit))), .val [] (.int .i64), .val [] (.int .i64)], .val [] (.int .i64), .val [] (.int .i64)] [] (fun v => f128 k v.1.1.1 v.1.1.2.1 v.1.1.2.2.1 v.1.1.2.2.2.1 v.1.1.2.2.2.2.1 v.1.1.2.2.2.2.2.1 v.1.1.2.2.2.2.2.2.1 v.1.1.2.2.2.2.2.2.2.1 v.1.2.1 v.1.2.2.1 (fun z0 z1 z2 z3 z4 z5 z6 z7 => K [.agg [.val [] (.int .i64) z0, .val [] (.int .i64) z1, .val [] .str z2, .val [] (.int .i64) z3, .val [] (.int .i64) z4, .val [] (.int .i64) z5, .rw 1, .nils, .val [] .bool z6]] [⟨0, .arr [] (.int .u8) z7⟩])) (callC T F k 128 a r K) a r
theorem s128_eq (k : Nat) (a : List PV) (r : List RowS) (K : List PV → List RowS → Option R) : s128 k a r K = callC T F k 128 a r K := by
  unfold s128
  exact onShape_eq (a := [.agg [.val [] (.int .i64), .val [] (.int .i64), .val [] .str, .val [(0, 0)] (.slice (.int .u8)), .val [] (.int .i64), .val [(0, 0)] (.slice (.prod (.int .i64) (.prod (.int .i64) .unit))), .val [] (.int .i64), .val [] (.int .i64)], .val [] (.int .i64), .val [] (.int .i64)]) (b := []) (G := fun a r => callC T F k 128 a r K) (fun x y => Eq.trans (by kernel_rfl) (Eq.trans (e128 k x.1.1 x.1.2.1 x.1.2.2.1 x.1.2.2.2.1 x.1.2.2.2.2.1 x.1.2.2.2.2.2.1 x.1.2.2.2.2.2.2.1 x.1.2.2.2.2.2.2.2.1 x.2.1 x.2.2.1 K).symm (by kernel_rfl))) a r
end
section
variable {R : Type}
noncomputable def S108 (k g : Nat) (a : List PV) (r : List RowS) (K : List PV → List RowS → Option R) : Option R := bif g == 64 then s64 k a r K else bif g == 104 then s104 k a r K else bif g == 107 then s107 k a r K else bif g == 109 then s109 k a r K else bif g == 128 then s128 k a r K else callC T F k g a r K
theorem S108_eq (k : Nat) : S108 (R := R) k = callC T F k := by
  funext g a r K
  exact pick_eq (fun e => by subst e; exact s64_eq k a r K) (pick_eq (fun e => by subst e; exact s104_eq k a r K) (pick_eq (fun e => by subst e; exact s107_eq k a r K) (pick_eq (fun e => by subst e; exact s109_eq k a r K) (pick_eq (fun e => by subst e; exact s128_eq k a r K) (rfl)))))
section
variable {R : Type} (k : Nat) (K : List PV → List RowS → Option R)
noncomputable def L108_1000018 (ws : List PV) (rs : List RowS) (N : St → Option R) (X : Nat → St → Option R) : Option R :=
  onShape [.ptr 1 0, .ptr 3 0, .ptr 4 0, .ptr 5 0, .val [] .bool] [.vars [.val [] (.int .i64), .val [] (.int .i64), .val [] .str, .val [(0, 0)] (.slice (.int .u8)), .val [] (.int .i64), .rw 2, .val [] (.int .i64), .val [] (.int .i64)], .arr [] (.prod (.int .i64) (.prod (.int .i64) .unit)), .vars [.val [] (.int .i64), .val [] (.int .i64), .val [] .str, .nils, .val [] (.int .i64), .nils, .val [] (.int .i64), .val [] (.int .i64)], .vars [.val [] (.int .i64), .val [] (.int .i64), .val [] .str, .val [] (.int .i64), .val [] (.int .i64), .val [] (.int .i64), .nils, .nils, .val [] .bool], .vars [.val [] (.int .i64), .val [] (.int .i64), .val [] .str, .val [] (.int .i64), .val [] (.int .i64), .val [] (.int .i64), .rw 6, .nils, .val [] .bool], .arr [] (.int .u8)] (fun v => f108_1000018 k (fun yN_7 => N (sh fi108_18 [.ptr 1 0, .ptr 3 0, .ptr 4 0, .ptr 5 0] [⟨0, .vars [.val [] (.int .i64) v.2.1.1, .val [] (.int .i64) v.2.1.2.1, .val [] .str v.2.1.2.2.1, .val [(0, 0)] (.slice (.int .u8)) v.2.1.2.2.2.1, .val [] (.int .i64) v.2.1.2.2.2.2.1, .rw 2, .val [] (.int .i64) v.2.1.2.2.2.2.2.2.1, .val [] (.int .i64) v.2.1.2.2.2.2.2.2.2.1]⟩, ⟨0, .arr [] (.prod (.int .i64) (.prod (.int .i64) .unit)) yN_7⟩, ⟨0, .vars [.val [] (.int .i64) v.2.2.2.1.1, .val [] (.int .i64) v.2.2.2.1.2.1, .val [] .str v.2.2.2.1.2.2.1, .nils, .val [] (.int .i64) v.2.2.2.1.2.2.2.2.1, .nils, .val [] (.int .i64) v.2.2.2.1.2.2.2.2.2.2.1, .val [] (.int .i64) v.2.2.2.1.2.2.2.2.2.2.2.1]⟩, ⟨0, .vars [.val [] (.int .i64) v.2.2.2.2.1.1, .val [] (.int .i64) v.2.2.2.2.1.2.1, .val [] .str v.2.2.2.2.1.2.2.1, .val [] (.int .i64) v.2.2.2.2.1.2.2.2.1, .val [] (.int .i64) v.2.2.2.2.1.2.2.2.2.1, .val [] (.int .i64) v.2.2.2.2.1.2.2.2.2.2.1, .nils, .nils, .val [] .bool v.2.2.2.2.1.2.2.2.2.2.2.2.2.1]⟩, ⟨0, .vars [.val [] (.int .i64) v.2.2.2.2.2.1.1, .val [] (.int .i64) v.2.2.2.2.2.1.2.1, .val [] .str v.2.2.2.2.2.1.2.2.1, .val [] (.int .i64) v.2.2.2.2.2.1.2.2.2.1, .val [] (.int .i64) v.2.2.2.2.2.1.2.2.2.2.1, .val [] (.int .i64) v.2.2.2.2.2.1.2.2.2.2.2.1, .rw 6, .nils, .val [] .bool v.2.2.2.2.2.1.2.2.2.2.2.2.2.2.1]⟩, ⟨0, .arr [] (.int .u8) v.2.2.2.2.2.2.1⟩])) v.1.2.2.2.2.1 v.2.1.1 v.2.1.2.1 v.2.1.2.2.1 v.2.1.2.2.2.1 v.2.1.2.2.2.2.1 v.2.1.2.2.2.2.2.2.1 v.2.1.2.2.2.2.2.2.2.1 v.2.2.1 v.2.2.2.1.1 v.2.2.2.1.2.1 v.2.2.2.1.2.2.1 v.2.2.2.1.2.2.2.2.1 v.2.2.2.1.2.2.2.2.2.2.1 v.2.2.2.1.2.2.2.2.2.2.2.1 v.2.2.2.2.1.1 v.2.2.2.2.1.2.1 v.2.2.2.2.1.2.2.1 v.2.2.2.2.1.2.2.2.1 v.2.2.2.2.1.2.2.2.2.1 v.2.2.2.2.1.2.2.2.2.2.1 v.2.2.2.2.1.2.2.2.2.2.2.2.2.1 v.2.2.2.2.2.1.1 v.2.2.2.2.2.1.2.1 v.2.2.2.2.2.1.2.2.1 v.2.2.2.2.2.1.2.2.2.1 v.2.2.2.2.2.1.2.2.2.2.1 v.2.2.2.2.2.1.2.2.2.2.2.1 v.2.2.2.2.2.1.2.2.2.2.2.2.2.2.1 v.2.2.2.2.2.2.1) (inner T an108 (modesOf F) 0 k 138 (S108 k) (ending T Try.f108 an108 0 K) cd108_1000018 (sh sp108_1000018 ws rs) N X) ws rs
noncomputable def L108 (id : Nat) (ws : List PV) (rs : List RowS) (N : St → Option R) (X : Nat → St → Option R) : Option R := bif id == 1000018 then L108_1000018 k K ws rs N X else none
theorem l108_1000018 (ws : List PV) (rs : List RowS) (N : St → Option R) (X : Nat → St → Option R) : L108 k K 1000018 ws rs N X = inner T an108 (modesOf F) 0 k 138 (S108 k) (ending T Try.f108 an108 0 K) cd108_1000018 (sh sp108_1000018 ws rs) N X := by
  show L108_1000018 k K ws rs N X = _
  unfold L108_1000018
  rw [f108_1000018_def]
  exact onShape_eq (a := [.ptr 1 0, .ptr 3 0, .ptr 4 0, .ptr 5 0, .val [] .bool]) (b := [.vars [.val [] (.int .i64), .val [] (.int .i64), .val [] .str, .val [(0, 0)] (.slice (.int .u8)), .val [] (.int .i64), .rw 2, .val [] (.int .i64), .val [] (.int .i64)], .arr [] (.prod (.int .i64) (.prod (.int .i64) .unit)), .vars [.val [] (.int .i64), .val [] (.int .i64), .val [] .str, .nils, .val [] (.int .i64), .nils, .val [] (.int .i64), .val [] (.int .i64)], .vars [.val [] (.int .i64), .val [] (.int .i64), .val [] .str, .val [] (.int .i64), .val [] (.int .i64), .val [] (.int .i64), .nils, .nils, .val [] .bool], .vars [.val [] (.int .i64), .val [] (.int .i64), .val [] .str, .val [] (.int .i64), .val [] (.int .i64), .val [] (.int .i64), .rw 6, .nils, .val [] .bool], .arr [] (.int .u8)]) (G := fun ws rs => inner T an108 (modesOf F) 0 k 138 (S108 k) (ending T Try.f108 an108 0 K) cd108_1000018 (sh sp108_1000018 ws rs) N X) (fun x y => Eq.trans (by kernel_rfl) (innerS_eq T an108 (modesOf F) 0 k 138 (S108 k) (L108 k K) cd108_1000018 (l := []) (by kernel_rfl) trivial _ N X)) ws rs
end
theorem e108 (k : Nat) (a0 : Int) (a1 : Int) (a2 : Int) (a3 : Int) (a4 : Int) (a5 : Int) (a6 : Int) (a7 : ByteArray) (a8 : List Int) (a9 : Int) (a10 : List ((Int × (Int × Unit)))) (a11 : Int) (a12 : Int) (K : List PV → List RowS → Option R) : callC T F k 108 [.agg [.val [] (.int .i64) a0, .val [] (.int .i64) a1, .val [] (.int .i64) a2, .val [] (.int .i64) a3, .val [] (.int .i64) a4], .agg [.val [] (.int .i64) a5, .val [] (.int .i64) a6, .val [] .str a7, .val [(0, 0)] (.slice (.int .u8)) a8, .val [] (.int .i64) a9, .val [(0, 0)] (.slice (.prod (.int .i64) (.prod (.int .i64) .unit))) a10, .val [] (.int .i64) a11, .val [] (.int .i64) a12]] [] K = f108 k a0 a1 a2 a3 a4 a5 a6 a7 a8 a9 a10 a11 a12 (fun z0 z1 z2 z3 z4 z5 z6 z7 z8 z9 z10 z11 z12 z13 z14 z15 => K [.agg [.val [] (.int .i64) z0, .val [] (.int .i64) z1, .val [] .str z2, .val [(0, 0)] (.slice (.int .u8)) z3, .val [] (.int .i64) z4, .val [(0, 0)] (.slice (.prod (.int .i64) (.prod (.int .i64) .unit))) z5, .val [] (.int .i64) z6, .val [] (.int .i64) z7], .agg [.val [] (.int .i64) z8, .val [] (.int .i64) z9, .val [] .str z10, .val [] (.int .i64) z11, .val [] (.int .i64) z12, .val [] (.int .i64) z13, .rw 1, .nils, .val [] .bool z14]] [⟨0, .arr [] (.int .u8) z15⟩]) := by
  rw [f108_def]
  cases k with
  | zero => rfl
  | succ k =>
    refine Eq.trans (show _ = exec T an108 (modesOf F) 0 k 138 (callC T F k) (ending T Try.f108 an108 0 K) (bodyOf Try.f108) ⟨argEnv 0 [.agg [.val [] (.int .i64) a0, .val [] (.int .i64) a1, .val [] (.int .i64) a2, .val [] (.int .i64) a3, .val [] (.int .i64) a4], .agg [.val [] (.int .i64) a5, .val [] (.int .i64) a6, .val [] .str a7, .val [(0, 0)] (.slice (.int .u8)) a8, .val [] (.int .i64) a9, .val [(0, 0)] (.slice (.prod (.int .i64) (.prod (.int .i64) .unit))) a10, .val [] (.int .i64) a11, .val [] (.int .i64) a12]] (fun _ => none), rowsOf []⟩ (ending T Try.f108 an108 0 K) (fun _ _ => none) from by kernel_rfl) ?_
    rw [← S108_eq k, ← execS_eq T an108 (modesOf F) 0 k 138 (S108 k) (L108 k K) (bodyOf Try.f108) (cuts_of _ _ _ _ _ _ _ _ (bodyOf Try.f108) (l := [(1000018, sp108_1000018, cd108_1000018)]) (by kernel_rfl) ⟨l108_1000018 k K, trivial⟩)]
    kernel_rfl
noncomputable def s108 (k : Nat) (a : List PV) (r : List RowS) (K : List PV → List RowS → Option R) : Option R :=
  onShape [.agg [.val [] (.int .i64), .val [] (.int .i64), .val [] (.int .i64), .val [] (.int .i64), .val [] (.int .i64)], .agg [.val [] (.int .i64), .val [] (.int .i64), .val [] .str, .val [(0, 0)] (.slice (.int .u8)), .val [] (.int .i64), .val [(0, 0)] (.slice (.prod (.int .i64) (.prod (.int .i64) .unit))), .val [] (.int .i64), .val [] (.int .i64)]] [] (fun v => f108 k v.1.1.1 v.1.1.2.1 v.1.1.2.2.1 v.1.1.2.2.2.1 v.1.1.2.2.2.2.1 v.1.2.1.1 v.1.2.1.2.1 v.1.2.1.2.2.1 v.1.2.1.2.2.2.1 v.1.2.1.2.2.2.2.1 v.1.2.1.2.2.2.2.2.1 v.1.2.1.2.2.2.2.2.2.1 v.1.2.1.2.2.2.2.2.2.2.1 (fun z0 z1 z2 z3 z4 z5 z6 z7 z8 z9 z10 z11 z12 z13 z14 z15 => K [.agg [.val [] (.int .i64) z0, .val [] (.int .i64) z1, .val [] .str z2, .val [(0, 0)] (.slice (.int .u8)) z3, .val [] (.int .i64) z4, .val [(0, 0)] (.slice (.prod (.int .i64) (.prod (.int .i64) .unit))) z5, .val [] (.int .i64) z6, .val [] (.int .i64) z7], .agg [.val [] (.int .i64) z8, .val [] (.int .i64) z9, .val [] .str z10, .val [] (.int .i64) z11, .val [] (.int .i64) z12, .val [] (.int .i64) z13, .rw 1, .nils, .val [] .bool z14]] [⟨0, .arr [] (.int .u8) z15⟩])) (callC T F k 108 a r K) a r
theorem s108_eq (k : Nat) (a : List PV) (r : List RowS) (K : List PV → List RowS → Option R) : s108 k a r K = callC T F k 108 a r K := by
  unfold s108
  exact onShape_eq (a := [.agg [.val [] (.int .i64), .val [] (.int .i64), .val [] (.int .i64), .val [] (.int .i64), .val [] (.int .i64)], .agg [.val [] (.int .i64), .val [] (.int .i64), .val [] .str, .val [(0, 0)] (.slice (.int .u8)), .val [] (.int .i64), .val [(0, 0)] (.slice (.prod (.int .i64) (.prod (.int .i64) .unit))), .val [] (.int .i64), .val [] (.int .i64)]]) (b := []) (G := fun a r => callC T F k 108 a r K) (fun x y => Eq.trans (by kernel_rfl) (Eq.trans (e108 k x.1.1 x.1.2.1 x.1.2.2.1 x.1.2.2.2.1 x.1.2.2.2.2.1 x.2.1.1 x.2.1.2.1 x.2.1.2.2.1 x.2.1.2.2.2.1 x.2.1.2.2.2.2.1 x.2.1.2.2.2.2.2.1 x.2.1.2.2.2.2.2.2.1 x.2.1.2.2.2.2.2.2.2.1 K).symm (by kernel_rfl))) a r
end
section
variable {R : Type}
noncomputable def S79 (k g : Nat) (a : List PV) (r : List RowS) (K : List PV → List RowS → Option R) : Option R := bif g == 107 then s107 k a r K else bif g == 108 then s108 k a r K else callC T F k g a r K
theorem S79_eq (k : Nat) : S79 (R := R) k = callC T F k := by
  funext g a r K
  exact pick_eq (fun e => by subst e; exact s107_eq k a r K) (pick_eq (fun e => by subst e; exact s108_eq k a r K) (rfl))
section
variable {R : Type} (k : Nat) (K : List PV → List RowS → Option R)
noncomputable def L79_0 (ws : List PV) (rs : List RowS) (N : St → Option R) (X : Nat → St → Option R) : Option R :=
  onShape [.ptr 1 0, .ptr 2 0, .ptr 3 0, .rw 4] [.vars [.val [] (.int .i64), .val [] (.int .i64), .val [] (.int .i64), .val [] (.int .i64), .val [] (.int .i64)], .vars [.val [] (.int .i64), .val [] (.int .i64), .val [] .str, .val [(0, 0)] (.slice (.int .u8)), .val [] (.int .i64), .val [(0, 0)] (.slice (.prod (.int .i64) (.prod (.int .i64) .unit))), .val [] (.int .i64), .val [] (.int .i64)], .vars [.val [] (.int .i64), .val [] (.int .i64), .val [] .str, .nils, .val [] (.int .i64), .nils, .val [] (.int .i64), .val [] (.int .i64)], .arr [] (.prod (.int .i64) (.prod (.int .i64) (.prod .str (.prod (.int .i64) (.prod (.int .i64) (.prod (.int .i64) (.prod (.slice (.int .u8)) (.prod (.slice (.prod (.int .i64) (.prod (.int .i64) .unit))) (.prod .bool .unit)))))))))] (fun v => f79_0 k (fun y0_0 y0_1 y0_2 y0_3 y0_4 y0_5 y0_6 y0_7 y0_14 => N (sh jn79_0 [.ptr 1 0, .ptr 2 0, .rw 3] [⟨0, .vars [.val [] (.int .i64) y0_0, .val [] (.int .i64) y0_1, .val [] .str y0_2, .val [(0, 0)] (.slice (.int .u8)) y0_3, .val [] (.int .i64) y0_4, .val [(0, 0)] (.slice (.prod (.int .i64) (.prod (.int .i64) .unit))) y0_5, .val [] (.int .i64) y0_6, .val [] (.int .i64) y0_7]⟩, ⟨0, .vars [.val [] (.int .i64) v.2.2.2.1.1, .val [] (.int .i64) v.2.2.2.1.2.1, .val [] .str v.2.2.2.1.2.2.1, .nils, .val [] (.int .i64) v.2.2.2.1.2.2.2.2.1, .nils, .val [] (.int .i64) v.2.2.2.1.2.2.2.2.2.2.1, .val [] (.int .i64) v.2.2.2.1.2.2.2.2.2.2.2.1]⟩, ⟨0, .arr [] (.prod (.int .i64) (.prod (.int .i64) (.prod .str (.prod (.int .i64) (.prod (.int .i64) (.prod (.int .i64) (.prod (.slice (.int .u8)) (.prod (.slice (.prod (.int .i64) (.prod (.int .i64) .unit))) (.prod .bool .unit))))))))) y0_14⟩])) v.2.1.1 v.2.1.2.1 v.2.1.2.2.1 v.2.1.2.2.2.1 v.2.1.2.2.2.2.1 v.2.2.2.1.1 v.2.2.2.1.2.1 v.2.2.2.1.2.2.1 v.2.2.2.1.2.2.2.2.1 v.2.2.2.1.2.2.2.2.2.2.1 v.2.2.2.1.2.2.2.2.2.2.2.1 k v.2.2.1.1 v.2.2.1.2.1 v.2.2.1.2.2.1 v.2.2.1.2.2.2.1 v.2.2.1.2.2.2.2.1 v.2.2.1.2.2.2.2.2.1 v.2.2.1.2.2.2.2.2.2.1 v.2.2.1.2.2.2.2.2.2.2.1 v.2.2.2.2.1) (inner T an79 (modesOf F) 0 k 63 (S79 k) (ending T Try.f79 an79 0 K) cd79_0 (sh sp79_0 ws rs) N X) ws rs
noncomputable def L79 (id : Nat) (ws : List PV) (rs : List RowS) (N : St → Option R) (X : Nat → St → Option R) : Option R := bif id == 0 then L79_0 k K ws rs N X else none
theorem b79_0 (rec : St → Option R) (N : St → Option R) (X : Nat → St → Option R) (v0_0 : Int) (v0_1 : Int) (v0_2 : Int) (v0_3 : Int) (v0_4 : Int) (v0_13 : Int) (v0_14 : Int) (v0_15 : ByteArray) (v0_16 : Int) (v0_17 : Int) (v0_18 : Int) (v0_5 : Int) (v0_6 : Int) (v0_7 : ByteArray) (v0_8 : List Int) (v0_9 : Int) (v0_10 : List ((Int × (Int × Unit)))) (v0_11 : Int) (v0_12 : Int) (v0_19 : List (Int × (Int × (ByteArray × (Int × (Int × (Int × (List Int × (List ((Int × (Int × Unit))) × (Bool × Unit)))))))))) :
    execS T an79 (modesOf F) 0 k 63 (S79 k) (L79 k K) (ending T Try.f79 an79 0 K) bd79_0 (sh sp79_0 [.ptr 1 0, .ptr 2 0, .ptr 3 0, .rw 4] [⟨0, .vars [.val [] (.int .i64) v0_0, .val [] (.int .i64) v0_1, .val [] (.int .i64) v0_2, .val [] (.int .i64) v0_3, .val [] (.int .i64) v0_4]⟩, ⟨0, .vars [.val [] (.int .i64) v0_5, .val [] (.int .i64) v0_6, .val [] .str v0_7, .val [(0, 0)] (.slice (.int .u8)) v0_8, .val [] (.int .i64) v0_9, .val [(0, 0)] (.slice (.prod (.int .i64) (.prod (.int .i64) .unit))) v0_10, .val [] (.int .i64) v0_11, .val [] (.int .i64) v0_12]⟩, ⟨0, .vars [.val [] (.int .i64) v0_13, .val [] (.int .i64) v0_14, .val [] .str v0_15, .nils, .val [] (.int .i64) v0_16, .nils, .val [] (.int .i64) v0_17, .val [] (.int .i64) v0_18]⟩, ⟨0, .arr [] (.prod (.int .i64) (.prod (.int .i64) (.prod .str (.prod (.int .i64) (.prod (.int .i64) (.prod (.int .i64) (.prod (.slice (.int .u8)) (.prod (.slice (.prod (.int .i64) (.prod (.int .i64) .unit))) (.prod .bool .unit))))))))) v0_19⟩]) (fun st => atHead an79 0 bd79_0 st rec) (outX an79 0 0 N X) =
      f79_0b k (fun v0_5 v0_6 v0_7 v0_8 v0_9 v0_10 v0_11 v0_12 v0_19 => rec (sh sp79_0 [.ptr 1 0, .ptr 2 0, .ptr 3 0, .rw 4] [⟨0, .vars [.val [] (.int .i64) v0_0, .val [] (.int .i64) v0_1, .val [] (.int .i64) v0_2, .val [] (.int .i64) v0_3, .val [] (.int .i64) v0_4]⟩, ⟨0, .vars [.val [] (.int .i64) v0_5, .val [] (.int .i64) v0_6, .val [] .str v0_7, .val [(0, 0)] (.slice (.int .u8)) v0_8, .val [] (.int .i64) v0_9, .val [(0, 0)] (.slice (.prod (.int .i64) (.prod (.int .i64) .unit))) v0_10, .val [] (.int .i64) v0_11, .val [] (.int .i64) v0_12]⟩, ⟨0, .vars [.val [] (.int .i64) v0_13, .val [] (.int .i64) v0_14, .val [] .str v0_15, .nils, .val [] (.int .i64) v0_16, .nils, .val [] (.int .i64) v0_17, .val [] (.int .i64) v0_18]⟩, ⟨0, .arr [] (.prod (.int .i64) (.prod (.int .i64) (.prod .str (.prod (.int .i64) (.prod (.int .i64) (.prod (.int .i64) (.prod (.slice (.int .u8)) (.prod (.slice (.prod (.int .i64) (.prod (.int .i64) .unit))) (.prod .bool .unit))))))))) v0_19⟩])) (fun y0_0 y0_1 y0_2 y0_3 y0_4 y0_5 y0_6 y0_7 y0_14 => N (sh jn79_0 [.ptr 1 0, .ptr 2 0, .rw 3] [⟨0, .vars [.val [] (.int .i64) y0_0, .val [] (.int .i64) y0_1, .val [] .str y0_2, .val [(0, 0)] (.slice (.int .u8)) y0_3, .val [] (.int .i64) y0_4, .val [(0, 0)] (.slice (.prod (.int .i64) (.prod (.int .i64) .unit))) y0_5, .val [] (.int .i64) y0_6, .val [] (.int .i64) y0_7]⟩, ⟨0, .vars [.val [] (.int .i64) v0_13, .val [] (.int .i64) v0_14, .val [] .str v0_15, .nils, .val [] (.int .i64) v0_16, .nils, .val [] (.int .i64) v0_17, .val [] (.int .i64) v0_18]⟩, ⟨0, .arr [] (.prod (.int .i64) (.prod (.int .i64) (.prod .str (.prod (.int .i64) (.prod (.int .i64) (.prod (.int .i64) (.prod (.slice (.int .u8)) (.prod (.slice (.prod (.int .i64) (.prod (.int .i64) .unit))) (.prod .bool .unit))))))))) y0_14⟩])) v0_0 v0_1 v0_2 v0_3 v0_4 v0_13 v0_14 v0_15 v0_16 v0_17 v0_18 v0_5 v0_6 v0_7 v0_8 v0_9 v0_10 v0_11 v0_12 v0_19 := by kernel_rfl
theorem i79_0 (N : St → Option R) (X : Nat → St → Option R) (v0_0 : Int) (v0_1 : Int) (v0_2 : Int) (v0_3 : Int) (v0_4 : Int) (v0_13 : Int) (v0_14 : Int) (v0_15 : ByteArray) (v0_16 : Int) (v0_17 : Int) (v0_18 : Int) (m : Nat) : ∀ (v0_5 : Int) (v0_6 : Int) (v0_7 : ByteArray) (v0_8 : List Int) (v0_9 : Int) (v0_10 : List ((Int × (Int × Unit)))) (v0_11 : Int) (v0_12 : Int) (v0_19 : List (Int × (Int × (ByteArray × (Int × (Int × (Int × (List Int × (List ((Int × (Int × Unit))) × (Bool × Unit)))))))))),
    iter (atHead an79 0 bd79_0) m (fun st N' => exec T an79 (modesOf F) 0 k 63 (S79 k) (ending T Try.f79 an79 0 K) bd79_0 st N' (outX an79 0 0 N X)) (sh sp79_0 [.ptr 1 0, .ptr 2 0, .ptr 3 0, .rw 4] [⟨0, .vars [.val [] (.int .i64) v0_0, .val [] (.int .i64) v0_1, .val [] (.int .i64) v0_2, .val [] (.int .i64) v0_3, .val [] (.int .i64) v0_4]⟩, ⟨0, .vars [.val [] (.int .i64) v0_5, .val [] (.int .i64) v0_6, .val [] .str v0_7, .val [(0, 0)] (.slice (.int .u8)) v0_8, .val [] (.int .i64) v0_9, .val [(0, 0)] (.slice (.prod (.int .i64) (.prod (.int .i64) .unit))) v0_10, .val [] (.int .i64) v0_11, .val [] (.int .i64) v0_12]⟩, ⟨0, .vars [.val [] (.int .i64) v0_13, .val [] (.int .i64) v0_14, .val [] .str v0_15, .nils, .val [] (.int .i64) v0_16, .nils, .val [] (.int .i64) v0_17, .val [] (.int .i64) v0_18]⟩, ⟨0, .arr [] (.prod (.int .i64) (.prod (.int .i64) (.prod .str (.prod (.int .i64) (.prod (.int .i64) (.prod (.int .i64) (.prod (.slice (.int .u8)) (.prod (.slice (.prod (.int .i64) (.prod (.int .i64) .unit))) (.prod .bool .unit))))))))) v0_19⟩]) = f79_0d k (fun y0_0 y0_1 y0_2 y0_3 y0_4 y0_5 y0_6 y0_7 y0_14 => N (sh jn79_0 [.ptr 1 0, .ptr 2 0, .rw 3] [⟨0, .vars [.val [] (.int .i64) y0_0, .val [] (.int .i64) y0_1, .val [] .str y0_2, .val [(0, 0)] (.slice (.int .u8)) y0_3, .val [] (.int .i64) y0_4, .val [(0, 0)] (.slice (.prod (.int .i64) (.prod (.int .i64) .unit))) y0_5, .val [] (.int .i64) y0_6, .val [] (.int .i64) y0_7]⟩, ⟨0, .vars [.val [] (.int .i64) v0_13, .val [] (.int .i64) v0_14, .val [] .str v0_15, .nils, .val [] (.int .i64) v0_16, .nils, .val [] (.int .i64) v0_17, .val [] (.int .i64) v0_18]⟩, ⟨0, .arr [] (.prod (.int .i64) (.prod (.int .i64) (.prod .str (.prod (.int .i64) (.prod (.int .i64) (.prod (.int .i64) (.prod (.slice (.int .u8)) (.prod (.slice (.prod (.int .i64) (.prod (.int .i64) .unit))) (.prod .bool .unit))))))))) y0_14⟩])) v0_0 v0_1 v0_2 v0_3 v0_4 v0_13 v0_14 v0_15 v0_16 v0_17 v0_18 m v0_5 v0_6 v0_7 v0_8 v0_9 v0_10 v0_11 v0_12 v0_19 := by
  induction m with
  | zero => intros; rfl
  | succ m ih =>
    intro v0_5 v0_6 v0_7 v0_8 v0_9 v0_10 v0_11 v0_12 v0_19
    simp only [iter]
    rw [← execS_eq T an79 (modesOf F) 0 k 63 (S79 k) (L79 k K) bd79_0 (cuts_of _ _ _ _ _ _ _ _ bd79_0 (l := []) (by kernel_rfl) trivial)]
    refine (b79_0 k K _ N X v0_0 v0_1 v0_2 v0_3 v0_4 v0_13 v0_14 v0_15 v0_16 v0_17 v0_18 v0_5 v0_6 v0_7 v0_8 v0_9 v0_10 v0_11 v0_12 v0_19).trans ?_
    simp only [f79_0d, ih]
theorem l79_0 (ws : List PV) (rs : List RowS) (N : St → Option R) (X : Nat → St → Option R) : L79 k K 0 ws rs N X = inner T an79 (modesOf F) 0 k 63 (S79 k) (ending T Try.f79 an79 0 K) cd79_0 (sh sp79_0 ws rs) N X := by
  show L79_0 k K ws rs N X = _
  unfold L79_0
  rw [f79_0_def]
  exact onShape_eq (a := [.ptr 1 0, .ptr 2 0, .ptr 3 0, .rw 4]) (b := [.vars [.val [] (.int .i64), .val [] (.int .i64), .val [] (.int .i64), .val [] (.int .i64), .val [] (.int .i64)], .vars [.val [] (.int .i64), .val [] (.int .i64), .val [] .str, .val [(0, 0)] (.slice (.int .u8)), .val [] (.int .i64), .val [(0, 0)] (.slice (.prod (.int .i64) (.prod (.int .i64) .unit))), .val [] (.int .i64), .val [] (.int .i64)], .vars [.val [] (.int .i64), .val [] (.int .i64), .val [] .str, .nils, .val [] (.int .i64), .nils, .val [] (.int .i64), .val [] (.int .i64)], .arr [] (.prod (.int .i64) (.prod (.int .i64) (.prod .str (.prod (.int .i64) (.prod (.int .i64) (.prod (.int .i64) (.prod (.slice (.int .u8)) (.prod (.slice (.prod (.int .i64) (.prod (.int .i64) .unit))) (.prod .bool .unit)))))))))]) (G := fun ws rs => inner T an79 (modesOf F) 0 k 63 (S79 k) (ending T Try.f79 an79 0 K) cd79_0 (sh sp79_0 ws rs) N X) (fun x y => Eq.trans (by kernel_rfl) (Eq.trans (i79_0 k K N X y.1.1 y.1.2.1 y.1.2.2.1 y.1.2.2.2.1 y.1.2.2.2.2.1 y.2.2.1.1 y.2.2.1.2.1 y.2.2.1.2.2.1 y.2.2.1.2.2.2.2.1 y.2.2.1.2.2.2.2.2.2.1 y.2.2.1.2.2.2.2.2.2.2.1 k y.2.1.1 y.2.1.2.1 y.2.1.2.2.1 y.2.1.2.2.2.1 y.2.1.2.2.2.2.1 y.2.1.2.2.2.2.2.1 y.2.1.2.2.2.2.2.2.1 y.2.1.2.2.2.2.2.2.2.1 y.2.2.2.1).symm (by kernel_rfl))) ws rs
end
theorem e79 (k : Nat) (a0 : Int) (a1 : Int) (a2 : Int) (a3 : Int) (a4 : Int) (a5 : Int) (a6 : Int) (a7 : ByteArray) (a8 : List Int) (a9 : Int) (a10 : List ((Int × (Int × Unit)))) (a11 : Int) (a12 : Int) (K : List PV → List RowS → Option R) : callC T F k 79 [.agg [.val [] (.int .i64) a0, .val [] (.int .i64) a1, .val [] (.int .i64) a2, .val [] (.int .i64) a3, .val [] (.int .i64) a4], .agg [.val [] (.int .i64) a5, .val [] (.int .i64) a6, .val [] .str a7, .val [(0, 0)] (.slice (.int .u8)) a8, .val [] (.int .i64) a9, .val [(0, 0)] (.slice (.prod (.int .i64) (.prod (.int .i64) .unit))) a10, .val [] (.int .i64) a11, .val [] (.int .i64) a12]] [] K = f79 k a0 a1 a2 a3 a4 a5 a6 a7 a8 a9 a10 a11 a12 (fun z0 z1 z2 z3 z4 z5 z6 z7 z8 => K [.agg [.val [] (.int .i64) z0, .val [] (.int .i64) z1, .val [] .str z2, .val [(0, 0)] (.slice (.int .u8)) z3, .val [] (.int .i64) z4, .val [(0, 0)] (.slice (.prod (.int .i64) (.prod (.int .i64) .unit))) z5, .val [] (.int .i64) z6, .val [] (.int .i64) z7], .rw 1] [⟨0, .arr [] (.prod (.int .i64) (.prod (.int .i64) (.prod .str (.prod (.int .i64) (.prod (.int .i64) (.prod (.int .i64) (.prod (.slice (.int .u8)) (.prod (.slice (.prod (.int .i64) (.prod (.int .i64) .unit))) (.prod .bool .unit))))))))) z8⟩]) := by
  rw [f79_def]
  cases k with
  | zero => rfl
  | succ k =>
    refine Eq.trans (show _ = exec T an79 (modesOf F) 0 k 63 (callC T F k) (ending T Try.f79 an79 0 K) (bodyOf Try.f79) ⟨argEnv 0 [.agg [.val [] (.int .i64) a0, .val [] (.int .i64) a1, .val [] (.int .i64) a2, .val [] (.int .i64) a3, .val [] (.int .i64) a4], .agg [.val [] (.int .i64) a5, .val [] (.int .i64) a6, .val [] .str a7, .val [(0, 0)] (.slice (.int .u8)) a8, .val [] (.int .i64) a9, .val [(0, 0)] (.slice (.prod (.int .i64) (.prod (.int .i64) .unit))) a10, .val [] (.int .i64) a11, .val [] (.int .i64) a12]] (fun _ => none), rowsOf []⟩ (ending T Try.f79 an79 0 K) (fun _ _ => none) from by kernel_rfl) ?_
    rw [← S79_eq k, ← execS_eq T an79 (modesOf F) 0 k 63 (S79 k) (L79 k K) (bodyOf Try.f79) (cuts_of _ _ _ _ _ _ _ _ (bodyOf Try.f79) (l := [(0, sp79_0, cd79_0)]) (by kernel_rfl) ⟨l79_0 k K, trivial⟩)]
    kernel_rfl
noncomputable def s79 (k : Nat) (a : List PV) (r : List RowS) (K : List PV → List RowS → Option R) : Option R :=
  onShape [.agg [.val [] (.int .i64), .val [] (.int .i64), .val [] (.int .i64), .val [] (.int .i64), .val [] (.int .i64)], .agg [.val [] (.int .i64), .val [] (.int .i64), .val [] .str, .val [(0, 0)] (.slice (.int .u8)), .val [] (.int .i64), .val [(0, 0)] (.slice (.prod (.int .i64) (.prod (.int .i64) .unit))), .val [] (.int .i64), .val [] (.int .i64)]] [] (fun v => f79 k v.1.1.1 v.1.1.2.1 v.1.1.2.2.1 v.1.1.2.2.2.1 v.1.1.2.2.2.2.1 v.1.2.1.1 v.1.2.1.2.1 v.1.2.1.2.2.1 v.1.2.1.2.2.2.1 v.1.2.1.2.2.2.2.1 v.1.2.1.2.2.2.2.2.1 v.1.2.1.2.2.2.2.2.2.1 v.1.2.1.2.2.2.2.2.2.2.1 (fun z0 z1 z2 z3 z4 z5 z6 z7 z8 => K [.agg [.val [] (.int .i64) z0, .val [] (.int .i64) z1, .val [] .str z2, .val [(0, 0)] (.slice (.int .u8)) z3, .val [] (.int .i64) z4, .val [(0, 0)] (.slice (.prod (.int .i64) (.prod (.int .i64) .unit))) z5, .val [] (.int .i64) z6, .val [] (.int .i64) z7], .rw 1] [⟨0, .arr [] (.prod (.int .i64) (.prod (.int .i64) (.prod .str (.prod (.int .i64) (.prod (.int .i64) (.prod (.int .i64) (.prod (.slice (.int .u8)) (.prod (.slice (.prod (.int .i64) (.prod (.int .i64) .unit))) (.prod .bool .unit))))))))) z8⟩])) (callC T F k 79 a r K) a r
theorem s79_eq (k : Nat) (a : List PV) (r : List RowS) (K : List PV → List RowS → Option R) : s79 k a r K = callC T F k 79 a r K := by
  unfold s79
  exact onShape_eq (a := [.agg [.val [] (.int .i64), .val [] (.int .i64), .val [] (.int .i64), .val [] (.int .i64), .val [] (.int .i64)], .agg [.val [] (.int .i64), .val [] (.int .i64), .val [] .str, .val [(0, 0)] (.slice (.int .u8)), .val [] (.int .i64), .val [(0, 0)] (.slice (.prod (.int .i64) (.prod (.int .i64) .unit))), .val [] (.int .i64), .val [] (.int .i64)]]) (b := []) (G := fun a r => callC T F k 79 a r K) (fun x y => Eq.trans (by kernel_rfl) (Eq.trans (e79 k x.1.1 x.1.2.1 x.1.2.2.1 x.1.2.2.2.1 x.1.2.2.2.2.1 x.2.1.1 x.2.1.2.1 x.2.1.2.2.1 x.2.1.2.2.2.1 x.2.1.2.2.2.2.1 x.2.1.2.2.2.2.2.1 x.2.1.2.2.2.2.2.2.1 x.2.1.2.2.2.2.2.2.2.1 K).symm (by kernel_rfl))) a r
end
section
variable {R : Type}
noncomputable def S27 (k g : Nat) (a : List PV) (r : List RowS) (K : List PV → List RowS → Option R) : Option R := bif g == 22 then s22 k a r K else bif g == 30 then s30 k a r K else bif g == 79 then s79 k a r K else bif g == 80 then s80 k a r K else callC T F k g a r K
theorem S27_eq (k : Nat) : S27 (R := R) k = callC T F k := by
  funext g a r K
  exact pick_eq (fun e => by subst e; exact s22_eq k a r K) (pick_eq (fun e => by subst e; exact s30_eq k a r K) (pick_eq (fun e => by subst e; exact s79_eq k a r K) (pick_eq (fun e => by subst e; exact s80_eq k a r K) (rfl))))
theorem e27 (k : Nat) (a0 : Int) (a1 : Int) (a2 : Int) (a3 : Int) (a4 : Int) (a5 : Int) (a6 : Int) (a7 : ByteArray) (a8 : List Int) (a9 : Int) (a10 : List ((Int × (Int × Unit)))) (a11 : Int) (a12 : Int) (K : List PV → List RowS → Option R) : callC T F k 27 [.agg [.val [] (.int .i64) a0, .val [] (.int .i64) a1, .val [] (.int .i64) a2, .val [] (.int .i64) a3, .val [] (.int .i64) a4], .agg [.val [] (.int .i64) a5, .val [] (.int .i64) a6, .val [] .str a7, .val [(0, 0)] (.slice (.int .u8)) a8, .val [] (.int .i64) a9, .val [(0, 0)] (.slice (.prod (.int .i64) (.prod (.int .i64) .unit))) a10, .val [] (.int .i64) a11, .val [] (.int .i64) a12]] [] K = f27 k a0 a1 a2 a3 a4 a5 a6 a7 a8 a9 a10 a11 a12 (fun z0 z1 z2 z3 z4 z5 z6 z7 z8 z9 => K [.agg [.val [] (.int .i64) z0, .val [] (.int .i64) z1, .val [] .str z2, .val [(0, 0)] (.slice (.int .u8)) z3, .val [] (.int .i64) z4, .val [(0, 0)] (.slice (.prod (.int .i64) (.prod (.int .i64) .unit))) z5, .val [] (.int .i64) z6, .val [] (.int .i64) z7], .rw 1, .val [] (.int .i64) z8] [⟨0, .arr [] (.prod (.int .i64) (.prod (.int .i64) (.prod .str (.prod (.int .i64) (.prod (.int .i64) (.prod (.int .i64) (.prod (.slice (.int .u8)) (.prod (.slice (.prod (.int .i64) (.prod (.int .i64) .unit))) (.prod .bool .unit))))))))) z9⟩]) := by
  rw [f27_def]
  cases k with
  | zero => rfl
  | succ k =>
    refine Eq.trans (show _ = exec T an27 (modesOf F) 0 k 31 (callC T F k) (ending T Try.f27 an27 0 K) (bodyOf Try.f27) ⟨argEnv 0 [.agg [.val [] (.int .i64) a0, .val [] (.int .i64) a1, .val [] (.int .i64) a2, .val [] (.int .i64) a3, .val [] (.int .i64) a4], .agg [.val [] (.int .i64) a5, .val [] (.int .i64) a6, .val [] .str a7, .val [(0, 0)] (.slice (.int .u8)) a8, .val [] (.int .i64) a9, .val [(0, 0)] (.slice (.prod (.int .i64) (.prod (.int .i64) .unit))) a10, .val [] (.int .i64) a11, .val [] (.int .i64) a12]] (fun _ => none), rowsOf []⟩ (ending T Try.f27 an27 0 K) (fun _ _ => none) from by kernel_rfl) ?_
    rw [← S27_eq k, ← execS_eq T an27 (modesOf F) 0 k 31 (S27 k) (fun _ _ _ _ _ => none) (bodyOf Try.f27) (cuts_of _ _ _ _ _ _ _ _ (bodyOf Try.f27) (l := []) (by kernel_rfl) trivial)]
    kernel_rfl
noncomputable def s27 (k : Nat) (a : List PV) (r : List RowS) (K : List PV → List RowS → Option R) : Option R :=
  onShape [.agg [.val [] (.int .i64), .val [] (.int .i64), .val [] (.int .i64), .val [] (.int .i64), .val [] (.int .i64)], .agg [.val [] (.int .i64), .val [] (.int .i64), .val [] .str, .val [(0, 0)] (.slice (.int .u8)), .val [] (.int .i64), .val [(0, 0)] (.slice (.prod (.int .i64) (.prod (.int .i64) .unit))), .val [] (.int .i64), .val [] (.int .i64)]] [] (fun v => f27 k v.1.1.1 v.1.1.2.1 v.1.1.2.2.1 v.1.1.2.2.2.1 v.1.1.2.2.2.2.1 v.1.2.1.1 v.1.2.1.2.1 v.1.2.1.2.2.1 v.1.2.1.2.2.2.1 v.1.2.1.2.2.2.2.1 v.1.2.1.2.2.2.2.2.1 v.1.2.1.2.2.2.2.2.2.1 v.1.2.1.2.2.2.2.2.2.2.1 (fun z0 z1 z2 z3 z4 z5 z6 z7 z8 z9 => K [.agg [.val [] (.int .i64) z0, .val [] (.int .i64) z1, .val [] .str z2, .val [(0, 0)] (.slice (.int .u8)) z3, .val [] (.int .i64) z4, .val [(0, 0)] (.slice (.prod (.int .i64) (.prod (.int .i64) .unit))) z5, .val [] (.int .i64) z6, .val [] (.int .i64) z7], .rw 1, .val [] (.int .i64) z8] [⟨0, .arr [] (.prod (.int .i64) (.prod (.int .i64) (.prod .str (.prod (.int .i64) (.prod (.int .i64) (.prod (.int .i64) (.prod (.slice (.int .u8)) (.prod (.slice (.prod (.int .i64) (.prod (.int .i64) .unit))) (.prod .bool .unit))))))))) z9⟩])) (callC T F k 27 a r K) a r
theorem s27_eq (k : Nat) (a : List PV) (r : List RowS) (K : List PV → List RowS → Option R) : s27 k a r K = callC T F k 27 a r K := by
  unfold s27
  exact onShape_eq (a := [.agg [.val [] (.int .i64), .val [] (.int .i64), .val [] (.int .i64), .val [] (.int .i64), .val [] (.int .i64)], .agg [.val [] (.int .i64), .val [] (.int .i64), .val [] .str, .val [(0, 0)] (.slice (.int .u8)), .val [] (.int .i64), .val [(0, 0)] (.slice (.prod (.int .i64) (.prod (.int .i64) .unit))), .val [] (.int .i64), .val [] (.int .i64)]]) (b := []) (G := fun a r => callC T F k 27 a r K) (fun x y => Eq.trans (by kernel_rfl) (Eq.trans (e27 k x.1.1 x.1.2.1 x.1.2.2.1 x.1.2.2.2.1 x.1.2.2.2.2.1 x.2.1.1 x.2.1.2.1 x.2.1.2.2.1 x.2.1.2.2.2.1 x.2.1.2.2.2.2.1 x.2.1.2.2.2.2.2.1 x.2.1.2.2.2.2.2.2.1 x.2.1.2.2.2.2.2.2.2.1 K).symm (by kernel_rfl))) a r
end
end Go.Proofs.Ytlcklflbhhnnhaa.PM
