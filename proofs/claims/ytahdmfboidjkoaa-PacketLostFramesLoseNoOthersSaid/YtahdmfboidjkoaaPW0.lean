/- The small machine's run is the typed form (printed by a program of this work). -/
import Derived.Test.YtahdmfboidjkoaaPA0
set_option linter.unusedVariables false
set_option linter.unusedSimpArgs false
set_option maxRecDepth 100000
namespace Go.Proofs.Ytahdmfboidjkoaa.PM
open Go
noncomputable def F : Nat → Option PFn := findN [(66, .code Try.f66 an66), (96, .code Try.f96 an96), (75, .code Try.f75 an75), (35, .code Try.f35 an35), (65, .code Try.f65 an65), (19, .code Try.f19 an19), (67, .code Try.f67 an67), (41, .ext [.lend (.int .u8)] (cloneSpec (.int .u8) 1)), (22, .code Try.f22 an22), (85, .code Try.f85 an85), (50, .code Try.f50 an50), (69, .code Try.f69 an69), (76, .code Try.f76 an76), (77, .code Try.f77 an77), (36, .code Try.f36 an36), (78, .code Try.f78 an78), (40, .code Try.f40 an40), (68, .code Try.f68 an68), (20, .code Try.f20 an20), (23, .code Try.f23 an23), (86, .code Try.f86 an86), (51, .code Try.f51 an51), (32, .code Try.f32 an32), (24, .code Try.f24 an24), (27, .code Try.f27 an27), (21, .code Try.f21 an21), (12, .code Try.f12 an12), (30, .code Try.f30 an30), (83, .code Try.f83 an83), (72, .code Try.f72 an72), (73, .code Try.f73 an73), (70, .code Try.f70 an70), (48, .code Try.f48 an48), (14, .code Try.f14 an14), (15, .code Try.f15 an15)]
section
variable {R : Type}
noncomputable def S66 (k g : Nat) (a : List PV) (r : List RowS) (K : List PV → List RowS → Option R) : Option R := callC T F k g a r K
theorem S66_eq (k : Nat) : S66 (R := R) k = callC T F k := by
  funext g a r K
  exact rfl
theorem e66 (k : Nat) (a0 : Int) (a1 : Int) (a2 : Int) (K : List PV → List RowS → Option R) : callC T F k 66 [.val [] (.int .i64) a0, .val [] (.int .i64) a1, .val [] (.int .i64) a2] [] K = f66 k a0 a1 a2 (fun z0 => K [.val [] .bool z0] []) := by
  rw [f66_def]
  cases k with
  | zero => rfl
  | succ k =>
    refine Eq.trans (show _ = exec T an66 (modesOf F) 0 k 15 (callC T F k) (ending T Try.f66 an66 0 K) (bodyOf Try.f66) ⟨argEnv 0 [.val [] (.int .i64) a0, .val [] (.int .i64) a1, .val [] (.int .i64) a2] (fun _ => none), rowsOf []⟩ (ending T Try.f66 an66 0 K) (fun _ _ => none) from by kernel_rfl) ?_
    rw [← S66_eq k, ← execS_eq T an66 (modesOf F) 0 k 15 (S66 k) (fun _ _ _ _ _ => none) (bodyOf Try.f66) (cuts_of _ _ _ _ _ _ _ _ (bodyOf Try.f66) (l := []) (by kernel_rfl) trivial)]
    kernel_rfl
noncomputable def s66 (k : Nat) (a : List PV) (r : List RowS) (K : List PV → List RowS → Option R) : Option R :=
  onShape [.val [] (.int .i64), .val [] (.int .i64), .val [] (.int .i64)] [] (fun v => f66 k v.1.1 v.1.2.1 v.1.2.2.1 (fun z0 => K [.val [] .bool z0] [])) (callC T F k 66 a r K) a r
theorem s66_eq (k : Nat) (a : List PV) (r : List RowS) (K : List PV → List RowS → Option R) : s66 k a r K = callC T F k 66 a r K := by
  unfold s66
  exact onShape_eq (a := [.val [] (.int .i64), .val [] (.int .i64), .val [] (.int .i64)]) (b := []) (G := fun a r => callC T F k 66 a r K) (fun x y => Eq.trans (by kernel_rfl) (Eq.trans (e66 k x.1 x.2.1 x.2.2.1 K).symm (by kernel_rfl))) a r
end
section
variable {R : Type}
noncomputable def S96 (k g : Nat) (a : List PV) (r : List RowS) (K : List PV → List RowS → Option R) : Option R := bif g == 66 then s66 k a r K else callC T F k g a r K
theorem S96_eq (k : Nat) : S96 (R := R) k = callC T F k := by
  funext g a r K
  exact pick_eq (fun e => by subst e; exact s66_eq k a r K) (rfl)
theorem e96 (k : Nat) (a0 : Int) (a1 : Int) (a2 : Int) (K : List PV → List RowS → Option R) : callC T F k 96 [.val [] (.int .i64) a0, .val [] (.int .i64) a1, .val [] (.int .i64) a2] [] K = f96 k a0 a1 a2 (fun z0 => K [.val [] (.int .i64) z0] []) := by
  rw [f96_def]
  cases k with
  | zero => rfl
  | succ k =>
    refine Eq.trans (show _ = exec T an96 (modesOf F) 0 k 12 (callC T F k) (ending T Try.f96 an96 0 K) (bodyOf Try.f96) ⟨argEnv 0 [.val [] (.int .i64) a0, .val [] (.int .i64) a1, .val [] (.int .i64) a2] (fun _ => none), rowsOf []⟩ (ending T Try.f96 an96 0 K) (fun _ _ => none) from by kernel_rfl) ?_
    rw [← S96_eq k, ← execS_eq T an96 (modesOf F) 0 k 12 (S96 k) (fun _ _ _ _ _ => none) (bodyOf Try.f96) (cuts_of _ _ _ _ _ _ _ _ (bodyOf Try.f96) (l := []) (by kernel_rfl) trivial)]
    kernel_rfl
noncomputable def s96 (k : Nat) (a : List PV) (r : List RowS) (K : List PV → List RowS → Option R) : Option R :=
  onShape [.val [] (.int .i64), .val [] (.int .i64), .val [] (.int .i64)] [] (fun v => f96 k v.1.1 v.1.2.1 v.1.2.2.1 (fun z0 => K [.val [] (.int .i64) z0] [])) (callC T F k 96 a r K) a r
theorem s96_eq (k : Nat) (a : List PV) (r : List RowS) (K : List PV → List RowS → Option R) : s96 k a r K = callC T F k 96 a r K := by
  unfold s96
  exact onShape_eq (a := [.val [] (.int .i64), .val [] (.int .i64), .val [] (.int .i64)]) (b := []) (G := fun a r => callC T F k 96 a r K) (fun x y => Eq.trans (by kernel_rfl) (Eq.trans (e96 k x.1 x.2.1 x.2.2.1 K).symm (by kernel_rfl))) a r
end
section
variable {R : Type}
noncomputable def S75 (k g : Nat) (a : List PV) (r : List RowS) (K : List PV → List RowS → Option R) : Option R := bif g == 96 then s96 k a r K else callC T F k g a r K
theorem S75_eq (k : Nat) : S75 (R := R) k = callC T F k := by
  funext g a r K
  exact pick_eq (fun e => by subst e; exact s96_eq k a r K) (rfl)
theorem e75 (k : Nat) (a0 : Int) (K : List PV → List RowS → Option R) : callC T F k 75 [.val [] (.int .i64) a0] [] K = f75 k a0 (fun z0 => K [.val [] (.int .i64) z0] []) := by
  rw [f75_def]
  cases k with
  | zero => rfl
  | succ k =>
    refine Eq.trans (show _ = exec T an75 (modesOf F) 0 k 5 (callC T F k) (ending T Try.f75 an75 0 K) (bodyOf Try.f75) ⟨argEnv 0 [.val [] (.int .i64) a0] (fun _ => none), rowsOf []⟩ (ending T Try.f75 an75 0 K) (fun _ _ => none) from by kernel_rfl) ?_
    rw [← S75_eq k, ← execS_eq T an75 (modesOf F) 0 k 5 (S75 k) (fun _ _ _ _ _ => none) (bodyOf Try.f75) (cuts_of _ _ _ _ _ _ _ _ (bodyOf Try.f75) (l := []) (by kernel_rfl) trivial)]
    kernel_rfl
noncomputable def s75 (k : Nat) (a : List PV) (r : List RowS) (K : List PV → List RowS → Option R) : Option R :=
  onShape [.val [] (.int .i64)] [] (fun v => f75 k v.1.1 (fun z0 => K [.val [] (.int .i64) z0] [])) (callC T F k 75 a r K) a r
theorem s75_eq (k : Nat) (a : List PV) (r : List RowS) (K : List PV → List RowS → Option R) : s75 k a r K = callC T F k 75 a r K := by
  unfold s75
  exact onShape_eq (a := [.val [] (.int .i64)]) (b := []) (G := fun a r => callC T F k 75 a r K) (fun x y => Eq.trans (by kernel_rfl) (Eq.trans (e75 k x.1 K).symm (by kernel_rfl))) a r
end
section
variable {R : Type}
noncomputable def S35 (k g : Nat) (a : List PV) (r : List RowS) (K : List PV → List RowS → Option R) : Option R := bif g == 66 then s66 k a r K else bif g == 75 then s75 k a r K else callC T F k g a r K
theorem S35_eq (k : Nat) : S35 (R := R) k = callC T F k := by
  funext g a r K
  exact pick_eq (fun e => by subst e; exact s66_eq k a r K) (pick_eq (fun e => by subst e; exact s75_eq k a r K) (rfl))
theorem e35 (k : Nat) (a0 : Int) (a1 : Int) (a2 : Int) (a3 : Int) (a4 : List Int) (a5 : Int) (K : List PV → List RowS → Option R) : callC T F k 35 [.agg [.val [] (.int .i64) a0, .val [] (.int .i64) a1, .val [] (.int .i64) a2, .val [] (.int .i64) a3, .val [(0, 0)] (.slice (.int .u8)) a4], .val [] (.int .i64) a5] [] K = f35 k a0 a1 a2 a3 a4 a5 (fun z0 => K [.val [] (.int .i64) z0] []) := by
  rw [f35_def]
  cases k with
  | zero => rfl
  | succ k =>
    refine Eq.trans (show _ = exec T an35 (modesOf F) 0 k 47 (callC T F k) (ending T Try.f35 an35 0 K) (bodyOf Try.f35) ⟨argEnv 0 [.agg [.val [] (.int .i64) a0, .val [] (.int .i64) a1, .val [] (.int .i64) a2, .val [] (.int .i64) a3, .val [(0, 0)] (.slice (.int .u8)) a4], .val [] (.int .i64) a5] (fun _ => none), rowsOf []⟩ (ending T Try.f35 an35 0 K) (fun _ _ => none) from by kernel_rfl) ?_
    rw [← S35_eq k, ← execS_eq T an35 (modesOf F) 0 k 47 (S35 k) (fun _ _ _ _ _ => none) (bodyOf Try.f35) (cuts_of _ _ _ _ _ _ _ _ (bodyOf Try.f35) (l := []) (by kernel_rfl) trivial)]
    kernel_rfl
noncomputable def s35 (k : Nat) (a : List PV) (r : List RowS) (K : List PV → List RowS → Option R) : Option R :=
  onShape [.agg [.val [] (.int .i64), .val [] (.int .i64), .val [] (.int .i64), .val [] (.int .i64), .val [(0, 0)] (.slice (.int .u8))], .val [] (.int .i64)] [] (fun v => f35 k v.1.1.1 v.1.1.2.1 v.1.1.2.2.1 v.1.1.2.2.2.1 v.1.1.2.2.2.2.1 v.1.2.1 (fun z0 => K [.val [] (.int .i64) z0] [])) (callC T F k 35 a r K) a r
theorem s35_eq (k : Nat) (a : List PV) (r : List RowS) (K : List PV → List RowS → Option R) : s35 k a r K = callC T F k 35 a r K := by
  unfold s35
  exact onShape_eq (a := [.agg [.val [] (.int .i64), .val [] (.int .i64), .val [] (.int .i64), .val [] (.int .i64), .val [(0, 0)] (.slice (.int .u8))], .val [] (.int .i64)]) (b := []) (G := fun a r => callC T F k 35 a r K) (fun x y => Eq.trans (by kernel_rfl) (Eq.trans (e35 k x.1.1 x.1.2.1 x.1.2.2.1 x.1.2.2.2.1 x.1.2.2.2.2.1 x.2.1 K).symm (by kernel_rfl))) a r
end
section
variable {R : Type}
noncomputable def S65 (k g : Nat) (a : List PV) (r : List RowS) (K : List PV → List RowS → Option R) : Option R := callC T F k g a r K
theorem S65_eq (k : Nat) : S65 (R := R) k = callC T F k := by
  funext g a r K
  exact rfl
theorem e65 (k : Nat) (a0 : List Int) (K : List PV → List RowS → Option R) : callC T F k 65 [.val [(0, 0)] (.slice (.int .u8)) a0] [] K = f65 k a0 (fun z0 => K [.val [] (.int .i64) z0] []) := by
  rw [f65_def]
  cases k with
  | zero => rfl
  | succ k =>
    refine Eq.trans (show _ = exec T an65 (modesOf F) 0 k 13 (callC T F k) (ending T Try.f65 an65 0 K) (bodyOf Try.f65) ⟨argEnv 0 [.val [(0, 0)] (.slice (.int .u8)) a0] (fun _ => none), rowsOf []⟩ (ending T Try.f65 an65 0 K) (fun _ _ => none) from by kernel_rfl) ?_
    rw [← S65_eq k, ← execS_eq T an65 (modesOf F) 0 k 13 (S65 k) (fun _ _ _ _ _ => none) (bodyOf Try.f65) (cuts_of _ _ _ _ _ _ _ _ (bodyOf Try.f65) (l := []) (by kernel_rfl) trivial)]
    kernel_rfl
noncomputable def s65 (k : Nat) (a : List PV) (r : List RowS) (K : List PV → List RowS → Option R) : Option R :=
  onShape [.val [(0, 0)] (.slice (.int .u8))] [] (fun v => f65 k v.1.1 (fun z0 => K [.val [] (.int .i64) z0] [])) (callC T F k 65 a r K) a r
theorem s65_eq (k : Nat) (a : List PV) (r : List RowS) (K : List PV → List RowS → Option R) : s65 k a r K = callC T F k 65 a r K := by
  unfold s65
  exact onShape_eq (a := [.val [(0, 0)] (.slice (.int .u8))]) (b := []) (G := fun a r => callC T F k 65 a r K) (fun x y => Eq.trans (by kernel_rfl) (Eq.trans (e65 k x.1 K).symm (by kernel_rfl))) a r
end
section
variable {R : Type}
noncomputable def S19 (k g : Nat) (a : List PV) (r : List RowS) (K : List PV → List RowS → Option R) : Option R := callC T F k g a r K
theorem S19_eq (k : Nat) : S19 (R := R) k = callC T F k := by
  funext g a r K
  exact rfl
section
variable {R : Type} (k : Nat) (K : List PV → List RowS → Option R)
noncomputable def L19_1000010 (ws : List PV) (rs : List RowS) (N : St → Option R) (X : Nat → St → Option R) : Option R :=
  onShape [.val [] (.int .i64), .val [(0, 0)] (.slice (.int .u8)), .val [] (.int .i64), .val [] (.int .i64), .val [] (.int .i64), .val [] .bool] [] (fun v => f19_1000010 k (fun yN_0 => N (sh fi19_10 [.val [] (.int .i64) yN_0, .val [(0, 0)] (.slice (.int .u8)) v.1.2.1, .val [] (.int .i64) v.1.2.2.1, .val [] (.int .i64) v.1.2.2.2.1, .val [] (.int .i64) v.1.2.2.2.2.1] [])) v.1.1 v.1.2.1 v.1.2.2.1 v.1.2.2.2.1 v.1.2.2.2.2.1 v.1.2.2.2.2.2.1) (inner T an19 (modesOf F) 0 k 29 (S19 k) (ending T Try.f19 an19 0 K) cd19_1000010 (sh sp19_1000010 ws rs) N X) ws rs
noncomputable def L19_2 (ws : List PV) (rs : List RowS) (N : St → Option R) (X : Nat → St → Option R) : Option R :=
  onShape [.val [] (.int .i64), .val [(0, 0)] (.slice (.int .u8)), .val [] (.int .i64), .val [] (.int .i64), .val [] (.int .i64)] [] (fun v => f19_2 k (fun y2_0 => N (sh jn19_2 [.val [] (.int .i64) y2_0, .val [(0, 0)] (.slice (.int .u8)) v.1.2.1, .val [] (.int .i64) v.1.2.2.1, .val [] (.int .i64) v.1.2.2.2.1] [])) v.1.2.1 v.1.2.2.1 v.1.2.2.2.1 k v.1.1 v.1.2.2.2.2.1) (inner T an19 (modesOf F) 0 k 29 (S19 k) (ending T Try.f19 an19 0 K) cd19_2 (sh sp19_2 ws rs) N X) ws rs
noncomputable def L19_0 (ws : List PV) (rs : List RowS) (N : St → Option R) (X : Nat → St → Option R) : Option R :=
  onShape [.val [] (.int .i64), .val [(0, 0)] (.slice (.int .u8)), .val [] (.int .i64), .val [] (.int .i64)] [] (fun v => f19_0 k (fun y0_0 => N (sh jn19_0 [.val [] (.int .i64) y0_0] [])) v.1.2.1 v.1.2.2.1 k v.1.1 v.1.2.2.2.1) (inner T an19 (modesOf F) 0 k 29 (S19 k) (ending T Try.f19 an19 0 K) cd19_0 (sh sp19_0 ws rs) N X) ws rs
noncomputable def L19 (id : Nat) (ws : List PV) (rs : List RowS) (N : St → Option R) (X : Nat → St → Option R) : Option R := bif id == 1000010 then L19_1000010 k K ws rs N X else bif id == 2 then L19_2 k K ws rs N X else bif id == 0 then L19_0 k K ws rs N X else none
theorem l19_1000010 (ws : List PV) (rs : List RowS) (N : St → Option R) (X : Nat → St → Option R) : L19 k K 1000010 ws rs N X = inner T an19 (modesOf F) 0 k 29 (S19 k) (ending T Try.f19 an19 0 K) cd19_1000010 (sh sp19_1000010 ws rs) N X := by
  show L19_1000010 k K ws rs N X = _
  unfold L19_1000010
  rw [f19_1000010_def]
  exact onShape_eq (a := [.val [] (.int .i64), .val [(0, 0)] (.slice (.int .u8)), .val [] (.int .i64), .val [] (.int .i64), .val [] (.int .i64), .val [] .bool]) (b := []) (G := fun ws rs => inner T an19 (modesOf F) 0 k 29 (S19 k) (ending T Try.f19 an19 0 K) cd19_1000010 (sh sp19_1000010 ws rs) N X) (fun x y => Eq.trans (by kernel_rfl) (innerS_eq T an19 (modesOf F) 0 k 29 (S19 k) (L19 k K) cd19_1000010 (l := []) (by kernel_rfl) trivial _ N X)) ws rs
theorem b19_2 (rec : St → Option R) (N : St → Option R) (X : Nat → St → Option R) (v2_1 : List Int) (v2_2 : Int) (v2_3 : Int) (v2_0 : Int) (v2_4 : Int) :
    execS T an19 (modesOf F) 0 k 29 (S19 k) (L19 k K) (ending T Try.f19 an19 0 K) bd19_2 (sh sp19_2 [.val [] (.int .i64) v2_0, .val [(0, 0)] (.slice (.int .u8)) v2_1, .val [] (.int .i64) v2_2, .val [] (.int .i64) v2_3, .val [] (.int .i64) v2_4] []) (fun st => atHead an19 0 bd19_2 st rec) (outX an19 0 2 N X) =
      f19_2b k (fun v2_0 v2_4 => rec (sh sp19_2 [.val [] (.int .i64) v2_0, .val [(0, 0)] (.slice (.int .u8)) v2_1, .val [] (.int .i64) v2_2, .val [] (.int .i64) v2_3, .val [] (.int .i64) v2_4] [])) (fun y2_0 => N (sh jn19_2 [.val [] (.int .i64) y2_0, .val [(0, 0)] (.slice (.int .u8)) v2_1, .val [] (.int .i64) v2_2, .val [] (.int .i64) v2_3] [])) v2_1 v2_2 v2_3 v2_0 v2_4 := by kernel_rfl
theorem i19_2 (N : St → Option R) (X : Nat → St → Option R) (v2_1 : List Int) (v2_2 : Int) (v2_3 : Int) (m : Nat) : ∀ (v2_0 : Int) (v2_4 : Int),
    iter (atHead an19 0 bd19_2) m (fun st N' => exec T an19 (modesOf F) 0 k 29 (S19 k) (ending T Try.f19 an19 0 K) bd19_2 st N' (outX an19 0 2 N X)) (sh sp19_2 [.val [] (.int .i64) v2_0, .val [(0, 0)] (.slice (.int .u8)) v2_1, .val [] (.int .i64) v2_2, .val [] (.int .i64) v2_3, .val [] (.int .i64) v2_4] []) = f19_2d k (fun y2_0 => N (sh jn19_2 [.val [] (.int .i64) y2_0, .val [(0, 0)] (.slice (.int .u8)) v2_1, .val [] (.int .i64) v2_2, .val [] (.int .i64) v2_3] [])) v2_1 v2_2 v2_3 m v2_0 v2_4 := by
  induction m with
  | zero => intros; rfl
  | succ m ih =>
    intro v2_0 v2_4
    simp only [iter]
    rw [← execS_eq T an19 (modesOf F) 0 k 29 (S19 k) (L19 k K) bd19_2 (cuts_of _ _ _ _ _ _ _ _ bd19_2 (l := [(1000010, sp19_1000010, cd19_1000010)]) (by kernel_rfl) ⟨l19_1000010 k K, trivial⟩)]
    refine (b19_2 k K _ N X v2_1 v2_2 v2_3 v2_0 v2_4).trans ?_
    simp only [f19_2d, ih]
theorem l19_2 (ws : List PV) (rs : List RowS) (N : St → Option R) (X : Nat → St → Option R) : L19 k K 2 ws rs N X = inner T an19 (modesOf F) 0 k 29 (S19 k) (ending T Try.f19 an19 0 K) cd19_2 (sh sp19_2 ws rs) N X := by
  show L19_2 k K ws rs N X = _
  unfold L19_2
  rw [f19_2_def]
  exact onShape_eq (a := [.val [] (.int .i64), .val [(0, 0)] (.slice (.int .u8)), .val [] (.int .i64), .val [] (.int .i64), .val [] (.int .i64)]) (b := []) (G := fun ws rs => inner T an19 (modesOf F) 0 k 29 (S19 k) (ending T Try.f19 an19 0 K) cd19_2 (sh sp19_2 ws rs) N X) (fun x y => Eq.trans (by kernel_rfl) (Eq.trans (i19_2 k K N X x.2.1 x.2.2.1 x.2.2.2.1 k x.1 x.2.2.2.2.1).symm (by kernel_rfl))) ws rs
theorem b19_0 (rec : St → Option R) (N : St → Option R) (X : Nat → St → Option R) (v0_1 : List Int) (v0_2 : Int) (v0_0 : Int) (v0_3 : Int) :
    execS T an19 (modesOf F) 0 k 29 (S19 k) (L19 k K) (ending T Try.f19 an19 0 K) bd19_0 (sh sp19_0 [.val [] (.int .i64) v0_0, .val [(0, 0)] (.slice (.int .u8)) v0_1, .val [] (.int .i64) v0_2, .val [] (.int .i64) v0_3] []) (fun st => atHead an19 0 bd19_0 st rec) (outX an19 0 0 N X) =
      f19_0b k (fun v0_0 v0_3 => rec (sh sp19_0 [.val [] (.int .i64) v0_0, .val [(0, 0)] (.slice (.int .u8)) v0_1, .val [] (.int .i64) v0_2, .val [] (.int .i64) v0_3] [])) (fun y0_0 => N (sh jn19_0 [.val [] (.int .i64) y0_0] [])) v0_1 v0_2 v0_0 v0_3 := by kernel_rfl
theorem i19_0 (N : St → Option R) (X : Nat → St → Option R) (v0_1 : List Int) (v0_2 : Int) (m : Nat) : ∀ (v0_0 : Int) (v0_3 : Int),
    iter (atHead an19 0 bd19_0) m (fun st N' => exec T an19 (modesOf F) 0 k 29 (S19 k) (ending T Try.f19 an19 0 K) bd19_0 st N' (outX an19 0 0 N X)) (sh sp19_0 [.val [] (.int .i64) v0_0, .val [(0, 0)] (.slice (.int .u8)) v0_1, .val [] (.int .i64) v0_2, .val [] (.int .i64) v0_3] []) = f19_0d k (fun y0_0 => N (sh jn19_0 [.val [] (.int .i64) y0_0] [])) v0_1 v0_2 m v0_0 v0_3 := by
  induction m with
  | zero => intros; rfl
  | succ m ih =>
    intro v0_0 v0_3
    simp only [iter]
    rw [← execS_eq T an19 (modesOf F) 0 k 29 (S19 k) (L19 k K) bd19_0 (cuts_of _ _ _ _ _ _ _ _ bd19_0 (l := [(2, sp19_2, cd19_2)]) (by kernel_rfl) ⟨l19_2 k K, trivial⟩)]
    refine (b19_0 k K _ N X v0_1 v0_2 v0_0 v0_3).trans ?_
    simp only [f19_0d, ih]
theorem l19_0 (ws : List PV) (rs : List RowS) (N : St → Option R) (X : Nat → St → Option R) : L19 k K 0 ws rs N X = inner T an19 (modesOf F) 0 k 29 (S19 k) (ending T Try.f19 an19 0 K) cd19_0 (sh sp19_0 ws rs) N X := by
  show L19_0 k K ws rs N X = _
  unfold L19_0
  rw [f19_0_def]
  exact onShape_eq (a := [.val [] (.int .i64), .val [(0, 0)] (.slice (.int .u8)), .val [] (.int .i64), .val [] (.int .i64)]) (b := []) (G := fun ws rs => inner T an19 (modesOf F) 0 k 29 (S19 k) (ending T Try.f19 an19 0 K) cd19_0 (sh sp19_0 ws rs) N X) (fun x y => Eq.trans (by kernel_rfl) (Eq.trans (i19_0 k K N X x.2.1 x.2.2.1 k x.1 x.2.2.2.1).symm (by kernel_rfl))) ws rs
end
theorem e19 (k : Nat) (a0 : List Int) (K : List PV → List RowS → Option R) : callC T F k 19 [.val [(0, 0)] (.slice (.int .u8)) a0] [] K = f19 k a0 (fun z0 => K [.val [] (.int .i64) z0] []) := by
  rw [f19_def]
  cases k with
  | zero => rfl
  | succ k =>
    refine Eq.trans (show _ = exec T an19 (modesOf F) 0 k 29 (callC T F k) (ending T Try.f19 an19 0 K) (bodyOf Try.f19) ⟨argEnv 0 [.val [(0, 0)] (.slice (.int .u8)) a0] (fun _ => none), rowsOf []⟩ (ending T Try.f19 an19 0 K) (fun _ _ => none) from by kernel_rfl) ?_
    rw [← S19_eq k, ← execS_eq T an19 (modesOf F) 0 k 29 (S19 k) (L19 k K) (bodyOf Try.f19) (cuts_of _ _ _ _ _ _ _ _ (bodyOf Try.f19) (l := [(0, sp19_0, cd19_0)]) (by kernel_rfl) ⟨l19_0 k K, trivial⟩)]
    kernel_rfl
noncomputable def s19 (k : Nat) (a : List PV) (r : List RowS) (K : List PV → List RowS → Option R) : Option R :=
  onShape [.val [(0, 0)] (.slice (.int .u8))] [] (fun v => f19 k v.1.1 (fun z0 => K [.val [] (.int .i64) z0] [])) (callC T F k 19 a r K) a r
theorem s19_eq (k : Nat) (a : List PV) (r : List RowS) (K : List PV → List RowS → Option R) : s19 k a r K = callC T F k 19 a r K := by
  unfold s19
  exact onShape_eq (a := [.val [(0, 0)] (.slice (.int .u8))]) (b := []) (G := fun a r => callC T F k 19 a r K) (fun x y => Eq.trans (by kernel_rfl) (Eq.trans (e19 k x.1 K).symm (by kernel_rfl))) a r
end
section
variable {R : Type}
noncomputable def S67 (k g : Nat) (a : List PV) (r : List RowS) (K : List PV → List RowS → Option R) : Option R := bif g == 19 then s19 k a r K else bif g == 65 then s65 k a r K else callC T F k g a r K
theorem S67_eq (k : Nat) : S67 (R := R) k = callC T F k := by
  funext g a r K
  exact pick_eq (fun e => by subst e; exact s19_eq k a r K) (pick_eq (fun e => by subst e; exact s65_eq k a r K) (rfl))
theorem e67 (k : Nat) (a0 : List Int) (K : List PV → List RowS → Option R) : callC T F k 67 [.val [(0, 0)] (.slice (.int .u8)) a0] [] K = f67 k a0 (fun z0 => K [.val [] .bool z0] []) := by
  rw [f67_def]
  cases k with
  | zero => rfl
  | succ k =>
    refine Eq.trans (show _ = exec T an67 (modesOf F) 0 k 16 (callC T F k) (ending T Try.f67 an67 0 K) (bodyOf Try.f67) ⟨argEnv 0 [.val [(0, 0)] (.slice (.int .u8)) a0] (fun _ => none), rowsOf []⟩ (ending T Try.f67 an67 0 K) (fun _ _ => none) from by kernel_rfl) ?_
    rw [← S67_eq k, ← execS_eq T an67 (modesOf F) 0 k 16 (S67 k) (fun _ _ _ _ _ => none) (bodyOf Try.f67) (cuts_of _ _ _ _ _ _ _ _ (bodyOf Try.f67) (l := []) (by kernel_rfl) trivial)]
    kernel_rfl
noncomputable def s67 (k : Nat) (a : List PV) (r : List RowS) (K : List PV → List RowS → Option R) : Option R :=
  onShape [.val [(0, 0)] (.slice (.int .u8))] [] (fun v => f67 k v.1.1 (fun z0 => K [.val [] .bool z0] [])) (callC T F k 67 a r K) a r
theorem s67_eq (k : Nat) (a : List PV) (r : List RowS) (K : List PV → List RowS → Option R) : s67 k a r K = callC T F k 67 a r K := by
  unfold s67
  exact onShape_eq (a := [.val [(0, 0)] (.slice (.int .u8))]) (b := []) (G := fun a r => callC T F k 67 a r K) (fun x y => Eq.trans (by kernel_rfl) (Eq.trans (e67 k x.1 K).symm (by kernel_rfl))) a r
end
section
variable {R : Type}
theorem e41 (k : Nat) (a0 : List Int) (K : List PV → List RowS → Option R) : callC T F k 41 [.val [(0, 0)] (.slice (.int .u8)) a0] [] K = f41 k a0 (fun z0 => K [.rw 1] [⟨0, .arr [] (.int .u8) z0⟩]) := by
  rw [f41_def]
  cases k with
  | zero => rfl
  | succ k => exact clone_call (m := [.lend (.int .u8)]) (ty := (.int .u8)) (bytes := 1) (by kernel_rfl) a0 K
noncomputable def s41 (k : Nat) (a : List PV) (r : List RowS) (K : List PV → List RowS → Option R) : Option R :=
  onShape [.val [(0, 0)] (.slice (.int .u8))] [] (fun v => f41 k v.1.1 (fun z0 => K [.rw 1] [⟨0, .arr [] (.int .u8) z0⟩])) (callC T F k 41 a r K) a r
theorem s41_eq (k : Nat) (a : List PV) (r : List RowS) (K : List PV → List RowS → Option R) : s41 k a r K = callC T F k 41 a r K := by
  unfold s41
  exact onShape_eq (a := [.val [(0, 0)] (.slice (.int .u8))]) (b := []) (G := fun a r => callC T F k 41 a r K) (fun x y => Eq.trans (by kernel_rfl) (Eq.trans (e41 k x.1 K).symm (by kernel_rfl))) a r
end
section
variable {R : Type}
noncomputable def S22 (k g : Nat) (a : List PV) (r : List RowS) (K : List PV → List RowS → Option R) : Option R := bif g == 41 then s41 k a r K else bif g == 65 then s65 k a r K else bif g == 66 then s66 k a r K else bif g == 67 then s67 k a r K else callC T F k g a r K
theorem S22_eq (k : Nat) : S22 (R := R) k = callC T F k := by
  funext g a r K
  exact pick_eq (fun e => by subst e; exact s41_eq k a r K) (pick_eq (fun e => by subst e; exact s65_eq k a r K) (pick_eq (fun e => by subst e; exact s66_eq k a r K) (pick_eq (fun e => by subst e; exact s67_eq k a r K) (rfl))))
theorem e22 (k : Nat) (a0 : List Int) (K : List PV → List RowS → Option R) : callC T F k 22 [.val [(0, 0)] (.slice (.int .u8)) a0] [] K = f22 k a0 (fun z0 z1 z2 z3 z4 z5 z6 => K [.agg [.val [] (.int .i64) z0, .val [] .bool z1, .val [] (.int .i64) z2, .val [] (.int .i64) z3, .rw 1], .val [] (.int .i64) z4, .val [] (.int .i64) z5] [⟨0, .arr [] (.int .u8) z6⟩]) := by
  rw [f22_def]
  cases k with
  | zero => rfl
  | succ k =>
    refine Eq.trans (show _ = exec T an22 (modesOf F) 0 k 61 (callC T F k) (ending T Try.f22 an22 0 K) (bodyOf Try.f22) ⟨argEnv 0 [.val [(0, 0)] (.slice (.int .u8)) a0] (fun _ => none), rowsOf []⟩ (ending T Try.f22 an22 0 K) (fun _ _ => none) from by kernel_rfl) ?_
    rw [← S22_eq k, ← execS_eq T an22 (modesOf F) 0 k 61 (S22 k) (fun _ _ _ _ _ => none) (bodyOf Try.f22) (cuts_of _ _ _ _ _ _ _ _ (bodyOf Try.f22) (l := []) (by kernel_rfl) trivial)]
    kernel_rfl
noncomputable def s22 (k : Nat) (a : List PV) (r : List RowS) (K : List PV → List RowS → Option R) : Option R :=
  onShape [.val [(0, 0)] (.slice (.int .u8))] [] (fun v => f22 k v.1.1 (fun z0 z1 z2 z3 z4 z5 z6 => K [.agg [.val [] (.int .i64) z0, .val [] .bool z1, .val [] (.int .i64) z2, .val [] (.int .i64) z3, .rw 1], .val [] (.int .i64) z4, .val [] (.int .i64) z5] [⟨0, .arr [] (.int .u8) z6⟩])) (callC T F k 22 a r K) a r
theorem s22_eq (k : Nat) (a : List PV) (r : List RowS) (K : List PV → List RowS → Option R) : s22 k a r K = callC T F k 22 a r K := by
  unfold s22
  exact onShape_eq (a := [.val [(0, 0)] (.slice (.int .u8))]) (b := []) (G := fun a r => callC T F k 22 a r K) (fun x y => Eq.trans (by kernel_rfl) (Eq.trans (e22 k x.1 K).symm (by kernel_rfl))) a r
end
section
variable {R : Type}
noncomputable def S85 (k g : Nat) (a : List PV) (r : List RowS) (K : List PV → List RowS → Option R) : Option R := bif g == 22 then s22 k a r K else callC T F k g a r K
theorem S85_eq (k : Nat) : S85 (R := R) k = callC T F k := by
  funext g a r K
  exact pick_eq (fun e => by subst e; exact s22_eq k a r K) (rfl)
section
variable {R : Type} (k : Nat) (K : List PV → List RowS → Option R)
noncomputable def L85_1000003 (ws : List PV) (rs : List RowS) (N : St → Option R) (X : Nat → St → Option R) : Option R :=
  onShape [.ptr 1 0, .ptr 4 0, .val [(0, 0)] (.slice (.int .u8)), .val [] .bool] [.vars [.rw 2, .val [] .bool, .rw 3, .val [] (.int .i64)], .arr [] (.int .u8), .arr [] (.prod (.int .i64) (.prod .bool (.prod (.int .i64) (.prod (.int .i64) (.prod (.slice (.int .u8)) .unit))))), .vars [.val [] (.int .i64), .val [] (.int .i64), .val [] (.int .i64), .val [] (.int .i64), .val [(0, 0)] (.slice (.int .u8))]] (fun v => f85_1000003 k (fun z0 z1 z2 z3 => K [] [⟨0, .vars [.rw 4, .val [] .bool z0, .rw 5, .val [] (.int .i64) z1]⟩, ⟨0, .gone⟩, ⟨0, .gone⟩, ⟨0, .arr [] (.int .u8) z2⟩, ⟨0, .arr [] (.prod (.int .i64) (.prod .bool (.prod (.int .i64) (.prod (.int .i64) (.prod (.slice (.int .u8)) .unit))))) z3⟩]) (fun yN_0 yN_1 yN_4 => N (sh fi85_3 [.ptr 1 0, .val [(0, 0)] (.slice (.int .u8)) yN_0] [⟨0, .vars [.rw 4, .val [] .bool yN_1, .rw 3, .val [] (.int .i64) v.2.1.2.2.2.1]⟩, ⟨0, .gone⟩, ⟨0, .arr [] (.prod (.int .i64) (.prod .bool (.prod (.int .i64) (.prod (.int .i64) (.prod (.slice (.int .u8)) .unit))))) v.2.2.2.1⟩, ⟨0, .arr [] (.int .u8) yN_4⟩])) v.1.2.2.1 v.1.2.2.2.1 v.2.1.2.1 v.2.1.2.2.2.1 v.2.2.1 v.2.2.2.1 v.2.2.2.2.1.1 v.2.2.2.2.1.2.1 v.2.2.2.2.1.2.2.1 v.2.2.2.2.1.2.2.2.1 v.2.2.2.2.1.2.2.2.2.1) (inner T an85 (modesOf F) 3 k 85 (S85 k) (ending T Try.f85 an85 3 K) cd85_1000003 (sh sp85_1000003 ws rs) N X) ws rs
noncomputable def L85_1000012 (ws : List PV) (rs : List RowS) (N : St → Option R) (X : Nat → St → Option R) : Option R :=
  onShape [.ptr 1 0, .ptr 6 0, .val [] (.int .i64), .val [] .bool] [.vars [.rw 4, .val [] .bool, .rw 5, .val [] (.int .i64)], .gone, .gone, .arr [] (.int .u8), .arr [] (.prod (.int .i64) (.prod .bool (.prod (.int .i64) (.prod (.int .i64) (.prod (.slice (.int .u8)) .unit))))), .vars [.val [] (.int .i64), .val [] .bool, .val [] (.int .i64), .val [] (.int .i64), .rw 7], .arr [] (.int .u8)] (fun v => f85_1000012 k (fun yN_4 => N (sh fi85_12 [.ptr 1 0, .val [] (.int .i64) v.1.2.2.1] [⟨0, .vars [.rw 4, .val [] .bool v.2.1.2.1, .rw 5, .val [] (.int .i64) v.2.1.2.2.2.1]⟩, ⟨0, .gone⟩, ⟨0, .gone⟩, ⟨0, .arr [] (.int .u8) v.2.2.2.2.1⟩, ⟨0, .arr [] (.prod (.int .i64) (.prod .bool (.prod (.int .i64) (.prod (.int .i64) (.prod (.slice (.int .u8)) .unit))))) yN_4⟩])) v.1.2.2.1 v.1.2.2.2.1 v.2.1.2.1 v.2.1.2.2.2.1 v.2.2.2.2.1 v.2.2.2.2.2.1 v.2.2.2.2.2.2.1.1 v.2.2.2.2.2.2.1.2.1 v.2.2.2.2.2.2.1.2.2.1 v.2.2.2.2.2.2.1.2.2.2.1 v.2.2.2.2.2.2.2.1) (inner T an85 (modesOf F) 3 k 85 (S85 k) (ending T Try.f85 an85 3 K) cd85_1000012 (sh sp85_1000012 ws rs) N X) ws rs
noncomputable def L85_0 (ws : List PV) (rs : List RowS) (N : St → Option R) (X : Nat → St → Option R) : Option R :=
  onShape [.ptr 1 0] [.vars [.rw 4, .val [] .bool, .rw 5, .val [] (.int .i64)], .gone, .gone, .arr [] (.int .u8), .arr [] (.prod (.int .i64) (.prod .bool (.prod (.int .i64) (.prod (.int .i64) (.prod (.slice (.int .u8)) .unit)))))] (fun v => f85_0 k (fun z0 z1 z2 z3 => K [] [⟨0, .vars [.rw 4, .val [] .bool z0, .rw 5, .val [] (.int .i64) z1]⟩, ⟨0, .gone⟩, ⟨0, .gone⟩, ⟨0, .arr [] (.int .u8) z2⟩, ⟨0, .arr [] (.prod (.int .i64) (.prod .bool (.prod (.int .i64) (.prod (.int .i64) (.prod (.slice (.int .u8)) .unit))))) z3⟩]) v.2.1.2.1 v.2.1.2.2.2.1 k v.2.2.2.2.1 v.2.2.2.2.2.1) (inner T an85 (modesOf F) 3 k 85 (S85 k) (ending T Try.f85 an85 3 K) cd85_0 (sh sp85_0 ws rs) N X) ws rs
noncomputable def L85 (id : Nat) (ws : List PV) (rs : List RowS) (N : St → Option R) (X : Nat → St → Option R) : Option R := bif id == 1000003 then L85_1000003 k K ws rs N X else bif id == 1000012 then L85_1000012 k K ws rs N X else bif id == 0 then L85_0 k K ws rs N X else none
theorem l85_1000003 (ws : List PV) (rs : List RowS) (N : St → Option R) (X : Nat → St → Option R) : L85 k K 1000003 ws rs N X = inner T an85 (modesOf F) 3 k 85 (S85 k) (ending T Try.f85 an85 3 K) cd85_1000003 (sh sp85_1000003 ws rs) N X := by
  show L85_1000003 k K ws rs N X = _
  unfold L85_1000003
  rw [f85_1000003_def]
  exact onShape_eq (a := [.ptr 1 0, .ptr 4 0, .val [(0, 0)] (.slice (.int .u8)), .val [] .bool]) (b := [.vars [.rw 2, .val [] .bool, .rw 3, .val [] (.int .i64)], .arr [] (.int .u8), .arr [] (.prod (.int .i64) (.prod .bool (.prod (.int .i64) (.prod (.int .i64) (.prod (.slice (.int .u8)) .unit))))), .vars [.val [] (.int .i64), .val [] (.int .i64), .val [] (.int .i64), .val [] (.int .i64), .val [(0, 0)] (.slice (.int .u8))]]) (G := fun ws rs => inner T an85 (modesOf F) 3 k 85 (S85 k) (ending T Try.f85 an85 3 K) cd85_1000003 (sh sp85_1000003 ws rs) N X) (fun x y => Eq.trans (by kernel_rfl) (innerS_eq T an85 (modesOf F) 3 k 85 (S85 k) (L85 k K) cd85_1000003 (l := []) (by kernel_rfl) trivial _ N X)) ws rs
theorem l85_1000012 (ws : List PV) (rs : List RowS) (N : St → Option R) (X : Nat → St → Option R) : L85 k K 1000012 ws rs N X = inner T an85 (modesOf F) 3 k 85 (S85 k) (ending T Try.f85 an85 3 K) cd85_1000012 (sh sp85_1000012 ws rs) N X := by
  show L85_1000012 k K ws rs N X = _
  unfold L85_1000012
  rw [f85_1000012_def]
  exact onShape_eq (a := [.ptr 1 0, .ptr 6 0, .val [] (.int .i64), .val [] .bool]) (b := [.vars [.rw 4, .val [] .bool, .rw 5, .val [] (.int .i64)], .gone, .gone, .arr [] (.int .u8), .arr [] (.prod (.int .i64) (.prod .bool (.prod (.int .i64) (.prod (.int .i64) (.prod (.slice (.int .u8)) .unit))))), .vars [.val [] (.int .i64), .val [] .bool, .val [] (.int .i64), .val [] (.int .i64), .rw 7], .arr [] (.int .u8)]) (G := fun ws rs => inner T an85 (modesOf F) 3 k 85 (S85 k) (ending T Try.f85 an85 3 K) cd85_1000012 (sh sp85_1000012 ws rs) N X) (fun x y => Eq.trans (by kernel_rfl) (innerS_eq T an85 (modesOf F) 3 k 85 (S85 k) (L85 k K) cd85_1000012 (l := []) (by kernel_rfl) trivial _ N X)) ws rs
theorem b85_0 (rec : St → Option R) (N : St → Option R) (X : Nat → St → Option R) (v0_0 : Bool) (v0_1 : Int) (v0_2 : List Int) (v0_3 : List (Int × (Bool × (Int × (Int × (List Int × Unit)))))) :
    execS T an85 (modesOf F) 3 k 85 (S85 k) (L85 k K) (ending T Try.f85 an85 3 K) bd85_0 (sh sp85_0 [.ptr 1 0] [⟨0, .vars [.rw 4, .val [] .bool v0_0, .rw 5, .val [] (.int .i64) v0_1]⟩, ⟨0, .gone⟩, ⟨0, .gone⟩, ⟨0, .arr [] (.int .u8) v0_2⟩, ⟨0, .arr [] (.prod (.int .i64) (.prod .bool (.prod (.int .i64) (.prod (.int .i64) (.prod (.slice (.int .u8)) .unit))))) v0_3⟩]) (fun st => atHead an85 3 bd85_0 st rec) (outX an85 3 0 N X) =
      f85_0b k (fun v0_2 v0_3 => rec (sh sp85_0 [.ptr 1 0] [⟨0, .vars [.rw 4, .val [] .bool v0_0, .rw 5, .val [] (.int .i64) v0_1]⟩, ⟨0, .gone⟩, ⟨0, .gone⟩, ⟨0, .arr [] (.int .u8) v0_2⟩, ⟨0, .arr [] (.prod (.int .i64) (.prod .bool (.prod (.int .i64) (.prod (.int .i64) (.prod (.slice (.int .u8)) .unit))))) v0_3⟩])) (fun z0 z1 z2 z3 => K [] [⟨0, .vars [.rw 4, .val [] .bool z0, .rw 5, .val [] (.int .i64) z1]⟩, ⟨0, .gone⟩, ⟨0, .gone⟩, ⟨0, .arr [] (.int .u8) z2⟩, ⟨0, .arr [] (.prod (.int .i64) (.prod .bool (.prod (.int .i64) (.prod (.int .i64) (.prod (.slice (.int .u8)) .unit))))) z3⟩]) v0_0 v0_1 v0_2 v0_3 := by kernel_rfl
theorem i85_0 (N : St → Option R) (X : Nat → St → Option R) (v0_0 : Bool) (v0_1 : Int) (m : Nat) : ∀ (v0_2 : List Int) (v0_3 : List (Int × (Bool × (Int × (Int × (List Int × Unit)))))),
    iter (atHead an85 3 bd85_0) m (fun st N' => exec T an85 (modesOf F) 3 k 85 (S85 k) (ending T Try.f85 an85 3 K) bd85_0 st N' (outX an85 3 0 N X)) (sh sp85_0 [.ptr 1 0] [⟨0, .vars [.rw 4, .val [] .bool v0_0, .rw 5, .val [] (.int .i64) v0_1]⟩, ⟨0, .gone⟩, ⟨0, .gone⟩, ⟨0, .arr [] (.int .u8) v0_2⟩, ⟨0, .arr [] (.prod (.int .i64) (.prod .bool (.prod (.int .i64) (.prod (.int .i64) (.prod (.slice (.int .u8)) .unit))))) v0_3⟩]) = f85_0d k (fun z0 z1 z2 z3 => K [] [⟨0, .vars [.rw 4, .val [] .bool z0, .rw 5, .val [] (.int .i64) z1]⟩, ⟨0, .gone⟩, ⟨0, .gone⟩, ⟨0, .arr [] (.int .u8) z2⟩, ⟨0, .arr [] (.prod (.int .i64) (.prod .bool (.prod (.int .i64) (.prod (.int .i64) (.prod (.slice (.int .u8)) .unit))))) z3⟩]) v0_0 v0_1 m v0_2 v0_3 := by
  induction m with
  | zero => intros; rfl
  | succ m ih =>
    intro v0_2 v0_3
    simp only [iter]
    rw [← execS_eq T an85 (modesOf F) 3 k 85 (S85 k) (L85 k K) bd85_0 (cuts_of _ _ _ _ _ _ _ _ bd85_0 (l := [(1000012, sp85_1000012, cd85_1000012)]) (by kernel_rfl) ⟨l85_1000012 k K, trivial⟩)]
    refine (b85_0 k K _ N X v0_0 v0_1 v0_2 v0_3).trans ?_
    simp only [f85_0d, ih]
theorem l85_0 (ws : List PV) (rs : List RowS) (N : St → Option R) (X : Nat → St → Option R) : L85 k K 0 ws rs N X = inner T an85 (modesOf F) 3 k 85 (S85 k) (ending T Try.f85 an85 3 K) cd85_0 (sh sp85_0 ws rs) N X := by
  show L85_0 k K ws rs N X = _
  unfold L85_0
  rw [f85_0_def]
  exact onShape_eq (a := [.ptr 1 0]) (b := [.vars [.rw 4, .val [] .bool, .rw 5, .val [] (.int .i64)], .gone, .gone, .arr [] (.int .u8), .arr [] (.prod (.int .i64) (.prod .bool (.prod (.int .i64) (.prod (.int .i64) (.prod (.slice (.int .u8)) .unit)))))]) (G := fun ws rs => inner T an85 (modesOf F) 3 k 85 (S85 k) (ending T Try.f85 an85 3 K) cd85_0 (sh sp85_0 ws rs) N X) (fun x y => Eq.trans (by kernel_rfl) (Eq.trans (i85_0 k K N X y.1.2.1 y.1.2.2.2.1 k y.2.2.2.1 y.2.2.2.2.1).symm (by kernel_rfl))) ws rs
end
theorem e85 (k : Nat) (a0 : Int) (a1 : Int) (a2 : Int) (a3 : Int) (a4 : List Int) (a5 : Bool) (a6 : Int) (a7 : List Int) (a8 : List (Int × (Bool × (Int × (Int × (List Int × Unit)))))) (K : List PV → List RowS → Option R) : callC T F k 85 [.ptr 1 0, .agg [.val [] (.int .i64) a0, .val [] (.int .i64) a1, .val [] (.int .i64) a2, .val [] (.int .i64) a3, .val [(0, 0)] (.slice (.int .u8)) a4]] [⟨0, .vars [.rw 2, .val [] .bool a5, .rw 3, .val [] (.int .i64) a6]⟩, ⟨0, .arr [] (.int .u8) a7⟩, ⟨0, .arr [] (.prod (.int .i64) (.prod .bool (.prod (.int .i64) (.prod (.int .i64) (.prod (.slice (.int .u8)) .unit))))) a8⟩] K = f85 k a0 a1 a2 a3 a4 a5 a6 a7 a8 (fun z0 z1 z2 z3 => K [] [⟨0, .vars [.rw 4, .val [] .bool z0, .rw 5, .val [] (.int .i64) z1]⟩, ⟨0, .gone⟩, ⟨0, .gone⟩, ⟨0, .arr [] (.int .u8) z2⟩, ⟨0, .arr [] (.prod (.int .i64) (.prod .bool (.prod (.int .i64) (.prod (.int .i64) (.prod (.slice (.int .u8)) .unit))))) z3⟩]) := by
  rw [f85_def]
  cases k with
  | zero => rfl
  | succ k =>
    refine Eq.trans (show _ = exec T an85 (modesOf F) 3 k 85 (callC T F k) (ending T Try.f85 an85 3 K) (bodyOf Try.f85) ⟨argEnv 0 [.ptr 1 0, .agg [.val [] (.int .i64) a0, .val [] (.int .i64) a1, .val [] (.int .i64) a2, .val [] (.int .i64) a3, .val [(0, 0)] (.slice (.int .u8)) a4]] (fun _ => none), rowsOf [⟨0, .vars [.rw 2, .val [] .bool a5, .rw 3, .val [] (.int .i64) a6]⟩, ⟨0, .arr [] (.int .u8) a7⟩, ⟨0, .arr [] (.prod (.int .i64) (.prod .bool (.prod (.int .i64) (.prod (.int .i64) (.prod (.slice (.int .u8)) .unit))))) a8⟩]⟩ (ending T Try.f85 an85 3 K) (fun _ _ => none) from by kernel_rfl) ?_
    rw [← S85_eq k, ← execS_eq T an85 (modesOf F) 3 k 85 (S85 k) (L85 k K) (bodyOf Try.f85) (cuts_of _ _ _ _ _ _ _ _ (bodyOf Try.f85) (l := [(1000003, sp85_1000003, cd85_1000003), (0, sp85_0, cd85_0)]) (by kernel_rfl) ⟨l85_1000003 k K, l85_0 k K, trivial⟩)]
    kernel_rfl
noncomputable def s85 (k : Nat) (a : List PV) (r : List RowS) (K : List PV → List RowS → Option R) : Option R :=
  onShape [.ptr 1 0, .agg [.val [] (.int .i64), .val [] (.int .i64), .val [] (.int .i64), .val [] (.int .i64), .val [(0, 0)] (.slice (.int .u8))]] [.vars [.rw 2, .val [] .bool, .rw 3, .val [] (.int .i64)], .arr [] (.int .u8), .arr [] (.prod (.int .i64) (.prod .bool (.prod (.int .i64) (.prod (.int .i64) (.prod (.slice (.int .u8)) .unit)))))] (fun v => f85 k v.1.2.1.1 v.1.2.1.2.1 v.1.2.1.2.2.1 v.1.2.1.2.2.2.1 v.1.2.1.2.2.2.2.1 v.2.1.2.1 v.2.1.2.2.2.1 v.2.2.1 v.2.2.2.1 (fun z0 z1 z2 z3 => K [] [⟨0, .vars [.rw 4, .val [] .bool z0, .rw 5, .val [] (.int .i64) z1]⟩, ⟨0, .gone⟩, ⟨0, .gone⟩, ⟨0, .arr [] (.int .u8) z2⟩, ⟨0, .arr [] (.prod (.int .i64) (.prod .bool (.prod (.int .i64) (.prod (.int .i64) (.prod (.slice (.int .u8)) .unit))))) z3⟩])) (callC T F k 85 a r K) a r
theorem s85_eq (k : Nat) (a : List PV) (r : List RowS) (K : List PV → List RowS → Option R) : s85 k a r K = callC T F k 85 a r K := by
  unfold s85
  exact onShape_eq (a := [.ptr 1 0, .agg [.val [] (.int .i64), .val [] (.int .i64), .val [] (.int .i64), .val [] (.int .i64), .val [(0, 0)] (.slice (.int .u8))]]) (b := [.vars [.rw 2, .val [] .bool, .rw 3, .val [] (.int .i64)], .arr [] (.int .u8), .arr [] (.prod (.int .i64) (.prod .bool (.prod (.int .i64) (.prod (.int .i64) (.prod (.slice (.int .u8)) .unit)))))]) (G := fun a r => callC T F k 85 a r K) (fun x y => Eq.trans (by kernel_rfl) (Eq.trans (e85 k x.2.1.1 x.2.1.2.1 x.2.1.2.2.1 x.2.1.2.2.2.1 x.2.1.2.2.2.2.1 y.1.2.1 y.1.2.2.2.1 y.2.1 y.2.2.1 K).symm (by kernel_rfl))) a r
end
section
variable {R : Type}
noncomputable def S50 (k g : Nat) (a : List PV) (r : List RowS) (K : List PV → List RowS → Option R) : Option R := bif g == 35 then s35 k a r K else bif g == 75 then s75 k a r K else bif g == 85 then s85 k a r K else callC T F k g a r K
theorem S50_eq (k : Nat) : S50 (R := R) k = callC T F k := by
  funext g a r K
  exact pick_eq (fun e => by subst e; exact s35_eq k a r K) (pick_eq (fun e => by subst e; exact s75_eq k a r K) (pick_eq (fun e => by subst e; exact s85_eq k a r K) (rfl)))
section
variable {R : Type} (k : Nat) (K : List PV → List RowS → Option R)
noncomputable def L50_1 (ws : List PV) (rs : List RowS) (N : St → Option R) (X : Nat → St → Option R) : Option R :=
  onShape [.val [(0, 0)] (.slice (.prod (.int .i64) (.prod (.int .i64) (.prod (.int .i64) (.prod (.int .i64) (.prod (.slice (.int .u8)) .unit)))))), .val [] (.int .i64), .val [(0, 0)] (.slice (.prod (.int .i64) (.prod (.int .i64) (.prod (.int .i64) (.prod (.int .i64) (.prod (.slice (.int .u8)) .unit)))))), .val [] (.int .i64), .val [] (.int .i64)] [] (fun v => f50_1 k (fun z0 z1 z2 => K [.rw 1, .val [] (.int .i64) z0, .val [] (.int .i64) z1] [⟨0, .arr [] (.prod (.int .i64) (.prod .bool (.prod (.int .i64) (.prod (.int .i64) (.prod (.slice (.int .u8)) .unit))))) z2⟩]) (N (sh jn50_1 [.val [(0, 0)] (.slice (.prod (.int .i64) (.prod (.int .i64) (.prod (.int .i64) (.prod (.int .i64) (.prod (.slice (.int .u8)) .unit)))))) v.1.1] [])) v.1.1 v.1.2.1 v.1.2.2.1 v.1.2.2.2.1 k v.1.2.2.2.2.1) (inner T an50 (modesOf F) 0 k 100 (S50 k) (ending T Try.f50 an50 0 K) cd50_1 (sh sp50_1 ws rs) N X) ws rs
noncomputable def L50_1000022 (ws : List PV) (rs : List RowS) (N : St → Option R) (X : Nat → St → Option R) : Option R :=
  onShape [.val [(0, 0)] (.slice (.prod (.int .i64) (.prod (.int .i64) (.prod (.int .i64) (.prod (.int .i64) (.prod (.slice (.int .u8)) .unit)))))), .ptr 1 0, .ptr 4 0, .val [(0, 0)] (.slice (.prod (.int .i64) (.prod (.int .i64) (.prod (.int .i64) (.prod (.int .i64) (.prod (.slice (.int .u8)) .unit)))))), .val [] (.int .i64), .val [] (.int .i64), .val [] .bool] [.vars [.rw 2, .val [] .bool, .rw 3, .val [] (.int .i64)], .arr [] (.int .u8), .arr [] (.prod (.int .i64) (.prod .bool (.prod (.int .i64) (.prod (.int .i64) (.prod (.slice (.int .u8)) .unit))))), .vars [.val [] (.int .i64), .val [] (.int .i64), .val [] (.int .i64), .val [] (.int .i64), .val [(0, 0)] (.slice (.int .u8))]] (fun v => f50_1000022 k (fun yN_4 yN_5 => N (sh fi50_22 [.val [(0, 0)] (.slice (.prod (.int .i64) (.prod (.int .i64) (.prod (.int .i64) (.prod (.int .i64) (.prod (.slice (.int .u8)) .unit)))))) v.1.1, .ptr 1 0, .ptr 4 0, .val [(0, 0)] (.slice (.prod (.int .i64) (.prod (.int .i64) (.prod (.int .i64) (.prod (.int .i64) (.prod (.slice (.int .u8)) .unit)))))) v.1.2.2.2.1, .val [] (.int .i64) v.1.2.2.2.2.1, .val [] (.int .i64) v.1.2.2.2.2.2.1] [⟨0, .vars [.rw 2, .val [] .bool yN_4, .rw 3, .val [] (.int .i64) yN_5]⟩, ⟨0, .arr [] (.int .u8) v.2.2.1⟩, ⟨0, .arr [] (.prod (.int .i64) (.prod .bool (.prod (.int .i64) (.prod (.int .i64) (.prod (.slice (.int .u8)) .unit))))) v.2.2.2.1⟩, ⟨0, .vars [.val [] (.int .i64) v.2.2.2.2.1.1, .val [] (.int .i64) v.2.2.2.2.1.2.1, .val [] (.int .i64) v.2.2.2.2.1.2.2.1, .val [] (.int .i64) v.2.2.2.2.1.2.2.2.1, .val [(0, 0)] (.slice (.int .u8)) v.2.2.2.2.1.2.2.2.2.1]⟩])) v.1.1 v.1.2.2.2.1 v.1.2.2.2.2.1 v.1.2.2.2.2.2.1 v.1.2.2.2.2.2.2.1 v.2.1.2.1 v.2.1.2.2.2.1 v.2.2.1 v.2.2.2.1 v.2.2.2.2.1.1 v.2.2.2.2.1.2.1 v.2.2.2.2.1.2.2.1 v.2.2.2.2.1.2.2.2.1 v.2.2.2.2.1.2.2.2.2.1) (inner T an50 (modesOf F) 0 k 100 (S50 k) (ending T Try.f50 an50 0 K) cd50_1000022 (sh sp50_1000022 ws rs) N X) ws rs
noncomputable def L50_1000019 (ws : List PV) (rs : List RowS) (N : St → Option R) (X : Nat → St → Option R) : Option R :=
  onShape [.val [(0, 0)] (.slice (.prod (.int .i64) (.prod (.int .i64) (.prod (.int .i64) (.prod (.int .i64) (.prod (.slice (.int .u8)) .unit)))))), .ptr 1 0, .val [] (.int .i64), .ptr 4 0, .val [(0, 0)] (.slice (.prod (.int .i64) (.prod (.int .i64) (.prod (.int .i64) (.prod (.int .i64) (.prod (.slice (.int .u8)) .unit)))))), .val [] (.int .i64), .val [] (.int .i64), .val [] .bool] [.vars [.rw 2, .val [] .bool, .rw 3, .val [] (.int .i64)], .arr [] (.int .u8), .arr [] (.prod (.int .i64) (.prod .bool (.prod (.int .i64) (.prod (.int .i64) (.prod (.slice (.int .u8)) .unit))))), .vars [.val [] (.int .i64), .val [] (.int .i64), .val [] (.int .i64), .val [] (.int .i64), .val [(0, 0)] (.slice (.int .u8))]] (fun v => f50_1000019 k (X 4 (sh jn50_4 [.val [(0, 0)] (.slice (.prod (.int .i64) (.prod (.int .i64) (.prod (.int .i64) (.prod (.int .i64) (.prod (.slice (.int .u8)) .unit)))))) v.1.1, .ptr 1 0, .val [(0, 0)] (.slice (.prod (.int .i64) (.prod (.int .i64) (.prod (.int .i64) (.prod (.int .i64) (.prod (.slice (.int .u8)) .unit)))))) v.1.2.2.2.2.1, .val [] (.int .i64) v.1.2.2.2.2.2.1, .val [] (.int .i64) v.1.2.2.2.2.2.2.1] [⟨0, .vars [.rw 2, .val [] .bool v.2.1.2.1, .rw 3, .val [] (.int .i64) v.2.1.2.2.2.1]⟩, ⟨0, .arr [] (.int .u8) v.2.2.1⟩, ⟨0, .arr [] (.prod (.int .i64) (.prod .bool (.prod (.int .i64) (.prod (.int .i64) (.prod (.slice (.int .u8)) .unit))))) v.2.2.2.1⟩])) (fun yN_4 yN_5 => N (sh fi50_19 [.val [(0, 0)] (.slice (.prod (.int .i64) (.prod (.int .i64) (.prod (.int .i64) (.prod (.int .i64) (.prod (.slice (.int .u8)) .unit)))))) v.1.1, .ptr 1 0, .ptr 4 0, .val [(0, 0)] (.slice (.prod (.int .i64) (.prod (.int .i64) (.prod (.int .i64) (.prod (.int .i64) (.prod (.slice (.int .u8)) .unit)))))) v.1.2.2.2.2.1, .val [] (.int .i64) v.1.2.2.2.2.2.1, .val [] (.int .i64) v.1.2.2.2.2.2.2.1] [⟨0, .vars [.rw 2, .val [] .bool yN_4, .rw 3, .val [] (.int .i64) yN_5]⟩, ⟨0, .arr [] (.int .u8) v.2.2.1⟩, ⟨0, .arr [] (.prod (.int .i64) (.prod .bool (.prod (.int .i64) (.prod (.int .i64) (.prod (.slice (.int .u8)) .unit))))) v.2.2.2.1⟩, ⟨0, .vars [.val [] (.int .i64) v.2.2.2.2.1.1, .val [] (.int .i64) v.2.2.2.2.1.2.1, .val [] (.int .i64) v.2.2.2.2.1.2.2.1, .val [] (.int .i64) v.2.2.2.2.1.2.2.2.1, .val [(0, 0)] (.slice (.int .u8)) v.2.2.2.2.1.2.2.2.2.1]⟩])) v.1.1 v.1.2.2.1 v.1.2.2.2.2.1 v.1.2.2.2.2.2.1 v.1.2.2.2.2.2.2.1 v.1.2.2.2.2.2.2.2.1 v.2.1.2.1 v.2.1.2.2.2.1 v.2.2.1 v.2.2.2.1 v.2.2.2.2.1.1 v.2.2.2.2.1.2.1 v.2.2.2.2.1.2.2.1 v.2.2.2.2.1.2.2.2.1 v.2.2.2.2.1.2.2.2.2.1) (inner T an50 (modesOf F) 0 k 100 (S50 k) (ending T Try.f50 an50 0 K) cd50_1000019 (sh sp50_1000019 ws rs) N X) ws rs
noncomputable def L50_4 (ws : List PV) (rs : List RowS) (N : St → Option R) (X : Nat → St → Option R) : Option R :=
  onShape [.val [(0, 0)] (.slice (.prod (.int .i64) (.prod (.int .i64) (.prod (.int .i64) (.prod (.int .i64) (.prod (.slice (.int .u8)) .unit)))))), .ptr 1 0, .val [(0, 0)] (.slice (.prod (.int .i64) (.prod (.int .i64) (.prod (.int .i64) (.prod (.int .i64) (.prod (.slice (.int .u8)) .unit)))))), .val [] (.int .i64), .val [] (.int .i64)] [.vars [.rw 2, .val [] .bool, .rw 3, .val [] (.int .i64)], .arr [] (.int .u8), .arr [] (.prod (.int .i64) (.prod .bool (.prod (.int .i64) (.prod (.int .i64) (.prod (.slice (.int .u8)) .unit)))))] (fun v => f50_4 k (fun y4_4 y4_5 y4_6 y4_7 => N (sh jn50_4 [.val [(0, 0)] (.slice (.prod (.int .i64) (.prod (.int .i64) (.prod (.int .i64) (.prod (.int .i64) (.prod (.slice (.int .u8)) .unit)))))) v.1.1, .ptr 1 0, .val [(0, 0)] (.slice (.prod (.int .i64) (.prod (.int .i64) (.prod (.int .i64) (.prod (.int .i64) (.prod (.slice (.int .u8)) .unit)))))) v.1.2.2.1, .val [] (.int .i64) v.1.2.2.2.1, .val [] (.int .i64) v.1.2.2.2.2.1] [⟨0, .vars [.rw 2, .val [] .bool y4_4, .rw 3, .val [] (.int .i64) y4_5]⟩, ⟨0, .arr [] (.int .u8) y4_6⟩, ⟨0, .arr [] (.prod (.int .i64) (.prod .bool (.prod (.int .i64) (.prod (.int .i64) (.prod (.slice (.int .u8)) .unit))))) y4_7⟩])) v.1.1 v.1.2.2.1 v.1.2.2.2.1 v.1.2.2.2.2.1 v.2.1.2.1 v.2.1.2.2.2.1 v.2.2.1 v.2.2.2.1) (inner T an50 (modesOf F) 0 k 100 (S50 k) (ending T Try.f50 an50 0 K) cd50_4 (sh sp50_4 ws rs) N X) ws rs
noncomputable def L50_3 (ws : List PV) (rs : List RowS) (N : St → Option R) (X : Nat → St → Option R) : Option R :=
  onShape [.val [(0, 0)] (.slice (.prod (.int .i64) (.prod (.int .i64) (.prod (.int .i64) (.prod (.int .i64) (.prod (.slice (.int .u8)) .unit)))))), .ptr 1 0, .val [(0, 0)] (.slice (.prod (.int .i64) (.prod (.int .i64) (.prod (.int .i64) (.prod (.int .i64) (.prod (.slice (.int .u8)) .unit)))))), .val [] (.int .i64), .val [] (.int .i64)] [.vars [.rw 2, .val [] .bool, .rw 3, .val [] (.int .i64)], .arr [] (.int .u8), .arr [] (.prod (.int .i64) (.prod .bool (.prod (.int .i64) (.prod (.int .i64) (.prod (.slice (.int .u8)) .unit)))))] (fun v => f50_3 k (fun y3_0 y3_1 y3_2 y3_3 => N (sh jn50_3 [.ptr 1 0] [⟨0, .vars [.rw 2, .val [] .bool y3_0, .rw 3, .val [] (.int .i64) y3_1]⟩, ⟨0, .arr [] (.int .u8) y3_2⟩, ⟨0, .arr [] (.prod (.int .i64) (.prod .bool (.prod (.int .i64) (.prod (.int .i64) (.prod (.slice (.int .u8)) .unit))))) y3_3⟩])) v.1.1 v.1.2.2.1 v.1.2.2.2.1 k v.1.2.2.2.2.1 v.2.1.2.1 v.2.1.2.2.2.1 v.2.2.1 v.2.2.2.1) (inner T an50 (modesOf F) 0 k 100 (S50 k) (ending T Try.f50 an50 0 K) cd50_3 (sh sp50_3 ws rs) N X) ws rs
noncomputable def L50 (id : Nat) (ws : List PV) (rs : List RowS) (N : St → Option R) (X : Nat → St → Option R) : Option R := bif id == 1 then L50_1 k K ws rs N X else bif id == 1000022 then L50_1000022 k K ws rs N X else bif id == 1000019 then L50_1000019 k K ws rs N X else bif id == 4 then L50_4 k K ws rs N X else bif id == 3 then L50_3 k K ws rs N X else none
theorem b50_1 (rec : St → Option R) (N : St → Option R) (X : Nat → St → Option R) (v1_0 : List ((Int × (Int × (Int × (Int × (List Int × Unit))))))) (v1_1 : Int) (v1_2 : List ((Int × (Int × (Int × (Int × (List Int × Unit))))))) (v1_3 : Int) (v1_4 : Int) :
    execS T an50 (modesOf F) 0 k 100 (S50 k) (L50 k K) (ending T Try.f50 an50 0 K) bd50_1 (sh sp50_1 [.val [(0, 0)] (.slice (.prod (.int .i64) (.prod (.int .i64) (.prod (.int .i64) (.prod (.int .i64) (.prod (.slice (.int .u8)) .unit)))))) v1_0, .val [] (.int .i64) v1_1, .val [(0, 0)] (.slice (.prod (.int .i64) (.prod (.int .i64) (.prod (.int .i64) (.prod (.int .i64) (.prod (.slice (.int .u8)) .unit)))))) v1_2, .val [] (.int .i64) v1_3, .val [] (.int .i64) v1_4] []) (fun st => atHead an50 0 bd50_1 st rec) (outX an50 0 1 N X) =
      f50_1b k (fun v1_4 => rec (sh sp50_1 [.val [(0, 0)] (.slice (.prod (.int .i64) (.prod (.int .i64) (.prod (.int .i64) (.prod (.int .i64) (.prod (.slice (.int .u8)) .unit)))))) v1_0, .val [] (.int .i64) v1_1, .val [(0, 0)] (.slice (.prod (.int .i64) (.prod (.int .i64) (.prod (.int .i64) (.prod (.int .i64) (.prod (.slice (.int .u8)) .unit)))))) v1_2, .val [] (.int .i64) v1_3, .val [] (.int .i64) v1_4] [])) (fun z0 z1 z2 => K [.rw 1, .val [] (.int .i64) z0, .val [] (.int .i64) z1] [⟨0, .arr [] (.prod (.int .i64) (.prod .bool (.prod (.int .i64) (.prod (.int .i64) (.prod (.slice (.int .u8)) .unit))))) z2⟩]) (N (sh jn50_1 [.val [(0, 0)] (.slice (.prod (.int .i64) (.prod (.int .i64) (.prod (.int .i64) (.prod (.int .i64) (.prod (.slice (.int .u8)) .unit)))))) v1_0] [])) v1_0 v1_1 v1_2 v1_3 v1_4 := by kernel_rfl
theorem i50_1 (N : St → Option R) (X : Nat → St → Option R) (v1_0 : List ((Int × (Int × (Int × (Int × (List Int × Unit))))))) (v1_1 : Int) (v1_2 : List ((Int × (Int × (Int × (Int × (List Int × Unit))))))) (v1_3 : Int) (m : Nat) : ∀ (v1_4 : Int),
    iter (atHead an50 0 bd50_1) m (fun st N' => exec T an50 (modesOf F) 0 k 100 (S50 k) (ending T Try.f50 an50 0 K) bd50_1 st N' (outX an50 0 1 N X)) (sh sp50_1 [.val [(0, 0)] (.slice (.prod (.int .i64) (.prod (.int .i64) (.prod (.int .i64) (.prod (.int .i64) (.prod (.slice (.int .u8)) .unit)))))) v1_0, .val [] (.int .i64) v1_1, .val [(0, 0)] (.slice (.prod (.int .i64) (.prod (.int .i64) (.prod (.int .i64) (.prod (.int .i64) (.prod (.slice (.int .u8)) .unit)))))) v1_2, .val [] (.int .i64) v1_3, .val [] (.int .i64) v1_4] []) = f50_1d k (fun z0 z1 z2 => K [.rw 1, .val [] (.int .i64) z0, .val [] (.int .i64) z1] [⟨0, .arr [] (.prod (.int .i64) (.prod .bool (.prod (.int .i64) (.prod (.int .i64) (.prod (.slice (.int .u8)) .unit))))) z2⟩]) (N (sh jn50_1 [.val [(0, 0)] (.slice (.prod (.int .i64) (.prod (.int .i64) (.prod (.int .i64) (.prod (.int .i64) (.prod (.slice (.int .u8)) .unit)))))) v1_0] [])) v1_0 v1_1 v1_2 v1_3 m v1_4 := by
  induction m with
  | zero => intros; rfl
  | succ m ih =>
    intro v1_4
    simp only [iter]
    rw [← execS_eq T an50 (modesOf F) 0 k 100 (S50 k) (L50 k K) bd50_1 (cuts_of _ _ _ _ _ _ _ _ bd50_1 (l := []) (by kernel_rfl) trivial)]
    refine (b50_1 k K _ N X v1_0 v1_1 v1_2 v1_3 v1_4).trans ?_
    simp only [f50_1d, ih]
theorem l50_1 (ws : List PV) (rs : List RowS) (N : St → Option R) (X : Nat → St → Option R) : L50 k K 1 ws rs N X = inner T an50 (modesOf F) 0 k 100 (S50 k) (ending T Try.f50 an50 0 K) cd50_1 (sh sp50_1 ws rs) N X := by
  show L50_1 k K ws rs N X = _
  unfold L50_1
  rw [f50_1_def]
  exact onShape_eq (a := [.val [(0, 0)] (.slice (.prod (.int .i64) (.prod (.int .i64) (.prod (.int .i64) (.prod (.int .i64) (.prod (.slice (.int .u8)) .unit)))))), .val [] (.int .i64), .val [(0, 0)] (.slice (.prod (.int .i64) (.prod (.int .i64) (.prod (.int .i64) (.prod (.int .i64) (.prod (.slice (.int .u8)) .unit)))))), .val [] (.int .i64), .val [] (.int .i64)]) (b := []) (G := fun ws rs => inner T an50 (modesOf F) 0 k 100 (S50 k) (ending T Try.f50 an50 0 K) cd50_1 (sh sp50_1 ws rs) N X) (fun x y => Eq.trans (by kernel_rfl) (Eq.trans (i50_1 k K N X x.1 x.2.1 x.2.2.1 x.2.2.2.1 k x.2.2.2.2.1).symm (by kernel_rfl))) ws rs
theorem l50_1000022 (ws : List PV) (rs : List RowS) (N : St → Option R) (X : Nat → St → Option R) : L50 k K 1000022 ws rs N X = inner T an50 (modesOf F) 0 k 100 (S50 k) (ending T Try.f50 an50 0 K) cd50_1000022 (sh sp50_1000022 ws rs) N X := by
  show L50_1000022 k K ws rs N X = _
  unfold L50_1000022
  rw [f50_1000022_def]
  exact onShape_eq (a := [.val [(0, 0)] (.slice (.prod (.int .i64) (.prod (.int .i64) (.prod (.int .i64) (.prod (.int .i64) (.prod (.slice (.int .u8)) .unit)))))), .ptr 1 0, .ptr 4 0, .val [(0, 0)] (.slice (.prod (.int .i64) (.prod (.int .i64) (.prod (.int .i64) (.prod (.int .i64) (.prod (.slice (.int .u8)) .unit)))))), .val [] (.int .i64), .val [] (.int .i64), .val [] .bool]) (b := [.vars [.rw 2, .val [] .bool, .rw 3, .val [] (.int .i64)], .arr [] (.int .u8), .arr [] (.prod (.int .i64) (.prod .bool (.prod (.int .i64) (.prod (.int .i64) (.prod (.slice (.int .u8)) .unit))))), .vars [.val [] (.int .i64), .val [] (.int .i64), .val [] (.int .i64), .val [] (.int .i64), .val [(0, 0)] (.slice (.int .u8))]]) (G := fun ws rs => inner T an50 (modesOf F) 0 k 100 (S50 k) (ending T Try.f50 an50 0 K) cd50_1000022 (sh sp50_1000022 ws rs) N X) (fun x y => Eq.trans (by kernel_rfl) (innerS_eq T an50 (modesOf F) 0 k 100 (S50 k) (L50 k K) cd50_1000022 (l := []) (by kernel_rfl) trivial _ N X)) ws rs
theorem l50_1000019 (ws : List PV) (rs : List RowS) (N : St → Option R) (X : Nat → St → Option R) : L50 k K 1000019 ws rs N X = inner T an50 (modesOf F) 0 k 100 (S50 k) (ending T Try.f50 an50 0 K) cd50_1000019 (sh sp50_1000019 ws rs) N X := by
  show L50_1000019 k K ws rs N X = _
  unfold L50_1000019
  rw [f50_1000019_def]
  exact onShape_eq (a := [.val [(0, 0)] (.slice (.prod (.int .i64) (.prod (.int .i64) (.prod (.int .i64) (.prod (.int .i64) (.prod (.slice (.int .u8)) .unit)))))), .ptr 1 0, .val [] (.int .i64), .ptr 4 0, .val [(0, 0)] (.slice (.prod (.int .i64) (.prod (.int .i64) (.prod (.int .i64) (.prod (.int .i64) (.prod (.slice (.int .u8)) .unit)))))), .val [] (.int .i64), .val [] (.int .i64), .val [] .bool]) (b := [.vars [.rw 2, .val [] .bool, .rw 3, .val [] (.int .i64)], .arr [] (.int .u8), .arr [] (.prod (.int .i64) (.prod .bool (.prod (.int .i64) (.prod (.int .i64) (.prod (.slice (.int .u8)) .unit))))), .vars [.val [] (.int .i64), .val [] (.int .i64), .val [] (.int .i64), .val [] (.int .i64), .val [(0, 0)] (.slice (.int .u8))]]) (G := fun ws rs => inner T an50 (modesOf F) 0 k 100 (S50 k) (ending T Try.f50 an50 0 K) cd50_1000019 (sh sp50_1000019 ws rs) N X) (fun x y => Eq.trans (by kernel_rfl) (innerS_eq T an50 (modesOf F) 0 k 100 (S50 k) (L50 k K) cd50_1000019 (l := [(1000022, sp50_1000022, cd50_1000022)]) (by kernel_rfl) ⟨l50_1000022 k K, trivial⟩ _ N X)) ws rs
theorem l50_4 (ws : List PV) (rs : List RowS) (N : St → Option R) (X : Nat → St → Option R) : L50 k K 4 ws rs N X = inner T an50 (modesOf F) 0 k 100 (S50 k) (ending T Try.f50 an50 0 K) cd50_4 (sh sp50_4 ws rs) N X := by
  show L50_4 k K ws rs N X = _
  unfold L50_4
  rw [f50_4_def]
  exact onShape_eq (a := [.val [(0, 0)] (.slice (.prod (.int .i64) (.prod (.int .i64) (.prod (.int .i64) (.prod (.int .i64) (.prod (.slice (.int .u8)) .unit)))))), .ptr 1 0, .val [(0, 0)] (.slice (.prod (.int .i64) (.prod (.int .i64) (.prod (.int .i64) (.prod (.int .i64) (.prod (.slice (.int .u8)) .unit)))))), .val [] (.int .i64), .val [] (.int .i64)]) (b := [.vars [.rw 2, .val [] .bool, .rw 3, .val [] (.int .i64)], .arr [] (.int .u8), .arr [] (.prod (.int .i64) (.prod .bool (.prod (.int .i64) (.prod (.int .i64) (.prod (.slice (.int .u8)) .unit)))))]) (G := fun ws rs => inner T an50 (modesOf F) 0 k 100 (S50 k) (ending T Try.f50 an50 0 K) cd50_4 (sh sp50_4 ws rs) N X) (fun x y => Eq.trans (by kernel_rfl) (innerS_eq T an50 (modesOf F) 0 k 100 (S50 k) (L50 k K) cd50_4 (l := [(1000019, sp50_1000019, cd50_1000019)]) (by kernel_rfl) ⟨l50_1000019 k K, trivial⟩ _ N X)) ws rs
theorem b50_3 (rec : St → Option R) (N : St → Option R) (X : Nat → St → Option R) (v3_0 : List ((Int × (Int × (Int × (Int × (List Int × Unit))))))) (v3_1 : List ((Int × (Int × (Int × (Int × (List Int × Unit))))))) (v3_2 : Int) (v3_3 : Int) (v3_4 : Bool) (v3_5 : Int) (v3_6 : List Int) (v3_7 : List (Int × (Bool × (Int × (Int × (List Int × Unit)))))) :
    execS T an50 (modesOf F) 0 k 100 (S50 k) (L50 k K) (ending T Try.f50 an50 0 K) bd50_3 (sh sp50_3 [.val [(0, 0)] (.slice (.prod (.int .i64) (.prod (.int .i64) (.prod (.int .i64) (.prod (.int .i64) (.prod (.slice (.int .u8)) .unit)))))) v3_0, .ptr 1 0, .val [(0, 0)] (.slice (.prod (.int .i64) (.prod (.int .i64) (.prod (.int .i64) (.prod (.int .i64) (.prod (.slice (.int .u8)) .unit)))))) v3_1, .val [] (.int .i64) v3_2, .val [] (.int .i64) v3_3] [⟨0, .vars [.rw 2, .val [] .bool v3_4, .rw 3, .val [] (.int .i64) v3_5]⟩, ⟨0, .arr [] (.int .u8) v3_6⟩, ⟨0, .arr [] (.prod (.int .i64) (.prod .bool (.prod (.int .i64) (.prod (.int .i64) (.prod (.slice (.int .u8)) .unit))))) v3_7⟩]) (fun st => atHead an50 0 bd50_3 st rec) (outX an50 0 3 N X) =
      f50_3b k (fun v3_3 v3_4 v3_5 v3_6 v3_7 => rec (sh sp50_3 [.val [(0, 0)] (.slice (.prod (.int .i64) (.prod (.int .i64) (.prod (.int .i64) (.prod (.int .i64) (.prod (.slice (.int .u8)) .unit)))))) v3_0, .ptr 1 0, .val [(0, 0)] (.slice (.prod (.int .i64) (.prod (.int .i64) (.prod (.int .i64) (.prod (.int .i64) (.prod (.slice (.int .u8)) .unit)))))) v3_1, .val [] (.int .i64) v3_2, .val [] (.int .i64) v3_3] [⟨0, .vars [.rw 2, .val [] .bool v3_4, .rw 3, .val [] (.int .i64) v3_5]⟩, ⟨0, .arr [] (.int .u8) v3_6⟩, ⟨0, .arr [] (.prod (.int .i64) (.prod .bool (.prod (.int .i64) (.prod (.int .i64) (.prod (.slice (.int .u8)) .unit))))) v3_7⟩])) (fun y3_0 y3_1 y3_2 y3_3 => N (sh jn50_3 [.ptr 1 0] [⟨0, .vars [.rw 2, .val [] .bool y3_0, .rw 3, .val [] (.int .i64) y3_1]⟩, ⟨0, .arr [] (.int .u8) y3_2⟩, ⟨0, .arr [] (.prod (.int .i64) (.prod .bool (.prod (.int .i64) (.prod (.int .i64) (.prod (.slice (.int .u8)) .unit))))) y3_3⟩])) v3_0 v3_1 v3_2 v3_3 v3_4 v3_5 v3_6 v3_7 := by kernel_rfl
theorem i50_3 (N : St → Option R) (X : Nat → St → Option R) (v3_0 : List ((Int × (Int × (Int × (Int × (List Int × Unit))))))) (v3_1 : List ((Int × (Int × (Int × (Int × (List Int × Unit))))))) (v3_2 : Int) (m : Nat) : ∀ (v3_3 : Int) (v3_4 : Bool) (v3_5 : Int) (v3_6 : List Int) (v3_7 : List (Int × (Bool × (Int × (Int × (List Int × Unit)))))),
    iter (atHead an50 0 bd50_3) m (fun st N' => exec T an50 (modesOf F) 0 k 100 (S50 k) (ending T Try.f50 an50 0 K) bd50_3 st N' (outX an50 0 3 N X)) (sh sp50_3 [.val [(0, 0)] (.slice (.prod (.int .i64) (.prod (.int .i64) (.prod (.int .i64) (.prod (.int .i64) (.prod (.slice (.int .u8)) .unit)))))) v3_0, .ptr 1 0, .val [(0, 0)] (.slice (.prod (.int .i64) (.prod (.int .i64) (.prod (.int .i64) (.prod (.int .i64) (.prod (.slice (.int .u8)) .unit)))))) v3_1, .val [] (.int .i64) v3_2, .val [] (.int .i64) v3_3] [⟨0, .vars [.rw 2, .val [] .bool v3_4, .rw 3, .val [] (.int .i64) v3_5]⟩, ⟨0, .arr [] (.int .u8) v3_6⟩, ⟨0, .arr [] (.prod (.int .i64) (.prod .bool (.prod (.int .i64) (.prod (.int .i64) (.prod (.slice (.int .u8)) .unit))))) v3_7⟩]) = f50_3d k (fun y3_0 y3_1 y3_2 y3_3 => N (sh jn50_3 [.ptr 1 0] [⟨0, .vars [.rw 2, .val [] .bool y3_0, .rw 3, .val [] (.int .i64) y3_1]⟩, ⟨0, .arr [] (.int .u8) y3_2⟩, ⟨0, .arr [] (.prod (.int .i64) (.prod .bool (.prod (.int .i64) (.prod (.int .i64) (.prod (.slice (.int .u8)) .unit))))) y3_3⟩])) v3_0 v3_1 v3_2 m v3_3 v3_4 v3_5 v3_6 v3_7 := by
  induction m with
  | zero => intros; rfl
  | succ m ih =>
    intro v3_3 v3_4 v3_5 v3_6 v3_7
    simp only [iter]
    rw [← execS_eq T an50 (modesOf F) 0 k 100 (S50 k) (L50 k K) bd50_3 (cuts_of _ _ _ _ _ _ _ _ bd50_3 (l := [(4, sp50_4, cd50_4)]) (by kernel_rfl) ⟨l50_4 k K, trivial⟩)]
    refine (b50_3 k K _ N X v3_0 v3_1 v3_2 v3_3 v3_4 v3_5 v3_6 v3_7).trans ?_
    simp only [f50_3d, ih]
theorem l50_3 (ws : List PV) (rs : List RowS) (N : St → Option R) (X : Nat → St → Option R) : L50 k K 3 ws rs N X = inner T an50 (modesOf F) 0 k 100 (S50 k) (ending T Try.f50 an50 0 K) cd50_3 (sh sp50_3 ws rs) N X := by
  show L50_3 k K ws rs N X = _
  unfold L50_3
  rw [f50_3_def]
  exact onShape_eq (a := [.val [(0, 0)] (.slice (.prod (.int .i64) (.prod (.int .i64) (.prod (.int .i64) (.prod (.int .i64) (.prod (.slice (.int .u8)) .unit)))))), .ptr 1 0, .val [(0, 0)] (.slice (.prod (.int .i64) (.prod (.int .i64) (.prod (.int .i64) (.prod (.int .i64) (.prod (.slice (.int .u8)) .unit)))))), .val [] (.int .i64), .val [] (.int .i64)]) (b := [.vars [.rw 2, .val [] .bool, .rw 3, .val [] (.int .i64)], .arr [] (.int .u8), .arr [] (.prod (.int .i64) (.prod .bool (.prod (.int .i64) (.prod (.int .i64) (.prod (.slice (.int .u8)) .unit)))))]) (G := fun ws rs => inner T an50 (modesOf F) 0 k 100 (S50 k) (ending T Try.f50 an50 0 K) cd50_3 (sh sp50_3 ws rs) N X) (fun x y => Eq.trans (by kernel_rfl) (Eq.trans (i50_3 k K N X x.1 x.2.2.1 x.2.2.2.1 k x.2.2.2.2.1 y.1.2.1 y.1.2.2.2.1 y.2.1 y.2.2.1).symm (by kernel_rfl))) ws rs
end
theorem e50 (k : Nat) (a0 : List ((Int × (Int × (Int × (Int × (List Int × Unit))))))) (a1 : Int) (K : List PV → List RowS → Option R) : callC T F k 50 [.val [(0, 0)] (.slice (.prod (.int .i64) (.prod (.int .i64) (.prod (.int .i64) (.prod (.int .i64) (.prod (.slice (.int .u8)) .unit)))))) a0, .val [] (.int .i64) a1] [] K = f50 k a0 a1 (fun z0 z1 z2 => K [.rw 1, .val [] (.int .i64) z0, .val [] (.int .i64) z1] [⟨0, .arr [] (.prod (.int .i64) (.prod .bool (.prod (.int .i64) (.prod (.int .i64) (.prod (.slice (.int .u8)) .unit))))) z2⟩]) := by
  rw [f50_def]
  cases k with
  | zero => rfl
  | succ k =>
    refine Eq.trans (show _ = exec T an50 (modesOf F) 0 k 100 (callC T F k) (ending T Try.f50 an50 0 K) (bodyOf Try.f50) ⟨argEnv 0 [.val [(0, 0)] (.slice (.prod (.int .i64) (.prod (.int .i64) (.prod (.int .i64) (.prod (.int .i64) (.prod (.slice (.int .u8)) .unit)))))) a0, .val [] (.int .i64) a1] (fun _ => none), rowsOf []⟩ (ending T Try.f50 an50 0 K) (fun _ _ => none) from by kernel_rfl) ?_
    rw [← S50_eq k, ← execS_eq T an50 (modesOf F) 0 k 100 (S50 k) (L50 k K) (bodyOf Try.f50) (cuts_of _ _ _ _ _ _ _ _ (bodyOf Try.f50) (l := [(1, sp50_1, cd50_1), (3, sp50_3, cd50_3)]) (by kernel_rfl) ⟨l50_1 k K, l50_3 k K, trivial⟩)]
    kernel_rfl
noncomputable def s50 (k : Nat) (a : List PV) (r : List RowS) (K : List PV → List RowS → Option R) : Option R :=
  onShape [.val [(0, 0)] (.slice (.prod (.int .i64) (.prod (.int .i64) (.prod (.int .i64) (.prod (.int .i64) (.prod (.slice (.int .u8)) .unit)))))), .val [] (.int .i64)] [] (fun v => f50 k v.1.1 v.1.2.1 (fun z0 z1 z2 => K [.rw 1, .val [] (.int .i64) z0, .val [] (.int .i64) z1] [⟨0, .arr [] (.prod (.int .i64) (.prod .bool (.prod (.int .i64) (.prod (.int .i64) (.prod (.slice (.int .u8)) .unit))))) z2⟩])) (callC T F k 50 a r K) a r
theorem s50_eq (k : Nat) (a : List PV) (r : List RowS) (K : List PV → List RowS → Option R) : s50 k a r K = callC T F k 50 a r K := by
  unfold s50
  exact onShape_eq (a := [.val [(0, 0)] (.slice (.prod (.int .i64) (.prod (.int .i64) (.prod (.int .i64) (.prod (.int .i64) (.prod (.slice (.int .u8)) .unit)))))), .val [] (.int .i64)]) (b := []) (G := fun a r => callC T F k 50 a r K) (fun x y => Eq.trans (by kernel_rfl) (Eq.trans (e50 k x.1 x.2.1 K).symm (by kernel_rfl))) a r
end
section
variable {R : Type}
noncomputable def S69 (k g : Nat) (a : List PV) (r : List RowS) (K : List PV → List RowS → Option R) : Option R := callC T F k g a r K
theorem S69_eq (k : Nat) : S69 (R := R) k = callC T F k := by
  funext g a r K
  exact rfl
theorem e69 (k : Nat) (a0 : Int) (a1 : Int) (a2 : Int) (K : List PV → List RowS → Option R) : callC T F k 69 [.val [] (.int .i64) a0, .val [] (.int .i64) a1, .val [] (.int .i64) a2] [] K = f69 k a0 a1 a2 (fun z0 => K [.val [] .bool z0] []) := by
  rw [f69_def]
  cases k with
  | zero => rfl
  | succ k =>
    refine Eq.trans (show _ = exec T an69 (modesOf F) 0 k 15 (callC T F k) (ending T Try.f69 an69 0 K) (bodyOf Try.f69) ⟨argEnv 0 [.val [] (.int .i64) a0, .val [] (.int .i64) a1, .val [] (.int .i64) a2] (fun _ => none), rowsOf []⟩ (ending T Try.f69 an69 0 K) (fun _ _ => none) from by kernel_rfl) ?_
    rw [← S69_eq k, ← execS_eq T an69 (modesOf F) 0 k 15 (S69 k) (fun _ _ _ _ _ => none) (bodyOf Try.f69) (cuts_of _ _ _ _ _ _ _ _ (bodyOf Try.f69) (l := []) (by kernel_rfl) trivial)]
    kernel_rfl
noncomputable def s69 (k : Nat) (a : List PV) (r : List RowS) (K : List PV → List RowS → Option R) : Option R :=
  onShape [.val [] (.int .i64), .val [] (.int .i64), .val [] (.int .i64)] [] (fun v => f69 k v.1.1 v.1.2.1 v.1.2.2.1 (fun z0 => K [.val [] .bool z0] [])) (callC T F k 69 a r K) a r
theorem s69_eq (k : Nat) (a : List PV) (r : List RowS) (K : List PV → List RowS → Option R) : s69 k a r K = callC T F k 69 a r K := by
  unfold s69
  exact onShape_eq (a := [.val [] (.int .i64), .val [] (.int .i64), .val [] (.int .i64)]) (b := []) (G := fun a r => callC T F k 69 a r K) (fun x y => Eq.trans (by kernel_rfl) (Eq.trans (e69 k x.1 x.2.1 x.2.2.1 K).symm (by kernel_rfl))) a r
end
section
variable {R : Type}
noncomputable def S76 (k g : Nat) (a : List PV) (r : List RowS) (K : List PV → List RowS → Option R) : Option R := bif g == 69 then s69 k a r K else callC T F k g a r K
theorem S76_eq (k : Nat) : S76 (R := R) k = callC T F k := by
  funext g a r K
  exact pick_eq (fun e => by subst e; exact s69_eq k a r K) (rfl)
theorem e76 (k : Nat) (a0 : Int) (K : List PV → List RowS → Option R) : callC T F k 76 [.val [] (.int .i64) a0] [] K = f76 k a0 (fun z0 => K [.val [] (.int .i64) z0] []) := by
  rw [f76_def]
  cases k with
  | zero => rfl
  | succ k =>
    refine Eq.trans (show _ = exec T an76 (modesOf F) 0 k 6 (callC T F k) (ending T Try.f76 an76 0 K) (bodyOf Try.f76) ⟨argEnv 0 [.val [] (.int .i64) a0] (fun _ => none), rowsOf []⟩ (ending T Try.f76 an76 0 K) (fun _ _ => none) from by kernel_rfl) ?_
    rw [← S76_eq k, ← execS_eq T an76 (modesOf F) 0 k 6 (S76 k) (fun _ _ _ _ _ => none) (bodyOf Try.f76) (cuts_of _ _ _ _ _ _ _ _ (bodyOf Try.f76) (l := []) (by kernel_rfl) trivial)]
    kernel_rfl
noncomputable def s76 (k : Nat) (a : List PV) (r : List RowS) (K : List PV → List RowS → Option R) : Option R :=
  onShape [.val [] (.int .i64)] [] (fun v => f76 k v.1.1 (fun z0 => K [.val [] (.int .i64) z0] [])) (callC T F k 76 a r K) a r
theorem s76_eq (k : Nat) (a : List PV) (r : List RowS) (K : List PV → List RowS → Option R) : s76 k a r K = callC T F k 76 a r K := by
  unfold s76
  exact onShape_eq (a := [.val [] (.int .i64)]) (b := []) (G := fun a r => callC T F k 76 a r K) (fun x y => Eq.trans (by kernel_rfl) (Eq.trans (e76 k x.1 K).symm (by kernel_rfl))) a r
end
section
variable {R : Type}
noncomputable def S77 (k g : Nat) (a : List PV) (r : List RowS) (K : List PV → List RowS → Option R) : Option R := bif g == 69 then s69 k a r K else callC T F k g a r K
theorem S77_eq (k : Nat) : S77 (R := R) k = callC T F k := by
  funext g a r K
  exact pick_eq (fun e => by subst e; exact s69_eq k a r K) (rfl)
theorem e77 (k : Nat) (a0 : Int) (a1 : Int) (a2 : Int) (K : List PV → List RowS → Option R) : callC T F k 77 [.val [] (.int .i64) a0, .val [] (.int .i64) a1, .val [] (.int .i64) a2] [] K = f77 k a0 a1 a2 (fun z0 => K [.val [] (.int .i64) z0] []) := by
  rw [f77_def]
  cases k with
  | zero => rfl
  | succ k =>
    refine Eq.trans (show _ = exec T an77 (modesOf F) 0 k 20 (callC T F k) (ending T Try.f77 an77 0 K) (bodyOf Try.f77) ⟨argEnv 0 [.val [] (.int .i64) a0, .val [] (.int .i64) a1, .val [] (.int .i64) a2] (fun _ => none), rowsOf []⟩ (ending T Try.f77 an77 0 K) (fun _ _ => none) from by kernel_rfl) ?_
    rw [← S77_eq k, ← execS_eq T an77 (modesOf F) 0 k 20 (S77 k) (fun _ _ _ _ _ => none) (bodyOf Try.f77) (cuts_of _ _ _ _ _ _ _ _ (bodyOf Try.f77) (l := []) (by kernel_rfl) trivial)]
    kernel_rfl
noncomputable def s77 (k : Nat) (a : List PV) (r : List RowS) (K : List PV → List RowS → Option R) : Option R :=
  onShape [.val [] (.int .i64), .val [] (.int .i64), .val [] (.int .i64)] [] (fun v => f77 k v.1.1 v.1.2.1 v.1.2.2.1 (fun z0 => K [.val [] (.int .i64) z0] [])) (callC T F k 77 a r K) a r
theorem s77_eq (k : Nat) (a : List PV) (r : List RowS) (K : List PV → List RowS → Option R) : s77 k a r K = callC T F k 77 a r K := by
  unfold s77
  exact onShape_eq (a := [.val [] (.int .i64), .val [] (.int .i64), .val [] (.int .i64)]) (b := []) (G := fun a r => callC T F k 77 a r K) (fun x y => Eq.trans (by kernel_rfl) (Eq.trans (e77 k x.1 x.2.1 x.2.2.1 K).symm (by kernel_rfl))) a r
end
section
variable {R : Type}
noncomputable def S36 (k g : Nat) (a : List PV) (r : List RowS) (K : List PV → List RowS → Option R) : Option R := bif g == 69 then s69 k a r K else bif g == 76 then s76 k a r K else bif g == 77 then s77 k a r K else callC T F k g a r K
theorem S36_eq (k : Nat) : S36 (R := R) k = callC T F k := by
  funext g a r K
  exact pick_eq (fun e => by subst e; exact s69_eq k a r K) (pick_eq (fun e => by subst e; exact s76_eq k a r K) (pick_eq (fun e => by subst e; exact s77_eq k a r K) (rfl)))
theorem e36 (k : Nat) (a0 : Int) (a1 : Int) (a2 : Int) (a3 : Int) (a4 : List Int) (a5 : Int) (K : List PV → List RowS → Option R) : callC T F k 36 [.agg [.val [] (.int .i64) a0, .val [] (.int .i64) a1, .val [] (.int .i64) a2, .val [] (.int .i64) a3, .val [(0, 0)] (.slice (.int .u8)) a4], .val [] (.int .i64) a5] [] K = f36 k a0 a1 a2 a3 a4 a5 (fun z0 => K [.val [] (.int .i64) z0] []) := by
  rw [f36_def]
  cases k with
  | zero => rfl
  | succ k =>
    refine Eq.trans (show _ = exec T an36 (modesOf F) 0 k 41 (callC T F k) (ending T Try.f36 an36 0 K) (bodyOf Try.f36) ⟨argEnv 0 [.agg [.val [] (.int .i64) a0, .val [] (.int .i64) a1, .val [] (.int .i64) a2, .val [] (.int .i64) a3, .val [(0, 0)] (.slice (.int .u8)) a4], .val [] (.int .i64) a5] (fun _ => none), rowsOf []⟩ (ending T Try.f36 an36 0 K) (fun _ _ => none) from by kernel_rfl) ?_
    rw [← S36_eq k, ← execS_eq T an36 (modesOf F) 0 k 41 (S36 k) (fun _ _ _ _ _ => none) (bodyOf Try.f36) (cuts_of _ _ _ _ _ _ _ _ (bodyOf Try.f36) (l := []) (by kernel_rfl) trivial)]
    kernel_rfl
noncomputable def s36 (k : Nat) (a : List PV) (r : List RowS) (K : List PV → List RowS → Option R) : Option R :=
  onShape [.agg [.val [] (.int .i64), .val [] (.int .i64), .val [] (.int .i64), .val [] (.int .i64), .val [(0, 0)] (.slice (.int .u8))], .val [] (.int .i64)] [] (fun v => f36 k v.1.1.1 v.1.1.2.1 v.1.1.2.2.1 v.1.1.2.2.2.1 v.1.1.2.2.2.2.1 v.1.2.1 (fun z0 => K [.val [] (.int .i64) z0] [])) (callC T F k 36 a r K) a r
theorem s36_eq (k : Nat) (a : List PV) (r : List RowS) (K : List PV → List RowS → Option R) : s36 k a r K = callC T F k 36 a r K := by
  unfold s36
  exact onShape_eq (a := [.agg [.val [] (.int .i64), .val [] (.int .i64), .val [] (.int .i64), .val [] (.int .i64), .val [(0, 0)] (.slice (.int .u8))], .val [] (.int .i64)]) (b := []) (G := fun a r => callC T F k 36 a r K) (fun x y => Eq.trans (by kernel_rfl) (Eq.trans (e36 k x.1.1 x.1.2.1 x.1.2.2.1 x.1.2.2.2.1 x.1.2.2.2.2.1 x.2.1 K).symm (by kernel_rfl))) a r
end
section
variable {R : Type}
noncomputable def S78 (k g : Nat) (a : List PV) (r : List RowS) (K : List PV → List RowS → Option R) : Option R := callC T F k g a r K
theorem S78_eq (k : Nat) : S78 (R := R) k = callC T F k := by
  funext g a r K
  exact rfl
section
variable {R : Type} (k : Nat) (K : List PV → List RowS → Option R)
noncomputable def L78_1000002 (ws : List PV) (rs : List RowS) (N : St → Option R) (X : Nat → St → Option R) : Option R :=
  onShape [.nils, .val [] (.int .i64), .val [] .bool] [] (fun v => f78_1000002 k (N (sh fi78_2 [.nils, .val [] (.int .i64) v.1.2.1] [])) v.1.2.1 v.1.2.2.1) (inner T an78 (modesOf F) 0 k 27 (S78 k) (ending T Try.f78 an78 0 K) cd78_1000002 (sh sp78_1000002 ws rs) N X) ws rs
noncomputable def L78_1000005 (ws : List PV) (rs : List RowS) (N : St → Option R) (X : Nat → St → Option R) : Option R :=
  onShape [.nils, .val [] (.int .i64), .val [] .bool] [] (fun v => f78_1000005 k (fun yN_0 => N (sh fi78_5 [.rw 1] [⟨0, .arr [] (.int .u8) yN_0⟩])) v.1.2.1 v.1.2.2.1) (inner T an78 (modesOf F) 0 k 27 (S78 k) (ending T Try.f78 an78 0 K) cd78_1000005 (sh sp78_1000005 ws rs) N X) ws rs
noncomputable def L78 (id : Nat) (ws : List PV) (rs : List RowS) (N : St → Option R) (X : Nat → St → Option R) : Option R := bif id == 1000002 then L78_1000002 k K ws rs N X else bif id == 1000005 then L78_1000005 k K ws rs N X else none
theorem l78_1000002 (ws : List PV) (rs : List RowS) (N : St → Option R) (X : Nat → St → Option R) : L78 k K 1000002 ws rs N X = inner T an78 (modesOf F) 0 k 27 (S78 k) (ending T Try.f78 an78 0 K) cd78_1000002 (sh sp78_1000002 ws rs) N X := by
  show L78_1000002 k K ws rs N X = _
  unfold L78_1000002
  rw [f78_1000002_def]
  exact onShape_eq (a := [.nils, .val [] (.int .i64), .val [] .bool]) (b := []) (G := fun ws rs => inner T an78 (modesOf F) 0 k 27 (S78 k) (ending T Try.f78 an78 0 K) cd78_1000002 (sh sp78_1000002 ws rs) N X) (fun x y => Eq.trans (by kernel_rfl) (innerS_eq T an78 (modesOf F) 0 k 27 (S78 k) (L78 k K) cd78_1000002 (l := []) (by kernel_rfl) trivial _ N X)) ws rs
theorem l78_1000005 (ws : List PV) (rs : List RowS) (N : St → Option R) (X : Nat → St → Option R) : L78 k K 1000005 ws rs N X = inner T an78 (modesOf F) 0 k 27 (S78 k) (ending T Try.f78 an78 0 K) cd78_1000005 (sh sp78_1000005 ws rs) N X := by
  show L78_1000005 k K ws rs N X = _
  unfold L78_1000005
  rw [f78_1000005_def]
  exact onShape_eq (a := [.nils, .val [] (.int .i64), .val [] .bool]) (b := []) (G := fun ws rs => inner T an78 (modesOf F) 0 k 27 (S78 k) (ending T Try.f78 an78 0 K) cd78_1000005 (sh sp78_1000005 ws rs) N X) (fun x y => Eq.trans (by kernel_rfl) (innerS_eq T an78 (modesOf F) 0 k 27 (S78 k) (L78 k K) cd78_1000005 (l := []) (by kernel_rfl) trivial _ N X)) ws rs
end
theorem e78 (k : Nat) (a0 : Int) (K : List PV → List RowS → Option R) : callC T F k 78 [.nils, .val [] (.int .i64) a0] [] K = f78 k a0 (fun z0 => K [.rw 1] [⟨0, .arr [] (.int .u8) z0⟩]) := by
  rw [f78_def]
  cases k with
  | zero => rfl
  | succ k =>
    refine Eq.trans (show _ = exec T an78 (modesOf F) 0 k 27 (callC T F k) (ending T Try.f78 an78 0 K) (bodyOf Try.f78) ⟨argEnv 0 [.nils, .val [] (.int .i64) a0] (fun _ => none), rowsOf []⟩ (ending T Try.f78 an78 0 K) (fun _ _ => none) from by kernel_rfl) ?_
    rw [← S78_eq k, ← execS_eq T an78 (modesOf F) 0 k 27 (S78 k) (L78 k K) (bodyOf Try.f78) (cuts_of _ _ _ _ _ _ _ _ (bodyOf Try.f78) (l := [(1000002, sp78_1000002, cd78_1000002), (1000005, sp78_1000005, cd78_1000005)]) (by kernel_rfl) ⟨l78_1000002 k K, l78_1000005 k K, trivial⟩)]
    kernel_rfl
noncomputable def s78 (k : Nat) (a : List PV) (r : List RowS) (K : List PV → List RowS → Option R) : Option R :=
  onShape [.nils, .val [] (.int .i64)] [] (fun v => f78 k v.1.2.1 (fun z0 => K [.rw 1] [⟨0, .arr [] (.int .u8) z0⟩])) (callC T F k 78 a r K) a r
theorem s78_eq (k : Nat) (a : List PV) (r : List RowS) (K : List PV → List RowS → Option R) : s78 k a r K = callC T F k 78 a r K := by
  unfold s78
  exact onShape_eq (a := [.nils, .val [] (.int .i64)]) (b := []) (G := fun a r => callC T F k 78 a r K) (fun x y => Eq.trans (by kernel_rfl) (Eq.trans (e78 k x.2.1 K).symm (by kernel_rfl))) a r
end
section
variable {R : Type}
noncomputable def S40 (k g : Nat) (a : List PV) (r : List RowS) (K : List PV → List RowS → Option R) : Option R := bif g == 78 then s78 k a r K else callC T F k g a r K
theorem S40_eq (k : Nat) : S40 (R := R) k = callC T F k := by
  funext g a r K
  exact pick_eq (fun e => by subst e; exact s78_eq k a r K) (rfl)
section
variable {R : Type} (k : Nat) (K : List PV → List RowS → Option R)
noncomputable def L40_1000007 (ws : List PV) (rs : List RowS) (N : St → Option R) (X : Nat → St → Option R) : Option R :=
  onShape [.val [(0, 0)] (.slice (.slice (.int .u8))), .val [] (.int .i64), .val [(0, 0)] (.slice (.slice (.int .u8))), .val [] (.int .i64), .val [] (.int .i64), .val [] .bool] [] (fun v => f40_1000007 k (N (sh fi40_7 [.val [(0, 0)] (.slice (.slice (.int .u8))) v.1.1, .val [] (.int .i64) v.1.2.1, .val [(0, 0)] (.slice (.slice (.int .u8))) v.1.2.2.1, .val [] (.int .i64) v.1.2.2.2.1, .val [] (.int .i64) v.1.2.2.2.2.1] [])) v.1.1 v.1.2.1 v.1.2.2.1 v.1.2.2.2.1 v.1.2.2.2.2.1 v.1.2.2.2.2.2.1) (inner T an40 (modesOf F) 0 k 36 (S40 k) (ending T Try.f40 an40 0 K) cd40_1000007 (sh sp40_1000007 ws rs) N X) ws rs
noncomputable def L40_0 (ws : List PV) (rs : List RowS) (N : St → Option R) (X : Nat → St → Option R) : Option R :=
  onShape [.val [(0, 0)] (.slice (.slice (.int .u8))), .val [] (.int .i64), .val [(0, 0)] (.slice (.slice (.int .u8))), .val [] (.int .i64), .val [] (.int .i64)] [] (fun v => f40_0 k (fun y0_1 => N (sh jn40_0 [.val [(0, 0)] (.slice (.slice (.int .u8))) v.1.1, .val [] (.int .i64) y0_1] [])) v.1.1 v.1.2.2.1 v.1.2.2.2.1 k v.1.2.1 v.1.2.2.2.2.1) (inner T an40 (modesOf F) 0 k 36 (S40 k) (ending T Try.f40 an40 0 K) cd40_0 (sh sp40_0 ws rs) N X) ws rs
noncomputable def L40_2 (ws : List PV) (rs : List RowS) (N : St → Option R) (X : Nat → St → Option R) : Option R :=
  onShape [.rw 1, .val [(0, 0)] (.slice (.slice (.int .u8))), .val [] (.int .i64), .val [] (.int .i64)] [.arr [] (.int .u8)] (fun v => f40_2 k (fun y2_0 => N (sh jn40_2 [.rw 1] [⟨0, .arr [] (.int .u8) y2_0⟩])) v.1.2.1 v.1.2.2.1 k v.1.2.2.2.1 v.2.1) (inner T an40 (modesOf F) 0 k 36 (S40 k) (ending T Try.f40 an40 0 K) cd40_2 (sh sp40_2 ws rs) N X) ws rs
noncomputable def L40 (id : Nat) (ws : List PV) (rs : List RowS) (N : St → Option R) (X : Nat → St → Option R) : Option R := bif id == 1000007 then L40_1000007 k K ws rs N X else bif id == 0 then L40_0 k K ws rs N X else bif id == 2 then L40_2 k K ws rs N X else none
theorem l40_1000007 (ws : List PV) (rs : List RowS) (N : St → Option R) (X : Nat → St → Option R) : L40 k K 1000007 ws rs N X = inner T an40 (modesOf F) 0 k 36 (S40 k) (ending T Try.f40 an40 0 K) cd40_1000007 (sh sp40_1000007 ws rs) N X := by
  show L40_1000007 k K ws rs N X = _
  unfold L40_1000007
  rw [f40_1000007_def]
  exact onShape_eq (a := [.val [(0, 0)] (.slice (.slice (.int .u8))), .val [] (.int .i64), .val [(0, 0)] (.slice (.slice (.int .u8))), .val [] (.int .i64), .val [] (.int .i64), .val [] .bool]) (b := []) (G := fun ws rs => inner T an40 (modesOf F) 0 k 36 (S40 k) (ending T Try.f40 an40 0 K) cd40_1000007 (sh sp40_1000007 ws rs) N X) (fun x y => Eq.trans (by kernel_rfl) (innerS_eq T an40 (modesOf F) 0 k 36 (S40 k) (L40 k K) cd40_1000007 (l := []) (by kernel_rfl) trivial _ N X)) ws rs
theorem b40_0 (rec : St → Option R) (N : St → Option R) (X : Nat → St → Option R) (v0_0 : List (List Int)) (v0_2 : List (List Int)) (v0_3 : Int) (v0_1 : Int) (v0_4 : Int) :
    execS T an40 (modesOf F) 0 k 36 (S40 k) (L40 k K) (ending T Try.f40 an40 0 K) bd40_0 (sh sp40_0 [.val [(0, 0)] (.slice (.slice (.int .u8))) v0_0, .val [] (.int .i64) v0_1, .val [(0, 0)] (.slice (.slice (.int .u8))) v0_2, .val [] (.int .i64) v0_3, .val [] (.int .i64) v0_4] []) (fun st => atHead an40 0 bd40_0 st rec) (outX an40 0 0 N X) =
      f40_0b k (fun v0_1 v0_4 => rec (sh sp40_0 [.val [(0, 0)] (.slice (.slice (.int .u8))) v0_0, .val [] (.int .i64) v0_1, .val [(0, 0)] (.slice (.slice (.int .u8))) v0_2, .val [] (.int .i64) v0_3, .val [] (.int .i64) v0_4] [])) (fun y0_1 => N (sh jn40_0 [.val [(0, 0)] (.slice (.slice (.int .u8))) v0_0, .val [] (.int .i64) y0_1] [])) v0_0 v0_2 v0_3 v0_1 v0_4 := by kernel_rfl
theorem i40_0 (N : St → Option R) (X : Nat → St → Option R) (v0_0 : List (List Int)) (v0_2 : List (List Int)) (v0_3 : Int) (m : Nat) : ∀ (v0_1 : Int) (v0_4 : Int),
    iter (atHead an40 0 bd40_0) m (fun st N' => exec T an40 (modesOf F) 0 k 36 (S40 k) (ending T Try.f40 an40 0 K) bd40_0 st N' (outX an40 0 0 N X)) (sh sp40_0 [.val [(0, 0)] (.slice (.slice (.int .u8))) v0_0, .val [] (.int .i64) v0_1, .val [(0, 0)] (.slice (.slice (.int .u8))) v0_2, .val [] (.int .i64) v0_3, .val [] (.int .i64) v0_4] []) = f40_0d k (fun y0_1 => N (sh jn40_0 [.val [(0, 0)] (.slice (.slice (.int .u8))) v0_0, .val [] (.int .i64) y0_1] [])) v0_0 v0_2 v0_3 m v0_1 v0_4 := by
  induction m with
  | zero => intros; rfl
  | succ m ih =>
    intro v0_1 v0_4
    simp only [iter]
    rw [← execS_eq T an40 (modesOf F) 0 k 36 (S40 k) (L40 k K) bd40_0 (cuts_of _ _ _ _ _ _ _ _ bd40_0 (l := [(1000007, sp40_1000007, cd40_1000007)]) (by kernel_rfl) ⟨l40_1000007 k K, trivial⟩)]
    refine (b40_0 k K _ N X v0_0 v0_2 v0_3 v0_1 v0_4).trans ?_
    simp only [f40_0d, ih]
theorem l40_0 (ws : List PV) (rs : List RowS) (N : St → Option R) (X : Nat → St → Option R) : L40 k K 0 ws rs N X = inner T an40 (modesOf F) 0 k 36 (S40 k) (ending T Try.f40 an40 0 K) cd40_0 (sh sp40_0 ws rs) N X := by
  show L40_0 k K ws rs N X = _
  unfold L40_0
  rw [f40_0_def]
  exact onShape_eq (a := [.val [(0, 0)] (.slice (.slice (.int .u8))), .val [] (.int .i64), .val [(0, 0)] (.slice (.slice (.int .u8))), .val [] (.int .i64), .val [] (.int .i64)]) (b := []) (G := fun ws rs => inner T an40 (modesOf F) 0 k 36 (S40 k) (ending T Try.f40 an40 0 K) cd40_0 (sh sp40_0 ws rs) N X) (fun x y => Eq.trans (by kernel_rfl) (Eq.trans (i40_0 k K N X x.1 x.2.2.1 x.2.2.2.1 k x.2.1 x.2.2.2.2.1).symm (by kernel_rfl))) ws rs
theorem b40_2 (rec : St → Option R) (N : St → Option R) (X : Nat → St → Option R) (v2_0 : List (List Int)) (v2_1 : Int) (v2_2 : Int) (v2_3 : List Int) :
    execS T an40 (modesOf F) 0 k 36 (S40 k) (L40 k K) (ending T Try.f40 an40 0 K) bd40_2 (sh sp40_2 [.rw 1, .val [(0, 0)] (.slice (.slice (.int .u8))) v2_0, .val [] (.int .i64) v2_1, .val [] (.int .i64) v2_2] [⟨0, .arr [] (.int .u8) v2_3⟩]) (fun st => atHead an40 0 bd40_2 st rec) (outX an40 0 2 N X) =
      f40_2b k (fun v2_2 v2_3 => rec (sh sp40_2 [.rw 1, .val [(0, 0)] (.slice (.slice (.int .u8))) v2_0, .val [] (.int .i64) v2_1, .val [] (.int .i64) v2_2] [⟨0, .arr [] (.int .u8) v2_3⟩])) (fun y2_0 => N (sh jn40_2 [.rw 1] [⟨0, .arr [] (.int .u8) y2_0⟩])) v2_0 v2_1 v2_2 v2_3 := by kernel_rfl
theorem i40_2 (N : St → Option R) (X : Nat → St → Option R) (v2_0 : List (List Int)) (v2_1 : Int) (m : Nat) : ∀ (v2_2 : Int) (v2_3 : List Int),
    iter (atHead an40 0 bd40_2) m (fun st N' => exec T an40 (modesOf F) 0 k 36 (S40 k) (ending T Try.f40 an40 0 K) bd40_2 st N' (outX an40 0 2 N X)) (sh sp40_2 [.rw 1, .val [(0, 0)] (.slice (.slice (.int .u8))) v2_0, .val [] (.int .i64) v2_1, .val [] (.int .i64) v2_2] [⟨0, .arr [] (.int .u8) v2_3⟩]) = f40_2d k (fun y2_0 => N (sh jn40_2 [.rw 1] [⟨0, .arr [] (.int .u8) y2_0⟩])) v2_0 v2_1 m v2_2 v2_3 := by
  induction m with
  | zero => intros; rfl
  | succ m ih =>
    intro v2_2 v2_3
    simp only [iter]
    rw [← execS_eq T an40 (modesOf F) 0 k 36 (S40 k) (L40 k K) bd40_2 (cuts_of _ _ _ _ _ _ _ _ bd40_2 (l := []) (by kernel_rfl) trivial)]
    refine (b40_2 k K _ N X v2_0 v2_1 v2_2 v2_3).trans ?_
    simp only [f40_2d, ih]
theorem l40_2 (ws : List PV) (rs : List RowS) (N : St → Option R) (X : Nat → St → Option R) : L40 k K 2 ws rs N X = inner T an40 (modesOf F) 0 k 36 (S40 k) (ending T Try.f40 an40 0 K) cd40_2 (sh sp40_2 ws rs) N X := by
  show L40_2 k K ws rs N X = _
  unfold L40_2
  rw [f40_2_def]
  exact onShape_eq (a := [.rw 1, .val [(0, 0)] (.slice (.slice (.int .u8))), .val [] (.int .i64), .val [] (.int .i64)]) (b := [.arr [] (.int .u8)]) (G := fun ws rs => inner T an40 (modesOf F) 0 k 36 (S40 k) (ending T Try.f40 an40 0 K) cd40_2 (sh sp40_2 ws rs) N X) (fun x y => Eq.trans (by kernel_rfl) (Eq.trans (i40_2 k K N X x.2.1 x.2.2.1 k x.2.2.2.1 y.1).symm (by kernel_rfl))) ws rs
end
theorem e40 (k : Nat) (a0 : List (List Int)) (K : List PV → List RowS → Option R) : callC T F k 40 [.val [(0, 0)] (.slice (.slice (.int .u8))) a0] [] K = f40 k a0 (fun z0 => K [.rw 1] [⟨0, .arr [] (.int .u8) z0⟩]) := by
  rw [f40_def]
  cases k with
  | zero => rfl
  | succ k =>
    refine Eq.trans (show _ = exec T an40 (modesOf F) 0 k 36 (callC T F k) (ending T Try.f40 an40 0 K) (bodyOf Try.f40) ⟨argEnv 0 [.val [(0, 0)] (.slice (.slice (.int .u8))) a0] (fun _ => none), rowsOf []⟩ (ending T Try.f40 an40 0 K) (fun _ _ => none) from by kernel_rfl) ?_
    rw [← S40_eq k, ← execS_eq T an40 (modesOf F) 0 k 36 (S40 k) (L40 k K) (bodyOf Try.f40) (cuts_of _ _ _ _ _ _ _ _ (bodyOf Try.f40) (l := [(0, sp40_0, cd40_0), (2, sp40_2, cd40_2)]) (by kernel_rfl) ⟨l40_0 k K, l40_2 k K, trivial⟩)]
    kernel_rfl
noncomputable def s40 (k : Nat) (a : List PV) (r : List RowS) (K : List PV → List RowS → Option R) : Option R :=
  onShape [.val [(0, 0)] (.slice (.slice (.int .u8)))] [] (fun v => f40 k v.1.1 (fun z0 => K [.rw 1] [⟨0, .arr [] (.int .u8) z0⟩])) (callC T F k 40 a r K) a r
theorem s40_eq (k : Nat) (a : List PV) (r : List RowS) (K : List PV → List RowS → Option R) : s40 k a r K = callC T F k 40 a r K := by
  unfold s40
  exact onShape_eq (a := [.val [(0, 0)] (.slice (.slice (.int .u8)))]) (b := []) (G := fun a r => callC T F k 40 a r K) (fun x y => Eq.trans (by kernel_rfl) (Eq.trans (e40 k x.1 K).symm (by kernel_rfl))) a r
end
section
variable {R : Type}
noncomputable def S68 (k g : Nat) (a : List PV) (r : List RowS) (K : List PV → List RowS → Option R) : Option R := callC T F k g a r K
theorem S68_eq (k : Nat) : S68 (R := R) k = callC T F k := by
  funext g a r K
  exact rfl
theorem e68 (k : Nat) (a0 : List Int) (K : List PV → List RowS → Option R) : callC T F k 68 [.val [(0, 0)] (.slice (.int .u8)) a0] [] K = f68 k a0 (fun z0 => K [.val [] (.int .i64) z0] []) := by
  rw [f68_def]
  cases k with
  | zero => rfl
  | succ k =>
    refine Eq.trans (show _ = exec T an68 (modesOf F) 0 k 13 (callC T F k) (ending T Try.f68 an68 0 K) (bodyOf Try.f68) ⟨argEnv 0 [.val [(0, 0)] (.slice (.int .u8)) a0] (fun _ => none), rowsOf []⟩ (ending T Try.f68 an68 0 K) (fun _ _ => none) from by kernel_rfl) ?_
    rw [← S68_eq k, ← execS_eq T an68 (modesOf F) 0 k 13 (S68 k) (fun _ _ _ _ _ => none) (bodyOf Try.f68) (cuts_of _ _ _ _ _ _ _ _ (bodyOf Try.f68) (l := []) (by kernel_rfl) trivial)]
    kernel_rfl
noncomputable def s68 (k : Nat) (a : List PV) (r : List RowS) (K : List PV → List RowS → Option R) : Option R :=
  onShape [.val [(0, 0)] (.slice (.int .u8))] [] (fun v => f68 k v.1.1 (fun z0 => K [.val [] (.int .i64) z0] [])) (callC T F k 68 a r K) a r
theorem s68_eq (k : Nat) (a : List PV) (r : List RowS) (K : List PV → List RowS → Option R) : s68 k a r K = callC T F k 68 a r K := by
  unfold s68
  exact onShape_eq (a := [.val [(0, 0)] (.slice (.int .u8))]) (b := []) (G := fun a r => callC T F k 68 a r K) (fun x y => Eq.trans (by kernel_rfl) (Eq.trans (e68 k x.1 K).symm (by kernel_rfl))) a r
end
section
variable {R : Type}
noncomputable def S20 (k g : Nat) (a : List PV) (r : List RowS) (K : List PV → List RowS → Option R) : Option R := callC T F k g a r K
theorem S20_eq (k : Nat) : S20 (R := R) k = callC T F k := by
  funext g a r K
  exact rfl
section
variable {R : Type} (k : Nat) (K : List PV → List RowS → Option R)
noncomputable def L20_1000011 (ws : List PV) (rs : List RowS) (N : St → Option R) (X : Nat → St → Option R) : Option R :=
  onShape [.val [] (.int .i64), .val [(0, 0)] (.slice (.int .u8)), .val [] (.int .i64), .val [] (.int .i64), .val [] (.int .i64), .val [] .bool] [] (fun v => f20_1000011 k (fun yN_0 => N (sh fi20_11 [.val [] (.int .i64) yN_0, .val [(0, 0)] (.slice (.int .u8)) v.1.2.1, .val [] (.int .i64) v.1.2.2.1, .val [] (.int .i64) v.1.2.2.2.1, .val [] (.int .i64) v.1.2.2.2.2.1] [])) v.1.1 v.1.2.1 v.1.2.2.1 v.1.2.2.2.1 v.1.2.2.2.2.1 v.1.2.2.2.2.2.1) (inner T an20 (modesOf F) 0 k 32 (S20 k) (ending T Try.f20 an20 0 K) cd20_1000011 (sh sp20_1000011 ws rs) N X) ws rs
noncomputable def L20_2 (ws : List PV) (rs : List RowS) (N : St → Option R) (X : Nat → St → Option R) : Option R :=
  onShape [.val [] (.int .i64), .val [(0, 0)] (.slice (.int .u8)), .val [] (.int .i64), .val [] (.int .i64), .val [] (.int .i64)] [] (fun v => f20_2 k (fun y2_0 => N (sh jn20_2 [.val [] (.int .i64) y2_0, .val [(0, 0)] (.slice (.int .u8)) v.1.2.1, .val [] (.int .i64) v.1.2.2.1, .val [] (.int .i64) v.1.2.2.2.1] [])) v.1.2.1 v.1.2.2.1 v.1.2.2.2.1 k v.1.1 v.1.2.2.2.2.1) (inner T an20 (modesOf F) 0 k 32 (S20 k) (ending T Try.f20 an20 0 K) cd20_2 (sh sp20_2 ws rs) N X) ws rs
noncomputable def L20_0 (ws : List PV) (rs : List RowS) (N : St → Option R) (X : Nat → St → Option R) : Option R :=
  onShape [.val [] (.int .i64), .val [(0, 0)] (.slice (.int .u8)), .val [] (.int .i64), .val [] (.int .i64)] [] (fun v => f20_0 k (fun y0_0 => N (sh jn20_0 [.val [] (.int .i64) y0_0] [])) v.1.2.1 v.1.2.2.1 k v.1.1 v.1.2.2.2.1) (inner T an20 (modesOf F) 0 k 32 (S20 k) (ending T Try.f20 an20 0 K) cd20_0 (sh sp20_0 ws rs) N X) ws rs
noncomputable def L20 (id : Nat) (ws : List PV) (rs : List RowS) (N : St → Option R) (X : Nat → St → Option R) : Option R := bif id == 1000011 then L20_1000011 k K ws rs N X else bif id == 2 then L20_2 k K ws rs N X else bif id == 0 then L20_0 k K ws rs N X else none
theorem l20_1000011 (ws : List PV) (rs : List RowS) (N : St → Option R) (X : Nat → St → Option R) : L20 k K 1000011 ws rs N X = inner T an20 (modesOf F) 0 k 32 (S20 k) (ending T Try.f20 an20 0 K) cd20_1000011 (sh sp20_1000011 ws rs) N X := by
  show L20_1000011 k K ws rs N X = _
  unfold L20_1000011
  rw [f20_1000011_def]
  exact onShape_eq (a := [.val [] (.int .i64), .val [(0, 0)] (.slice (.int .u8)), .val [] (.int .i64), .val [] (.int .i64), .val [] (.int .i64), .val [] .bool]) (b := []) (G := fun ws rs => inner T an20 (modesOf F) 0 k 32 (S20 k) (ending T Try.f20 an20 0 K) cd20_1000011 (sh sp20_1000011 ws rs) N X) (fun x y => Eq.trans (by kernel_rfl) (innerS_eq T an20 (modesOf F) 0 k 32 (S20 k) (L20 k K) cd20_1000011 (l := []) (by kernel_rfl) trivial _ N X)) ws rs
theorem b20_2 (rec : St → Option R) (N : St → Option R) (X : Nat → St → Option R) (v2_1 : List Int) (v2_2 : Int) (v2_3 : Int) (v2_0 : Int) (v2_4 : Int) :
    execS T an20 (modesOf F) 0 k 32 (S20 k) (L20 k K) (ending T Try.f20 an20 0 K) bd20_2 (sh sp20_2 [.val [] (.int .i64) v2_0, .val [(0, 0)] (.slice (.int .u8)) v2_1, .val [] (.int .i64) v2_2, .val [] (.int .i64) v2_3, .val [] (.int .i64) v2_4] []) (fun st => atHead an20 0 bd20_2 st rec) (outX an20 0 2 N X) =
      f20_2b k (fun v2_0 v2_4 => rec (sh sp20_2 [.val [] (.int .i64) v2_0, .val [(0, 0)] (.slice (.int .u8)) v2_1, .val [] (.int .i64) v2_2, .val [] (.int .i64) v2_3, .val [] (.int .i64) v2_4] [])) (fun y2_0 => N (sh jn20_2 [.val [] (.int .i64) y2_0, .val [(0, 0)] (.slice (.int .u8)) v2_1, .val [] (.int .i64) v2_2, .val [] (.int .i64) v2_3] [])) v2_1 v2_2 v2_3 v2_0 v2_4 := by kernel_rfl
theorem i20_2 (N : St → Option R) (X : Nat → St → Option R) (v2_1 : List Int) (v2_2 : Int) (v2_3 : Int) (m : Nat) : ∀ (v2_0 : Int) (v2_4 : Int),
    iter (atHead an20 0 bd20_2) m (fun st N' => exec T an20 (modesOf F) 0 k 32 (S20 k) (ending T Try.f20 an20 0 K) bd20_2 st N' (outX an20 0 2 N X)) (sh sp20_2 [.val [] (.int .i64) v2_0, .val [(0, 0)] (.slice (.int .u8)) v2_1, .val [] (.int .i64) v2_2, .val [] (.int .i64) v2_3, .val [] (.int .i64) v2_4] []) = f20_2d k (fun y2_0 => N (sh jn20_2 [.val [] (.int .i64) y2_0, .val [(0, 0)] (.slice (.int .u8)) v2_1, .val [] (.int .i64) v2_2, .val [] (.int .i64) v2_3] [])) v2_1 v2_2 v2_3 m v2_0 v2_4 := by
  induction m with
  | zero => intros; rfl
  | succ m ih =>
    intro v2_0 v2_4
    simp only [iter]
    rw [← execS_eq T an20 (modesOf F) 0 k 32 (S20 k) (L20 k K) bd20_2 (cuts_of _ _ _ _ _ _ _ _ bd20_2 (l := [(1000011, sp20_1000011, cd20_1000011)]) (by kernel_rfl) ⟨l20_1000011 k K, trivial⟩)]
    refine (b20_2 k K _ N X v2_1 v2_2 v2_3 v2_0 v2_4).trans ?_
    simp only [f20_2d, ih]
theorem l20_2 (ws : List PV) (rs : List RowS) (N : St → Option R) (X : Nat → St → Option R) : L20 k K 2 ws rs N X = inner T an20 (modesOf F) 0 k 32 (S20 k) (ending T Try.f20 an20 0 K) cd20_2 (sh sp20_2 ws rs) N X := by
  show L20_2 k K ws rs N X = _
  unfold L20_2
  rw [f20_2_def]
  exact onShape_eq (a := [.val [] (.int .i64), .val [(0, 0)] (.slice (.int .u8)), .val [] (.int .i64), .val [] (.int .i64), .val [] (.int .i64)]) (b := []) (G := fun ws rs => inner T an20 (modesOf F) 0 k 32 (S20 k) (ending T Try.f20 an20 0 K) cd20_2 (sh sp20_2 ws rs) N X) (fun x y => Eq.trans (by kernel_rfl) (Eq.trans (i20_2 k K N X x.2.1 x.2.2.1 x.2.2.2.1 k x.1 x.2.2.2.2.1).symm (by kernel_rfl))) ws rs
theorem b20_0 (rec : St → Option R) (N : St → Option R) (X : Nat → St → Option R) (v0_1 : List Int) (v0_2 : Int) (v0_0 : Int) (v0_3 : Int) :
    execS T an20 (modesOf F) 0 k 32 (S20 k) (L20 k K) (ending T Try.f20 an20 0 K) bd20_0 (sh sp20_0 [.val [] (.int .i64) v0_0, .val [(0, 0)] (.slice (.int .u8)) v0_1, .val [] (.int .i64) v0_2, .val [] (.int .i64) v0_3] []) (fun st => atHead an20 0 bd20_0 st rec) (outX an20 0 0 N X) =
      f20_0b k (fun v0_0 v0_3 => rec (sh sp20_0 [.val [] (.int .i64) v0_0, .val [(0, 0)] (.slice (.int .u8)) v0_1, .val [] (.int .i64) v0_2, .val [] (.int .i64) v0_3] [])) (fun y0_0 => N (sh jn20_0 [.val [] (.int .i64) y0_0] [])) v0_1 v0_2 v0_0 v0_3 := by kernel_rfl
theorem i20_0 (N : St → Option R) (X : Nat → St → Option R) (v0_1 : List Int) (v0_2 : Int) (m : Nat) : ∀ (v0_0 : Int) (v0_3 : Int),
    iter (atHead an20 0 bd20_0) m (fun st N' => exec T an20 (modesOf F) 0 k 32 (S20 k) (ending T Try.f20 an20 0 K) bd20_0 st N' (outX an20 0 0 N X)) (sh sp20_0 [.val [] (.int .i64) v0_0, .val [(0, 0)] (.slice (.int .u8)) v0_1, .val [] (.int .i64) v0_2, .val [] (.int .i64) v0_3] []) = f20_0d k (fun y0_0 => N (sh jn20_0 [.val [] (.int .i64) y0_0] [])) v0_1 v0_2 m v0_0 v0_3 := by
  induction m with
  | zero => intros; rfl
  | succ m ih =>
    intro v0_0 v0_3
    simp only [iter]
    rw [← execS_eq T an20 (modesOf F) 0 k 32 (S20 k) (L20 k K) bd20_0 (cuts_of _ _ _ _ _ _ _ _ bd20_0 (l := [(2, sp20_2, cd20_2)]) (by kernel_rfl) ⟨l20_2 k K, trivial⟩)]
    refine (b20_0 k K _ N X v0_1 v0_2 v0_0 v0_3).trans ?_
    simp only [f20_0d, ih]
theorem l20_0 (ws : List PV) (rs : List RowS) (N : St → Option R) (X : Nat → St → Option R) : L20 k K 0 ws rs N X = inner T an20 (modesOf F) 0 k 32 (S20 k) (ending T Try.f20 an20 0 K) cd20_0 (sh sp20_0 ws rs) N X := by
  show L20_0 k K ws rs N X = _
  unfold L20_0
  rw [f20_0_def]
  exact onShape_eq (a := [.val [] (.int .i64), .val [(0, 0)] (.slice (.int .u8)), .val [] (.int .i64), .val [] (.int .i64)]) (b := []) (G := fun ws rs => inner T an20 (modesOf F) 0 k 32 (S20 k) (ending T Try.f20 an20 0 K) cd20_0 (sh sp20_0 ws rs) N X) (fun x y => Eq.trans (by kernel_rfl) (Eq.trans (i20_0 k K N X x.2.1 x.2.2.1 k x.1 x.2.2.2.1).symm (by kernel_rfl))) ws rs
end
theorem e20 (k : Nat) (a0 : List Int) (K : List PV → List RowS → Option R) : callC T F k 20 [.val [(0, 0)] (.slice (.int .u8)) a0] [] K = f20 k a0 (fun z0 => K [.val [] (.int .i64) z0] []) := by
  rw [f20_def]
  cases k with
  | zero => rfl
  | succ k =>
    refine Eq.trans (show _ = exec T an20 (modesOf F) 0 k 32 (callC T F k) (ending T Try.f20 an20 0 K) (bodyOf Try.f20) ⟨argEnv 0 [.val [(0, 0)] (.slice (.int .u8)) a0] (fun _ => none), rowsOf []⟩ (ending T Try.f20 an20 0 K) (fun _ _ => none) from by kernel_rfl) ?_
    rw [← S20_eq k, ← execS_eq T an20 (modesOf F) 0 k 32 (S20 k) (L20 k K) (bodyOf Try.f20) (cuts_of _ _ _ _ _ _ _ _ (bodyOf Try.f20) (l := [(0, sp20_0, cd20_0)]) (by kernel_rfl) ⟨l20_0 k K, trivial⟩)]
    kernel_rfl
noncomputable def s20 (k : Nat) (a : List PV) (r : List RowS) (K : List PV → List RowS → Option R) : Option R :=
  onShape [.val [(0, 0)] (.slice (.int .u8))] [] (fun v => f20 k v.1.1 (fun z0 => K [.val [] (.int .i64) z0] [])) (callC T F k 20 a r K) a r
theorem s20_eq (k : Nat) (a : List PV) (r : List RowS) (K : List PV → List RowS → Option R) : s20 k a r K = callC T F k 20 a r K := by
  unfold s20
  exact onShape_eq (a := [.val [(0, 0)] (.slice (.int .u8))]) (b := []) (G := fun a r => callC T F k 20 a r K) (fun x y => Eq.trans (by kernel_rfl) (Eq.trans (e20 k x.1 K).symm (by kernel_rfl))) a r
end
section
variable {R : Type}
noncomputable def S23 (k g : Nat) (a : List PV) (r : List RowS) (K : List PV → List RowS → Option R) : Option R := bif g == 20 then s20 k a r K else bif g == 41 then s41 k a r K else bif g == 68 then s68 k a r K else bif g == 69 then s69 k a r K else callC T F k g a r K
theorem S23_eq (k : Nat) : S23 (R := R) k = callC T F k := by
  funext g a r K
  exact pick_eq (fun e => by subst e; exact s20_eq k a r K) (pick_eq (fun e => by subst e; exact s41_eq k a r K) (pick_eq (fun e => by subst e; exact s68_eq k a r K) (pick_eq (fun e => by subst e; exact s69_eq k a r K) (rfl))))
theorem e23 (k : Nat) (a0 : List Int) (K : List PV → List RowS → Option R) : callC T F k 23 [.val [(0, 0)] (.slice (.int .u8)) a0] [] K = f23 k a0 (fun z0 z1 z2 z3 z4 z5 z6 => K [.agg [.val [] (.int .i64) z0, .val [] .bool z1, .val [] (.int .i64) z2, .val [] (.int .i64) z3, .rw 1], .val [] (.int .i64) z4, .val [] (.int .i64) z5] [⟨0, .arr [] (.int .u8) z6⟩]) := by
  rw [f23_def]
  cases k with
  | zero => rfl
  | succ k =>
    refine Eq.trans (show _ = exec T an23 (modesOf F) 0 k 67 (callC T F k) (ending T Try.f23 an23 0 K) (bodyOf Try.f23) ⟨argEnv 0 [.val [(0, 0)] (.slice (.int .u8)) a0] (fun _ => none), rowsOf []⟩ (ending T Try.f23 an23 0 K) (fun _ _ => none) from by kernel_rfl) ?_
    rw [← S23_eq k, ← execS_eq T an23 (modesOf F) 0 k 67 (S23 k) (fun _ _ _ _ _ => none) (bodyOf Try.f23) (cuts_of _ _ _ _ _ _ _ _ (bodyOf Try.f23) (l := []) (by kernel_rfl) trivial)]
    kernel_rfl
noncomputable def s23 (k : Nat) (a : List PV) (r : List RowS) (K : List PV → List RowS → Option R) : Option R :=
  onShape [.val [(0, 0)] (.slice (.int .u8))] [] (fun v => f23 k v.1.1 (fun z0 z1 z2 z3 z4 z5 z6 => K [.agg [.val [] (.int .i64) z0, .val [] .bool z1, .val [] (.int .i64) z2, .val [] (.int .i64) z3, .rw 1], .val [] (.int .i64) z4, .val [] (.int .i64) z5] [⟨0, .arr [] (.int .u8) z6⟩])) (callC T F k 23 a r K) a r
theorem s23_eq (k : Nat) (a : List PV) (r : List RowS) (K : List PV → List RowS → Option R) : s23 k a r K = callC T F k 23 a r K := by
  unfold s23
  exact onShape_eq (a := [.val [(0, 0)] (.slice (.int .u8))]) (b := []) (G := fun a r => callC T F k 23 a r K) (fun x y => Eq.trans (by kernel_rfl) (Eq.trans (e23 k x.1 K).symm (by kernel_rfl))) a r
end
section
variable {R : Type}
noncomputable def S86 (k g : Nat) (a : List PV) (r : List RowS) (K : List PV → List RowS → Option R) : Option R := bif g == 23 then s23 k a r K else callC T F k g a r K
theorem S86_eq (k : Nat) : S86 (R := R) k = callC T F k := by
  funext g a r K
  exact pick_eq (fun e => by subst e; exact s23_eq k a r K) (rfl)
section
variable {R : Type} (k : Nat) (K : List PV → List RowS → Option R)
noncomputable def L86_1000007 (ws : List PV) (rs : List RowS) (N : St → Option R) (X : Nat → St → Option R) : Option R :=
  onShape [.ptr 1 0, .ptr 6 0, .val [] (.int .i64), .val [] .bool] [.vars [.val [] .bool, .rw 4, .rw 5, .val [] (.int .i64)], .gone, .gone, .arr [] (.int .u8), .arr [] (.prod (.int .i64) (.prod .bool (.prod (.int .i64) (.prod (.int .i64) (.prod (.slice (.int .u8)) .unit))))), .vars [.val [] (.int .i64), .val [] .bool, .val [] (.int .i64), .val [] (.int .i64), .rw 7], .arr [] (.int .u8)] (fun v => f86_1000007 k (fun yN_4 => N (sh fi86_7 [.ptr 1 0, .val [] (.int .i64) v.1.2.2.1] [⟨0, .vars [.val [] .bool v.2.1.1, .rw 4, .rw 5, .val [] (.int .i64) v.2.1.2.2.2.1]⟩, ⟨0, .gone⟩, ⟨0, .gone⟩, ⟨0, .arr [] (.int .u8) v.2.2.2.2.1⟩, ⟨0, .arr [] (.prod (.int .i64) (.prod .bool (.prod (.int .i64) (.prod (.int .i64) (.prod (.slice (.int .u8)) .unit))))) yN_4⟩])) v.1.2.2.1 v.1.2.2.2.1 v.2.1.1 v.2.1.2.2.2.1 v.2.2.2.2.1 v.2.2.2.2.2.1 v.2.2.2.2.2.2.1.1 v.2.2.2.2.2.2.1.2.1 v.2.2.2.2.2.2.1.2.2.1 v.2.2.2.2.2.2.1.2.2.2.1 v.2.2.2.2.2.2.2.1) (inner T an86 (modesOf F) 3 k 59 (S86 k) (ending T Try.f86 an86 3 K) cd86_1000007 (sh sp86_1000007 ws rs) N X) ws rs
noncomputable def L86_0 (ws : List PV) (rs : List RowS) (N : St → Option R) (X : Nat → St → Option R) : Option R :=
  onShape [.ptr 1 0] [.vars [.val [] .bool, .rw 4, .rw 5, .val [] (.int .i64)], .gone, .gone, .arr [] (.int .u8), .arr [] (.prod (.int .i64) (.prod .bool (.prod (.int .i64) (.prod (.int .i64) (.prod (.slice (.int .u8)) .unit)))))] (fun v => f86_0 k (fun z0 z1 z2 z3 => K [] [⟨0, .vars [.val [] .bool z0, .rw 4, .rw 5, .val [] (.int .i64) z1]⟩, ⟨0, .gone⟩, ⟨0, .gone⟩, ⟨0, .arr [] (.int .u8) z2⟩, ⟨0, .arr [] (.prod (.int .i64) (.prod .bool (.prod (.int .i64) (.prod (.int .i64) (.prod (.slice (.int .u8)) .unit))))) z3⟩]) (fun y0_2 y0_3 => N (sh jn86_0 [] [⟨0, .vars [.val [] .bool v.2.1.1, .rw 4, .rw 5, .val [] (.int .i64) v.2.1.2.2.2.1]⟩, ⟨0, .gone⟩, ⟨0, .gone⟩, ⟨0, .arr [] (.int .u8) y0_2⟩, ⟨0, .arr [] (.prod (.int .i64) (.prod .bool (.prod (.int .i64) (.prod (.int .i64) (.prod (.slice (.int .u8)) .unit))))) y0_3⟩])) v.2.1.1 v.2.1.2.2.2.1 k v.2.2.2.2.1 v.2.2.2.2.2.1) (inner T an86 (modesOf F) 3 k 59 (S86 k) (ending T Try.f86 an86 3 K) cd86_0 (sh sp86_0 ws rs) N X) ws rs
noncomputable def L86 (id : Nat) (ws : List PV) (rs : List RowS) (N : St → Option R) (X : Nat → St → Option R) : Option R := bif id == 1000007 then L86_1000007 k K ws rs N X else bif id == 0 then L86_0 k K ws rs N X else none
theorem l86_1000007 (ws : List PV) (rs : List RowS) (N : St → Option R) (X : Nat → St → Option R) : L86 k K 1000007 ws rs N X = inner T an86 (modesOf F) 3 k 59 (S86 k) (ending T Try.f86 an86 3 K) cd86_1000007 (sh sp86_1000007 ws rs) N X := by
  show L86_1000007 k K ws rs N X = _
  unfold L86_1000007
  rw [f86_1000007_def]
  exact onShape_eq (a := [.ptr 1 0, .ptr 6 0, .val [] (.int .i64), .val [] .bool]) (b := [.vars [.val [] .bool, .rw 4, .rw 5, .val [] (.int .i64)], .gone, .gone, .arr [] (.int .u8), .arr [] (.prod (.int .i64) (.prod .bool (.prod (.int .i64) (.prod (.int .i64) (.prod (.slice (.int .u8)) .unit))))), .vars [.val [] (.int .i64), .val [] .bool, .val [] (.int .i64), .val [] (.int .i64), .rw 7], .arr [] (.int .u8)]) (G := fun ws rs => inner T an86 (modesOf F) 3 k 59 (S86 k) (ending T Try.f86 an86 3 K) cd86_1000007 (sh sp86_1000007 ws rs) N X) (fun x y => Eq.trans (by kernel_rfl) (innerS_eq T an86 (modesOf F) 3 k 59 (S86 k) (L86 k K) cd86_1000007 (l := []) (by kernel_rfl) trivial _ N X)) ws rs
theorem b86_0 (rec : St → Option R) (N : St → Option R) (X : Nat → St → Option R) (v0_0 : Bool) (v0_1 : Int) (v0_2 : List Int) (v0_3 : List (Int × (Bool × (Int × (Int × (List Int × Unit)))))) :
    execS T an86 (modesOf F) 3 k 59 (S86 k) (L86 k K) (ending T Try.f86 an86 3 K) bd86_0 (sh sp86_0 [.ptr 1 0] [⟨0, .vars [.val [] .bool v0_0, .rw 4, .rw 5, .val [] (.int .i64) v0_1]⟩, ⟨0, .gone⟩, ⟨0, .gone⟩, ⟨0, .arr [] (.int .u8) v0_2⟩, ⟨0, .arr [] (.prod (.int .i64) (.prod .bool (.prod (.int .i64) (.prod (.int .i64) (.prod (.slice (.int .u8)) .unit))))) v0_3⟩]) (fun st => atHead an86 3 bd86_0 st rec) (outX an86 3 0 N X) =
      f86_0b k (fun v0_2 v0_3 => rec (sh sp86_0 [.ptr 1 0] [⟨0, .vars [.val [] .bool v0_0, .rw 4, .rw 5, .val [] (.int .i64) v0_1]⟩, ⟨0, .gone⟩, ⟨0, .gone⟩, ⟨0, .arr [] (.int .u8) v0_2⟩, ⟨0, .arr [] (.prod (.int .i64) (.prod .bool (.prod (.int .i64) (.prod (.int .i64) (.prod (.slice (.int .u8)) .unit))))) v0_3⟩])) (fun z0 z1 z2 z3 => K [] [⟨0, .vars [.val [] .bool z0, .rw 4, .rw 5, .val [] (.int .i64) z1]⟩, ⟨0, .gone⟩, ⟨0, .gone⟩, ⟨0, .arr [] (.int .u8) z2⟩, ⟨0, .arr [] (.prod (.int .i64) (.prod .bool (.prod (.int .i64) (.prod (.int .i64) (.prod (.slice (.int .u8)) .unit))))) z3⟩]) (fun y0_2 y0_3 => N (sh jn86_0 [] [⟨0, .vars [.val [] .bool v0_0, .rw 4, .rw 5, .val [] (.int .i64) v0_1]⟩, ⟨0, .gone⟩, ⟨0, .gone⟩, ⟨0, .arr [] (.int .u8) y0_2⟩, ⟨0, .arr [] (.prod (.int .i64) (.prod .bool (.prod (.int .i64) (.prod (.int .i64) (.prod (.slice (.int .u8)) .unit))))) y0_3⟩])) v0_0 v0_1 v0_2 v0_3 := by kernel_rfl
theorem i86_0 (N : St → Option R) (X : Nat → St → Option R) (v0_0 : Bool) (v0_1 : Int) (m : Nat) : ∀ (v0_2 : List Int) (v0_3 : List (Int × (Bool × (Int × (Int × (List Int × Unit)))))),
    iter (atHead an86 3 bd86_0) m (fun st N' => exec T an86 (modesOf F) 3 k 59 (S86 k) (ending T Try.f86 an86 3 K) bd86_0 st N' (outX an86 3 0 N X)) (sh sp86_0 [.ptr 1 0] [⟨0, .vars [.val [] .bool v0_0, .rw 4, .rw 5, .val [] (.int .i64) v0_1]⟩, ⟨0, .gone⟩, ⟨0, .gone⟩, ⟨0, .arr [] (.int .u8) v0_2⟩, ⟨0, .arr [] (.prod (.int .i64) (.prod .bool (.prod (.int .i64) (.prod (.int .i64) (.prod (.slice (.int .u8)) .unit))))) v0_3⟩]) = f86_0d k (fun z0 z1 z2 z3 => K [] [⟨0, .vars [.val [] .bool z0, .rw 4, .rw 5, .val [] (.int .i64) z1]⟩, ⟨0, .gone⟩, ⟨0, .gone⟩, ⟨0, .arr [] (.int .u8) z2⟩, ⟨0, .arr [] (.prod (.int .i64) (.prod .bool (.prod (.int .i64) (.prod (.int .i64) (.prod (.slice (.int .u8)) .unit))))) z3⟩]) (fun y0_2 y0_3 => N (sh jn86_0 [] [⟨0, .vars [.val [] .bool v0_0, .rw 4, .rw 5, .val [] (.int .i64) v0_1]⟩, ⟨0, .gone⟩, ⟨0, .gone⟩, ⟨0, .arr [] (.int .u8) y0_2⟩, ⟨0, .arr [] (.prod (.int .i64) (.prod .bool (.prod (.int .i64) (.prod (.int .i64) (.prod (.slice (.int .u8)) .unit))))) y0_3⟩])) v0_0 v0_1 m v0_2 v0_3 := by
  induction m with
  | zero => intros; rfl
  | succ m ih =>
    intro v0_2 v0_3
    simp only [iter]
    rw [← execS_eq T an86 (modesOf F) 3 k 59 (S86 k) (L86 k K) bd86_0 (cuts_of _ _ _ _ _ _ _ _ bd86_0 (l := [(1000007, sp86_1000007, cd86_1000007)]) (by kernel_rfl) ⟨l86_1000007 k K, trivial⟩)]
    refine (b86_0 k K _ N X v0_0 v0_1 v0_2 v0_3).trans ?_
    simp only [f86_0d, ih]
theorem l86_0 (ws : List PV) (rs : List RowS) (N : St → Option R) (X : Nat → St → Option R) : L86 k K 0 ws rs N X = inner T an86 (modesOf F) 3 k 59 (S86 k) (ending T Try.f86 an86 3 K) cd86_0 (sh sp86_0 ws rs) N X := by
  show L86_0 k K ws rs N X = _
  unfold L86_0
  rw [f86_0_def]
  exact onShape_eq (a := [.ptr 1 0]) (b := [.vars [.val [] .bool, .rw 4, .rw 5, .val [] (.int .i64)], .gone, .gone, .arr [] (.int .u8), .arr [] (.prod (.int .i64) (.prod .bool (.prod (.int .i64) (.prod (.int .i64) (.prod (.slice (.int .u8)) .unit)))))]) (G := fun ws rs => inner T an86 (modesOf F) 3 k 59 (S86 k) (ending T Try.f86 an86 3 K) cd86_0 (sh sp86_0 ws rs) N X) (fun x y => Eq.trans (by kernel_rfl) (Eq.trans (i86_0 k K N X y.1.1 y.1.2.2.2.1 k y.2.2.2.1 y.2.2.2.2.1).symm (by kernel_rfl))) ws rs
end
theorem e86 (k : Nat) (a0 : Bool) (a1 : Int) (a2 : List Int) (a3 : List (Int × (Bool × (Int × (Int × (List Int × Unit)))))) (K : List PV → List RowS → Option R) : callC T F k 86 [.ptr 1 0] [⟨0, .vars [.val [] .bool a0, .rw 2, .rw 3, .val [] (.int .i64) a1]⟩, ⟨0, .arr [] (.int .u8) a2⟩, ⟨0, .arr [] (.prod (.int .i64) (.prod .bool (.prod (.int .i64) (.prod (.int .i64) (.prod (.slice (.int .u8)) .unit))))) a3⟩] K = f86 k a0 a1 a2 a3 (fun z0 z1 z2 z3 => K [] [⟨0, .vars [.val [] .bool z0, .rw 4, .rw 5, .val [] (.int .i64) z1]⟩, ⟨0, .gone⟩, ⟨0, .gone⟩, ⟨0, .arr [] (.int .u8) z2⟩, ⟨0, .arr [] (.prod (.int .i64) (.prod .bool (.prod (.int .i64) (.prod (.int .i64) (.prod (.slice (.int .u8)) .unit))))) z3⟩]) := by
  rw [f86_def]
  cases k with
  | zero => rfl
  | succ k =>
    refine Eq.trans (show _ = exec T an86 (modesOf F) 3 k 59 (callC T F k) (ending T Try.f86 an86 3 K) (bodyOf Try.f86) ⟨argEnv 0 [.ptr 1 0] (fun _ => none), rowsOf [⟨0, .vars [.val [] .bool a0, .rw 2, .rw 3, .val [] (.int .i64) a1]⟩, ⟨0, .arr [] (.int .u8) a2⟩, ⟨0, .arr [] (.prod (.int .i64) (.prod .bool (.prod (.int .i64) (.prod (.int .i64) (.prod (.slice (.int .u8)) .unit))))) a3⟩]⟩ (ending T Try.f86 an86 3 K) (fun _ _ => none) from by kernel_rfl) ?_
    rw [← S86_eq k, ← execS_eq T an86 (modesOf F) 3 k 59 (S86 k) (L86 k K) (bodyOf Try.f86) (cuts_of _ _ _ _ _ _ _ _ (bodyOf Try.f86) (l := [(0, sp86_0, cd86_0)]) (by kernel_rfl) ⟨l86_0 k K, trivial⟩)]
    kernel_rfl
noncomputable def s86 (k : Nat) (a : List PV) (r : List RowS) (K : List PV → List RowS → Option R) : Option R :=
  onShape [.ptr 1 0] [.vars [.val [] .bool, .rw 2, .rw 3, .val [] (.int .i64)], .arr [] (.int .u8), .arr [] (.prod (.int .i64) (.prod .bool (.prod (.int .i64) (.prod (.int .i64) (.prod (.slice (.int .u8)) .unit)))))] (fun v => f86 k v.2.1.1 v.2.1.2.2.2.1 v.2.2.1 v.2.2.2.1 (fun z0 z1 z2 z3 => K [] [⟨0, .vars [.val [] .bool z0, .rw 4, .rw 5, .val [] (.int .i64) z1]⟩, ⟨0, .gone⟩, ⟨0, .gone⟩, ⟨0, .arr [] (.int .u8) z2⟩, ⟨0, .arr [] (.prod (.int .i64) (.prod .bool (.prod (.int .i64) (.prod (.int .i64) (.prod (.slice (.int .u8)) .unit))))) z3⟩])) (callC T F k 86 a r K) a r
theorem s86_eq (k : Nat) (a : List PV) (r : List RowS) (K : List PV → List RowS → Option R) : s86 k a r K = callC T F k 86 a r K := by
  unfold s86
  exact onShape_eq (a := [.ptr 1 0]) (b := [.vars [.val [] .bool, .rw 2, .rw 3, .val [] (.int .i64)], .arr [] (.int .u8), .arr [] (.prod (.int .i64) (.prod .bool (.prod (.int .i64) (.prod (.int .i64) (.prod (.slice (.int .u8)) .unit)))))]) (G := fun a r => callC T F k 86 a r K) (fun x y => Eq.trans (by kernel_rfl) (Eq.trans (e86 k y.1.1 y.1.2.2.2.1 y.2.1 y.2.2.1 K).symm (by kernel_rfl))) a r
end
section
variable {R : Type}
noncomputable def S51 (k g : Nat) (a : List PV) (r : List RowS) (K : List PV → List RowS → Option R) : Option R := bif g == 36 then s36 k a r K else bif g == 40 then s40 k a r K else bif g == 76 then s76 k a r K else bif g == 86 then s86 k a r K else callC T F k g a r K
theorem S51_eq (k : Nat) : S51 (R := R) k = callC T F k := by
  funext g a r K
  exact pick_eq (fun e => by subst e; exact s36_eq k a r K) (pick_eq (fun e => by subst e; exact s40_eq k a r K) (pick_eq (fun e => by subst e; exact s76_eq k a r K) (pick_eq (fun e => by subst e; exact s86_eq k a r K) (rfl))))
section
variable {R : Type} (k : Nat) (K : List PV → List RowS → Option R)
noncomputable def L51_0 (ws : List PV) (rs : List RowS) (N : St → Option R) (X : Nat → St → Option R) : Option R :=
  onShape [.val [(0, 0)] (.slice (.prod (.int .i64) (.prod (.int .i64) (.prod (.int .i64) (.prod (.int .i64) (.prod (.slice (.int .u8)) .unit)))))), .val [] (.int .i64), .val [(0, 0)] (.slice (.prod (.int .i64) (.prod (.int .i64) (.prod (.int .i64) (.prod (.int .i64) (.prod (.slice (.int .u8)) .unit)))))), .val [] (.int .i64), .val [] (.int .i64)] [] (fun v => f51_0 k (fun z0 z1 z2 => K [.rw 1, .val [] (.int .i64) z0, .val [] (.int .i64) z1] [⟨0, .arr [] (.prod (.int .i64) (.prod .bool (.prod (.int .i64) (.prod (.int .i64) (.prod (.slice (.int .u8)) .unit))))) z2⟩]) (N (sh jn51_0 [.val [(0, 0)] (.slice (.prod (.int .i64) (.prod (.int .i64) (.prod (.int .i64) (.prod (.int .i64) (.prod (.slice (.int .u8)) .unit)))))) v.1.1] [])) v.1.1 v.1.2.1 v.1.2.2.1 v.1.2.2.2.1 k v.1.2.2.2.2.1) (inner T an51 (modesOf F) 0 k 141 (S51 k) (ending T Try.f51 an51 0 K) cd51_0 (sh sp51_0 ws rs) N X) ws rs
noncomputable def L51_1000021 (ws : List PV) (rs : List RowS) (N : St → Option R) (X : Nat → St → Option R) : Option R :=
  onShape [.val [(0, 0)] (.slice (.prod (.int .i64) (.prod (.int .i64) (.prod (.int .i64) (.prod (.int .i64) (.prod (.slice (.int .u8)) .unit)))))), .ptr 1 0, .ptr 4 0, .val [(0, 0)] (.slice (.prod (.int .i64) (.prod (.int .i64) (.prod (.int .i64) (.prod (.int .i64) (.prod (.slice (.int .u8)) .unit)))))), .val [] (.int .i64), .val [] (.int .i64), .val [] .bool] [.vars [.val [] .bool, .rw 2, .rw 3, .val [] (.int .i64)], .arr [] (.int .u8), .arr [] (.prod (.int .i64) (.prod .bool (.prod (.int .i64) (.prod (.int .i64) (.prod (.slice (.int .u8)) .unit))))), .vars [.val [] (.int .i64), .val [] (.int .i64), .val [] (.int .i64), .val [] (.int .i64), .val [(0, 0)] (.slice (.int .u8))]] (fun v => f51_1000021 k (fun yN_4 yN_5 => N (sh fi51_21 [.val [(0, 0)] (.slice (.prod (.int .i64) (.prod (.int .i64) (.prod (.int .i64) (.prod (.int .i64) (.prod (.slice (.int .u8)) .unit)))))) v.1.1, .ptr 1 0, .ptr 4 0, .val [(0, 0)] (.slice (.prod (.int .i64) (.prod (.int .i64) (.prod (.int .i64) (.prod (.int .i64) (.prod (.slice (.int .u8)) .unit)))))) v.1.2.2.2.1, .val [] (.int .i64) v.1.2.2.2.2.1, .val [] (.int .i64) v.1.2.2.2.2.2.1] [⟨0, .vars [.val [] .bool yN_4, .rw 2, .rw 3, .val [] (.int .i64) yN_5]⟩, ⟨0, .arr [] (.int .u8) v.2.2.1⟩, ⟨0, .arr [] (.prod (.int .i64) (.prod .bool (.prod (.int .i64) (.prod (.int .i64) (.prod (.slice (.int .u8)) .unit))))) v.2.2.2.1⟩, ⟨0, .vars [.val [] (.int .i64) v.2.2.2.2.1.1, .val [] (.int .i64) v.2.2.2.2.1.2.1, .val [] (.int .i64) v.2.2.2.2.1.2.2.1, .val [] (.int .i64) v.2.2.2.2.1.2.2.2.1, .val [(0, 0)] (.slice (.int .u8)) v.2.2.2.2.1.2.2.2.2.1]⟩])) v.1.1 v.1.2.2.2.1 v.1.2.2.2.2.1 v.1.2.2.2.2.2.1 v.1.2.2.2.2.2.2.1 v.2.1.1 v.2.1.2.2.2.1 v.2.2.1 v.2.2.2.1 v.2.2.2.2.1.1 v.2.2.2.2.1.2.1 v.2.2.2.2.1.2.2.1 v.2.2.2.2.1.2.2.2.1 v.2.2.2.2.1.2.2.2.2.1) (inner T an51 (modesOf F) 0 k 141 (S51 k) (ending T Try.f51 an51 0 K) cd51_1000021 (sh sp51_1000021 ws rs) N X) ws rs
noncomputable def L51_1000025 (ws : List PV) (rs : List RowS) (N : St → Option R) (X : Nat → St → Option R) : Option R :=
  onShape [.val [(0, 0)] (.slice (.prod (.int .i64) (.prod (.int .i64) (.prod (.int .i64) (.prod (.int .i64) (.prod (.slice (.int .u8)) .unit)))))), .ptr 1 0, .ptr 4 0, .val [(0, 0)] (.slice (.int .u8)), .val [(0, 0)] (.slice (.prod (.int .i64) (.prod (.int .i64) (.prod (.int .i64) (.prod (.int .i64) (.prod (.slice (.int .u8)) .unit)))))), .val [] (.int .i64), .val [] (.int .i64), .val [] .bool] [.vars [.val [] .bool, .rw 2, .rw 3, .val [] (.int .i64)], .arr [] (.int .u8), .arr [] (.prod (.int .i64) (.prod .bool (.prod (.int .i64) (.prod (.int .i64) (.prod (.slice (.int .u8)) .unit))))), .vars [.val [] (.int .i64), .val [] (.int .i64), .val [] (.int .i64), .val [] (.int .i64), .val [(0, 0)] (.slice (.int .u8))]] (fun v => f51_1000025 k (fun y3_6 => X 3 (sh jn51_3 [.val [(0, 0)] (.slice (.prod (.int .i64) (.prod (.int .i64) (.prod (.int .i64) (.prod (.int .i64) (.prod (.slice (.int .u8)) .unit)))))) v.1.1, .ptr 1 0, .val [(0, 0)] (.slice (.prod (.int .i64) (.prod (.int .i64) (.prod (.int .i64) (.prod (.int .i64) (.prod (.slice (.int .u8)) .unit)))))) v.1.2.2.2.2.1, .val [] (.int .i64) v.1.2.2.2.2.2.1, .val [] (.int .i64) v.1.2.2.2.2.2.2.1] [⟨0, .vars [.val [] .bool v.2.1.1, .rw 2, .rw 3, .val [] (.int .i64) v.2.1.2.2.2.1]⟩, ⟨0, .arr [] (.int .u8) y3_6⟩, ⟨0, .arr [] (.prod (.int .i64) (.prod .bool (.prod (.int .i64) (.prod (.int .i64) (.prod (.slice (.int .u8)) .unit))))) v.2.2.2.1⟩])) (fun yN_1 yN_5 yN_7 => N (sh fi51_25 [.val [(0, 0)] (.slice (.prod (.int .i64) (.prod (.int .i64) (.prod (.int .i64) (.prod (.int .i64) (.prod (.slice (.int .u8)) .unit)))))) v.1.1, .ptr 1 0, .val [(0, 0)] (.slice (.int .u8)) yN_1, .val [(0, 0)] (.slice (.prod (.int .i64) (.prod (.int .i64) (.prod (.int .i64) (.prod (.int .i64) (.prod (.slice (.int .u8)) .unit)))))) v.1.2.2.2.2.1, .val [] (.int .i64) v.1.2.2.2.2.2.1, .val [] (.int .i64) v.1.2.2.2.2.2.2.1] [⟨0, .vars [.val [] .bool yN_5, .rw 2, .rw 3, .val [] (.int .i64) v.2.1.2.2.2.1]⟩, ⟨0, .arr [] (.int .u8) yN_7⟩, ⟨0, .arr [] (.prod (.int .i64) (.prod .bool (.prod (.int .i64) (.prod (.int .i64) (.prod (.slice (.int .u8)) .unit))))) v.2.2.2.1⟩])) v.1.1 v.1.2.2.2.1 v.1.2.2.2.2.1 v.1.2.2.2.2.2.1 v.1.2.2.2.2.2.2.1 v.1.2.2.2.2.2.2.2.1 v.2.1.1 v.2.1.2.2.2.1 v.2.2.1 v.2.2.2.1 v.2.2.2.2.1.1 v.2.2.2.2.1.2.1 v.2.2.2.2.1.2.2.1 v.2.2.2.2.1.2.2.2.1 v.2.2.2.2.1.2.2.2.2.1) (inner T an51 (modesOf F) 0 k 141 (S51 k) (ending T Try.f51 an51 0 K) cd51_1000025 (sh sp51_1000025 ws rs) N X) ws rs
noncomputable def L51_3 (ws : List PV) (rs : List RowS) (N : St → Option R) (X : Nat → St → Option R) : Option R :=
  onShape [.val [(0, 0)] (.slice (.prod (.int .i64) (.prod (.int .i64) (.prod (.int .i64) (.prod (.int .i64) (.prod (.slice (.int .u8)) .unit)))))), .ptr 1 0, .val [(0, 0)] (.slice (.prod (.int .i64) (.prod (.int .i64) (.prod (.int .i64) (.prod (.int .i64) (.prod (.slice (.int .u8)) .unit)))))), .val [] (.int .i64), .val [] (.int .i64)] [.vars [.val [] .bool, .rw 2, .rw 3, .val [] (.int .i64)], .arr [] (.int .u8), .arr [] (.prod (.int .i64) (.prod .bool (.prod (.int .i64) (.prod (.int .i64) (.prod (.slice (.int .u8)) .unit)))))] (fun v => f51_3 k (fun y3_4 y3_5 y3_6 y3_7 => N (sh jn51_3 [.val [(0, 0)] (.slice (.prod (.int .i64) (.prod (.int .i64) (.prod (.int .i64) (.prod (.int .i64) (.prod (.slice (.int .u8)) .unit)))))) v.1.1, .ptr 1 0, .val [(0, 0)] (.slice (.prod (.int .i64) (.prod (.int .i64) (.prod (.int .i64) (.prod (.int .i64) (.prod (.slice (.int .u8)) .unit)))))) v.1.2.2.1, .val [] (.int .i64) v.1.2.2.2.1, .val [] (.int .i64) v.1.2.2.2.2.1] [⟨0, .vars [.val [] .bool y3_4, .rw 2, .rw 3, .val [] (.int .i64) y3_5]⟩, ⟨0, .arr [] (.int .u8) y3_6⟩, ⟨0, .arr [] (.prod (.int .i64) (.prod .bool (.prod (.int .i64) (.prod (.int .i64) (.prod (.slice (.int .u8)) .unit))))) y3_7⟩])) v.1.1 v.1.2.2.1 v.1.2.2.2.1 v.1.2.2.2.2.1 v.2.1.1 v.2.1.2.2.2.1 v.2.2.1 v.2.2.2.1) (inner T an51 (modesOf F) 0 k 141 (S51 k) (ending T Try.f51 an51 0 K) cd51_3 (sh sp51_3 ws rs) N X) ws rs
noncomputable def L51_2 (ws : List PV) (rs : List RowS) (N : St → Option R) (X : Nat → St → Option R) : Option R :=
  onShape [.val [(0, 0)] (.slice (.prod (.int .i64) (.prod (.int .i64) (.prod (.int .i64) (.prod (.int .i64) (.prod (.slice (.int .u8)) .unit)))))), .ptr 1 0, .val [(0, 0)] (.slice (.prod (.int .i64) (.prod (.int .i64) (.prod (.int .i64) (.prod (.int .i64) (.prod (.slice (.int .u8)) .unit)))))), .val [] (.int .i64), .val [] (.int .i64)] [.vars [.val [] .bool, .rw 2, .rw 3, .val [] (.int .i64)], .arr [] (.int .u8), .arr [] (.prod (.int .i64) (.prod .bool (.prod (.int .i64) (.prod (.int .i64) (.prod (.slice (.int .u8)) .unit)))))] (fun v => f51_2 k (fun y2_0 y2_1 y2_2 y2_3 => N (sh jn51_2 [.ptr 1 0] [⟨0, .vars [.val [] .bool y2_0, .rw 2, .rw 3, .val [] (.int .i64) y2_1]⟩, ⟨0, .arr [] (.int .u8) y2_2⟩, ⟨0, .arr [] (.prod (.int .i64) (.prod .bool (.prod (.int .i64) (.prod (.int .i64) (.prod (.slice (.int .u8)) .unit))))) y2_3⟩])) v.1.1 v.1.2.2.1 v.1.2.2.2.1 k v.1.2.2.2.2.1 v.2.1.1 v.2.1.2.2.2.1 v.2.2.1 v.2.2.2.1) (inner T an51 (modesOf F) 0 k 141 (S51 k) (ending T Try.f51 an51 0 K) cd51_2 (sh sp51_2 ws rs) N X) ws rs
noncomputable def L51 (id : Nat) (ws : List PV) (rs : List RowS) (N : St → Option R) (X : Nat → St → Option R) : Option R := bif id == 0 then L51_0 k K ws rs N X else bif id == 1000021 then L51_1000021 k K ws rs N X else bif id == 1000025 then L51_1000025 k K ws rs N X else bif id == 3 then L51_3 k K ws rs N X else bif id == 2 then L51_2 k K ws rs N X else none
theorem b51_0 (rec : St → Option R) (N : St → Option R) (X : Nat → St → Option R) (v0_0 : List ((Int × (Int × (Int × (Int × (List Int × Unit))))))) (v0_1 : Int) (v0_2 : List ((Int × (Int × (Int × (Int × (List Int × Unit))))))) (v0_3 : Int) (v0_4 : Int) :
    execS T an51 (modesOf F) 0 k 141 (S51 k) (L51 k K) (ending T Try.f51 an51 0 K) bd51_0 (sh sp51_0 [.val [(0, 0)] (.slice (.prod (.int .i64) (.prod (.int .i64) (.prod (.int .i64) (.prod (.int .i64) (.prod (.slice (.int .u8)) .unit)))))) v0_0, .val [] (.int .i64) v0_1, .val [(0, 0)] (.slice (.prod (.int .i64) (.prod (.int .i64) (.prod (.int .i64) (.prod (.int .i64) (.prod (.slice (.int .u8)) .unit)))))) v0_2, .val [] (.int .i64) v0_3, .val [] (.int .i64) v0_4] []) (fun st => atHead an51 0 bd51_0 st rec) (outX an51 0 0 N X) =
      f51_0b k (fun v0_4 => rec (sh sp51_0 [.val [(0, 0)] (.slice (.prod (.int .i64) (.prod (.int .i64) (.prod (.int .i64) (.prod (.int .i64) (.prod (.slice (.int .u8)) .unit)))))) v0_0, .val [] (.int .i64) v0_1, .val [(0, 0)] (.slice (.prod (.int .i64) (.prod (.int .i64) (.prod (.int .i64) (.prod (.int .i64) (.prod (.slice (.int .u8)) .unit)))))) v0_2, .val [] (.int .i64) v0_3, .val [] (.int .i64) v0_4] [])) (fun z0 z1 z2 => K [.rw 1, .val [] (.int .i64) z0, .val [] (.int .i64) z1] [⟨0, .arr [] (.prod (.int .i64) (.prod .bool (.prod (.int .i64) (.prod (.int .i64) (.prod (.slice (.int .u8)) .unit))))) z2⟩]) (N (sh jn51_0 [.val [(0, 0)] (.slice (.prod (.int .i64) (.prod (.int .i64) (.prod (.int .i64) (.prod (.int .i64) (.prod (.slice (.int .u8)) .unit)))))) v0_0] [])) v0_0 v0_1 v0_2 v0_3 v0_4 := by kernel_rfl
theorem i51_0 (N : St → Option R) (X : Nat → St → Option R) (v0_0 : List ((Int × (Int × (Int × (Int × (List Int × Unit))))))) (v0_1 : Int) (v0_2 : List ((Int × (Int × (Int × (Int × (List Int × Unit))))))) (v0_3 : Int) (m : Nat) : ∀ (v0_4 : Int),
    iter (atHead an51 0 bd51_0) m (fun st N' => exec T an51 (modesOf F) 0 k 141 (S51 k) (ending T Try.f51 an51 0 K) bd51_0 st N' (outX an51 0 0 N X)) (sh sp51_0 [.val [(0, 0)] (.slice (.prod (.int .i64) (.prod (.int .i64) (.prod (.int .i64) (.prod (.int .i64) (.prod (.slice (.int .u8)) .unit)))))) v0_0, .val [] (.int .i64) v0_1, .val [(0, 0)] (.slice (.prod (.int .i64) (.prod (.int .i64) (.prod (.int .i64) (.prod (.int .i64) (.prod (.slice (.int .u8)) .unit)))))) v0_2, .val [] (.int .i64) v0_3, .val [] (.int .i64) v0_4] []) = f51_0d k (fun z0 z1 z2 => K [.rw 1, .val [] (.int .i64) z0, .val [] (.int .i64) z1] [⟨0, .arr [] (.prod (.int .i64) (.prod .bool (.prod (.int .i64) (.prod (.int .i64) (.prod (.slice (.int .u8)) .unit))))) z2⟩]) (N (sh jn51_0 [.val [(0, 0)] (.slice (.prod (.int .i64) (.prod (.int .i64) (.prod (.int .i64) (.prod (.int .i64) (.prod (.slice (.int .u8)) .unit)))))) v0_0] [])) v0_0 v0_1 v0_2 v0_3 m v0_4 := by
  induction m with
  | zero => intros; rfl
  | succ m ih =>
    intro v0_4
    simp only [iter]
    rw [← execS_eq T an51 (modesOf F) 0 k 141 (S51 k) (L51 k K) bd51_0 (cuts_of _ _ _ _ _ _ _ _ bd51_0 (l := []) (by kernel_rfl) trivial)]
    refine (b51_0 k K _ N X v0_0 v0_1 v0_2 v0_3 v0_4).trans ?_
    simp only [f51_0d, ih]
theorem l51_0 (ws : List PV) (rs : List RowS) (N : St → Option R) (X : Nat → St → Option R) : L51 k K 0 ws rs N X = inner T an51 (modesOf F) 0 k 141 (S51 k) (ending T Try.f51 an51 0 K) cd51_0 (sh sp51_0 ws rs) N X := by
  show L51_0 k K ws rs N X = _
  unfold L51_0
  rw [f51_0_def]
  exact onShape_eq (a := [.val [(0, 0)] (.slice (.prod (.int .i64) (.prod (.int .i64) (.prod (.int .i64) (.prod (.int .i64) (.prod (.slice (.int .u8)) .unit)))))), .val [] (.int .i64), .val [(0, 0)] (.slice (.prod (.int .i64) (.prod (.int .i64) (.prod (.int .i64) (.prod (.int .i64) (.prod (.slice (.int .u8)) .unit)))))), .val [] (.int .i64), .val [] (.int .i64)]) (b := []) (G := fun ws rs => inner T an51 (modesOf F) 0 k 141 (S51 k) (ending T Try.f51 an51 0 K) cd51_0 (sh sp51_0 ws rs) N X) (fun x y => Eq.trans (by kernel_rfl) (Eq.trans (i51_0 k K N X x.1 x.2.1 x.2.2.1 x.2.2.2.1 k x.2.2.2.2.1).symm (by kernel_rfl))) ws rs
theorem l51_1000021 (ws : List PV) (rs : List RowS) (N : St → Option R) (X : Nat → St → Option R) : L51 k K 1000021 ws rs N X = inner T an51 (modesOf F) 0 k 141 (S51 k) (ending T Try.f51 an51 0 K) cd51_1000021 (sh sp51_1000021 ws rs) N X := by
  show L51_1000021 k K ws rs N X = _
  unfold L51_1000021
  rw [f51_1000021_def]
  exact onShape_eq (a := [.val [(0, 0)] (.slice (.prod (.int .i64) (.prod (.int .i64) (.prod (.int .i64) (.prod (.int .i64) (.prod (.slice (.int .u8)) .unit)))))), .ptr 1 0, .ptr 4 0, .val [(0, 0)] (.slice (.prod (.int .i64) (.prod (.int .i64) (.prod (.int .i64) (.prod (.int .i64) (.prod (.slice (.int .u8)) .unit)))))), .val [] (.int .i64), .val [] (.int .i64), .val [] .bool]) (b := [.vars [.val [] .bool, .rw 2, .rw 3, .val [] (.int .i64)], .arr [] (.int .u8), .arr [] (.prod (.int .i64) (.prod .bool (.prod (.int .i64) (.prod (.int .i64) (.prod (.slice (.int .u8)) .unit))))), .vars [.val [] (.int .i64), .val [] (.int .i64), .val [] (.int .i64), .val [] (.int .i64), .val [(0, 0)] (.slice (.int .u8))]]) (G := fun ws rs => inner T an51 (modesOf F) 0 k 141 (S51 k) (ending T Try.f51 an51 0 K) cd51_1000021 (sh sp51_1000021 ws rs) N X) (fun x y => Eq.trans (by kernel_rfl) (innerS_eq T an51 (modesOf F) 0 k 141 (S51 k) (L51 k K) cd51_1000021 (l := []) (by kernel_rfl) trivial _ N X)) ws rs
theorem l51_1000025 (ws : List PV) (rs : List RowS) (N : St → Option R) (X : Nat → St → Option R) : L51 k K 1000025 ws rs N X = inner T an51 (modesOf F) 0 k 141 (S51 k) (ending T Try.f51 an51 0 K) cd51_1000025 (sh sp51_1000025 ws rs) N X := by
  show L51_1000025 k K ws rs N X = _
  unfold L51_1000025
  rw [f51_1000025_def]
  exact onShape_eq (a := [.val [(0, 0)] (.slice (.prod (.int .i64) (.prod (.int .i64) (.prod (.int .i64) (.prod (.int .i64) (.prod (.slice (.int .u8)) .unit)))))), .ptr 1 0, .ptr 4 0, .val [(0, 0)] (.slice (.int .u8)), .val [(0, 0)] (.slice (.prod (.int .i64) (.prod (.int .i64) (.prod (.int .i64) (.prod (.int .i64) (.prod (.slice (.int .u8)) .unit)))))), .val [] (.int .i64), .val [] (.int .i64), .val [] .bool]) (b := [.vars [.val [] .bool, .rw 2, .rw 3, .val [] (.int .i64)], .arr [] (.int .u8), .arr [] (.prod (.int .i64) (.prod .bool (.prod (.int .i64) (.prod (.int .i64) (.prod (.slice (.int .u8)) .unit))))), .vars [.val [] (.int .i64), .val [] (.int .i64), .val [] (.int .i64), .val [] (.int .i64), .val [(0, 0)] (.slice (.int .u8))]]) (G := fun ws rs => inner T an51 (modesOf F) 0 k 141 (S51 k) (ending T Try.f51 an51 0 K) cd51_1000025 (sh sp51_1000025 ws rs) N X) (fun x y => Eq.trans (by kernel_rfl) (innerS_eq T an51 (modesOf F) 0 k 141 (S51 k) (L51 k K) cd51_1000025 (l := []) (by kernel_rfl) trivial _ N X)) ws rs
theorem l51_3 (ws : List PV) (rs : List RowS) (N : St → Option R) (X : Nat → St → Option R) : L51 k K 3 ws rs N X = inner T an51 (modesOf F) 0 k 141 (S51 k) (ending T Try.f51 an51 0 K) cd51_3 (sh sp51_3 ws rs) N X := by
  show L51_3 k K ws rs N X = _
  unfold L51_3
  rw [f51_3_def]
  exact onShape_eq (a := [.val [(0, 0)] (.slice (.prod (.int .i64) (.prod (.int .i64) (.prod (.int .i64) (.prod (.int .i64) (.prod (.slice (.int .u8)) .unit)))))), .ptr 1 0, .val [(0, 0)] (.slice (.prod (.int .i64) (.prod (.int .i64) (.prod (.int .i64) (.prod (.int .i64) (.prod (.slice (.int .u8)) .unit)))))), .val [] (.int .i64), .val [] (.int .i64)]) (b := [.vars [.val [] .bool, .rw 2, .rw 3, .val [] (.int .i64)], .arr [] (.int .u8), .arr [] (.prod (.int .i64) (.prod .bool (.prod (.int .i64) (.prod (.int .i64) (.prod (.slice (.int .u8)) .unit)))))]) (G := fun ws rs => inner T an51 (modesOf F) 0 k 141 (S51 k) (ending T Try.f51 an51 0 K) cd51_3 (sh sp51_3 ws rs) N X) (fun x y => Eq.trans (by kernel_rfl) (innerS_eq T an51 (modesOf F) 0 k 141 (S51 k) (L51 k K) cd51_3 (l := [(1000021, sp51_1000021, cd51_1000021), (1000025, sp51_1000025, cd51_1000025)]) (by kernel_rfl) ⟨l51_1000021 k K, l51_1000025 k K, trivial⟩ _ N X)) ws rs
theorem b51_2 (rec : St → Option R) (N : St → Option R) (X : Nat → St → Option R) (v2_0 : List ((Int × (Int × (Int × (Int × (List Int × Unit))))))) (v2_1 : List ((Int × (Int × (Int × (Int × (List Int × Unit))))))) (v2_2 : Int) (v2_3 : Int) (v2_4 : Bool) (v2_5 : Int) (v2_6 : List Int) (v2_7 : List (Int × (Bool × (Int × (Int × (List Int × Unit)))))) :
    execS T an51 (modesOf F) 0 k 141 (S51 k) (L51 k K) (ending T Try.f51 an51 0 K) bd51_2 (sh sp51_2 [.val [(0, 0)] (.slice (.prod (.int .i64) (.prod (.int .i64) (.prod (.int .i64) (.prod (.int .i64) (.prod (.slice (.int .u8)) .unit)))))) v2_0, .ptr 1 0, .val [(0, 0)] (.slice (.prod (.int .i64) (.prod (.int .i64) (.prod (.int .i64) (.prod (.int .i64) (.prod (.slice (.int .u8)) .unit)))))) v2_1, .val [] (.int .i64) v2_2, .val [] (.int .i64) v2_3] [⟨0, .vars [.val [] .bool v2_4, .rw 2, .rw 3, .val [] (.int .i64) v2_5]⟩, ⟨0, .arr [] (.int .u8) v2_6⟩, ⟨0, .arr [] (.prod (.int .i64) (.prod .bool (.prod (.int .i64) (.prod (.int .i64) (.prod (.slice (.int .u8)) .unit))))) v2_7⟩]) (fun st => atHead an51 0 bd51_2 st rec) (outX an51 0 2 N X) =
      f51_2b k (fun v2_3 v2_4 v2_5 v2_6 v2_7 => rec (sh sp51_2 [.val [(0, 0)] (.slice (.prod (.int .i64) (.prod (.int .i64) (.prod (.int .i64) (.prod (.int .i64) (.prod (.slice (.int .u8)) .unit)))))) v2_0, .ptr 1 0, .val [(0, 0)] (.slice (.prod (.int .i64) (.prod (.int .i64) (.prod (.int .i64) (.prod (.int .i64) (.prod (.slice (.int .u8)) .unit)))))) v2_1, .val [] (.int .i64) v2_2, .val [] (.int .i64) v2_3] [⟨0, .vars [.val [] .bool v2_4, .rw 2, .rw 3, .val [] (.int .i64) v2_5]⟩, ⟨0, .arr [] (.int .u8) v2_6⟩, ⟨0, .arr [] (.prod (.int .i64) (.prod .bool (.prod (.int .i64) (.prod (.int .i64) (.prod (.slice (.int .u8)) .unit))))) v2_7⟩])) (fun y2_0 y2_1 y2_2 y2_3 => N (sh jn51_2 [.ptr 1 0] [⟨0, .vars [.val [] .bool y2_0, .rw 2, .rw 3, .val [] (.int .i64) y2_1]⟩, ⟨0, .arr [] (.int .u8) y2_2⟩, ⟨0, .arr [] (.prod (.int .i64) (.prod .bool (.prod (.int .i64) (.prod (.int .i64) (.prod (.slice (.int .u8)) .unit))))) y2_3⟩])) v2_0 v2_1 v2_2 v2_3 v2_4 v2_5 v2_6 v2_7 := by kernel_rfl
theorem i51_2 (N : St → Option R) (X : Nat → St → Option R) (v2_0 : List ((Int × (Int × (Int × (Int × (List Int × Unit))))))) (v2_1 : List ((Int × (Int × (Int × (Int × (List Int × Unit))))))) (v2_2 : Int) (m : Nat) : ∀ (v2_3 : Int) (v2_4 : Bool) (v2_5 : Int) (v2_6 : List Int) (v2_7 : List (Int × (Bool × (Int × (Int × (List Int × Unit)))))),
    iter (atHead an51 0 bd51_2) m (fun st N' => exec T an51 (modesOf F) 0 k 141 (S51 k) (ending T Try.f51 an51 0 K) bd51_2 st N' (outX an51 0 2 N X)) (sh sp51_2 [.val [(0, 0)] (.slice (.prod (.int .i64) (.prod (.int .i64) (.prod (.int .i64) (.prod (.int .i64) (.prod (.slice (.int .u8)) .unit)))))) v2_0, .ptr 1 0, .val [(0, 0)] (.slice (.prod (.int .i64) (.prod (.int .i64) (.prod (.int .i64) (.prod (.int .i64) (.prod (.slice (.int .u8)) .unit)))))) v2_1, .val [] (.int .i64) v2_2, .val [] (.int .i64) v2_3] [⟨0, .vars [.val [] .bool v2_4, .rw 2, .rw 3, .val [] (.int .i64) v2_5]⟩, ⟨0, .arr [] (.int .u8) v2_6⟩, ⟨0, .arr [] (.prod (.int .i64) (.prod .bool (.prod (.int .i64) (.prod (.int .i64) (.prod (.slice (.int .u8)) .unit))))) v2_7⟩]) = f51_2d k (fun y2_0 y2_1 y2_2 y2_3 => N (sh jn51_2 [.ptr 1 0] [⟨0, .vars [.val [] .bool y2_0, .rw 2, .rw 3, .val [] (.int .i64) y2_1]⟩, ⟨0, .arr [] (.int .u8) y2_2⟩, ⟨0, .arr [] (.prod (.int .i64) (.prod .bool (.prod (.int .i64) (.prod (.int .i64) (.prod (.slice (.int .u8)) .unit))))) y2_3⟩])) v2_0 v2_1 v2_2 m v2_3 v2_4 v2_5 v2_6 v2_7 := by
  induction m with
  | zero => intros; rfl
  | succ m ih =>
    intro v2_3 v2_4 v2_5 v2_6 v2_7
    simp only [iter]
    rw [← execS_eq T an51 (modesOf F) 0 k 141 (S51 k) (L51 k K) bd51_2 (cuts_of _ _ _ _ _ _ _ _ bd51_2 (l := [(3, sp51_3, cd51_3)]) (by kernel_rfl) ⟨l51_3 k K, trivial⟩)]
    refine (b51_2 k K _ N X v2_0 v2_1 v2_2 v2_3 v2_4 v2_5 v2_6 v2_7).trans ?_
    simp only [f51_2d, ih]
theorem l51_2 (ws : List PV) (rs : List RowS) (N : St → Option R) (X : Nat → St → Option R) : L51 k K 2 ws rs N X = inner T an51 (modesOf F) 0 k 141 (S51 k) (ending T Try.f51 an51 0 K) cd51_2 (sh sp51_2 ws rs) N X := by
  show L51_2 k K ws rs N X = _
  unfold L51_2
  rw [f51_2_def]
  exact onShape_eq (a := [.val [(0, 0)] (.slice (.prod (.int .i64) (.prod (.int .i64) (.prod (.int .i64) (.prod (.int .i64) (.prod (.slice (.int .u8)) .unit)))))), .ptr 1 0, .val [(0, 0)] (.slice (.prod (.int .i64) (.prod (.int .i64) (.prod (.int .i64) (.prod (.int .i64) (.prod (.slice (.int .u8)) .unit)))))), .val [] (.int .i64), .val [] (.int .i64)]) (b := [.vars [.val [] .bool, .rw 2, .rw 3, .val [] (.int .i64)], .arr [] (.int .u8), .arr [] (.prod (.int .i64) (.prod .bool (.prod (.int .i64) (.prod (.int .i64) (.prod (.slice (.int .u8)) .unit)))))]) (G := fun ws rs => inner T an51 (modesOf F) 0 k 141 (S51 k) (ending T Try.f51 an51 0 K) cd51_2 (sh sp51_2 ws rs) N X) (fun x y => Eq.trans (by kernel_rfl) (Eq.trans (i51_2 k K N X x.1 x.2.2.1 x.2.2.2.1 k x.2.2.2.2.1 y.1.1 y.1.2.2.2.1 y.2.1 y.2.2.1).symm (by kernel_rfl))) ws rs
end
theorem e51 (k : Nat) (a0 : List ((Int × (Int × (Int × (Int × (List Int × Unit))))))) (a1 : Int) (K : List PV → List RowS → Option R) : callC T F k 51 [.val [(0, 0)] (.slice (.prod (.int .i64) (.prod (.int .i64) (.prod (.int .i64) (.prod (.int .i64) (.prod (.slice (.int .u8)) .unit)))))) a0, .val [] (.int .i64) a1] [] K = f51 k a0 a1 (fun z0 z1 z2 => K [.rw 1, .val [] (.int .i64) z0, .val [] (.int .i64) z1] [⟨0, .arr [] (.prod (.int .i64) (.prod .bool (.prod (.int .i64) (.prod (.int .i64) (.prod (.slice (.int .u8)) .unit))))) z2⟩]) := by
  rw [f51_def]
  cases k with
  | zero => rfl
  | succ k =>
    refine Eq.trans (show _ = exec T an51 (modesOf F) 0 k 141 (callC T F k) (ending T Try.f51 an51 0 K) (bodyOf Try.f51) ⟨argEnv 0 [.val [(0, 0)] (.slice (.prod (.int .i64) (.prod (.int .i64) (.prod (.int .i64) (.prod (.int .i64) (.prod (.slice (.int .u8)) .unit)))))) a0, .val [] (.int .i64) a1] (fun _ => none), rowsOf []⟩ (ending T Try.f51 an51 0 K) (fun _ _ => none) from by kernel_rfl) ?_
    rw [← S51_eq k, ← execS_eq T an51 (modesOf F) 0 k 141 (S51 k) (L51 k K) (bodyOf Try.f51) (cuts_of _ _ _ _ _ _ _ _ (bodyOf Try.f51) (l := [(0, sp51_0, cd51_0), (2, sp51_2, cd51_2)]) (by kernel_rfl) ⟨l51_0 k K, l51_2 k K, trivial⟩)]
    kernel_rfl
noncomputable def s51 (k : Nat) (a : List PV) (r : List RowS) (K : List PV → List RowS → Option R) : Option R :=
  onShape [.val [(0, 0)] (.slice (.prod (.int .i64) (.prod (.int .i64) (.prod (.int .i64) (.prod (.int .i64) (.prod (.slice (.int .u8)) .unit)))))), .val [] (.int .i64)] [] (fun v => f51 k v.1.1 v.1.2.1 (fun z0 z1 z2 => K [.rw 1, .val [] (.int .i64) z0, .val [] (.int .i64) z1] [⟨0, .arr [] (.prod (.int .i64) (.prod .bool (.prod (.int .i64) (.prod (.int .i64) (.prod (.slice (.int .u8)) .unit))))) z2⟩])) (callC T F k 51 a r K) a r
theorem s51_eq (k : Nat) (a : List PV) (r : List RowS) (K : List PV → List RowS → Option R) : s51 k a r K = callC T F k 51 a r K := by
  unfold s51
  exact onShape_eq (a := [.val [(0, 0)] (.slice (.prod (.int .i64) (.prod (.int .i64) (.prod (.int .i64) (.prod (.int .i64) (.prod (.slice (.int .u8)) .unit)))))), .val [] (.int .i64)]) (b := []) (G := fun a r => callC T F k 51 a r K) (fun x y => Eq.trans (by kernel_rfl) (Eq.trans (e51 k x.1 x.2.1 K).symm (by kernel_rfl))) a r
end
section
variable {R : Type}
noncomputable def S32 (k g : Nat) (a : List PV) (r : List RowS) (K : List PV → List RowS → Option R) : Option R := callC T F k g a r K
theorem S32_eq (k : Nat) : S32 (R := R) k = callC T F k := by
  funext g a r K
  exact rfl
section
variable {R : Type} (k : Nat) (K : List PV → List RowS → Option R)
noncomputable def L32_0 (ws : List PV) (rs : List RowS) (N : St → Option R) (X : Nat → St → Option R) : Option R :=
  onShape [.val [(0, 0)] (.slice (.int .u8)), .val [(0, 0)] (.slice (.int .u8)), .val [] (.int .i64), .val [] (.int .i64)] [] (fun v => f32_0 k (fun z0 => K [.val [] .bool z0] []) (N (sh jn32_0 [] [])) v.1.1 v.1.2.1 v.1.2.2.1 k v.1.2.2.2.1) (inner T an32 (modesOf F) 0 k 26 (S32 k) (ending T Try.f32 an32 0 K) cd32_0 (sh sp32_0 ws rs) N X) ws rs
noncomputable def L32 (id : Nat) (ws : List PV) (rs : List RowS) (N : St → Option R) (X : Nat → St → Option R) : Option R := bif id == 0 then L32_0 k K ws rs N X else none
theorem b32_0 (rec : St → Option R) (N : St → Option R) (X : Nat → St → Option R) (v0_0 : List Int) (v0_1 : List Int) (v0_2 : Int) (v0_3 : Int) :
    execS T an32 (modesOf F) 0 k 26 (S32 k) (L32 k K) (ending T Try.f32 an32 0 K) bd32_0 (sh sp32_0 [.val [(0, 0)] (.slice (.int .u8)) v0_0, .val [(0, 0)] (.slice (.int .u8)) v0_1, .val [] (.int .i64) v0_2, .val [] (.int .i64) v0_3] []) (fun st => atHead an32 0 bd32_0 st rec) (outX an32 0 0 N X) =
      f32_0b k (fun v0_3 => rec (sh sp32_0 [.val [(0, 0)] (.slice (.int .u8)) v0_0, .val [(0, 0)] (.slice (.int .u8)) v0_1, .val [] (.int .i64) v0_2, .val [] (.int .i64) v0_3] [])) (fun z0 => K [.val [] .bool z0] []) (N (sh jn32_0 [] [])) v0_0 v0_1 v0_2 v0_3 := by kernel_rfl
theorem i32_0 (N : St → Option R) (X : Nat → St → Option R) (v0_0 : List Int) (v0_1 : List Int) (v0_2 : Int) (m : Nat) : ∀ (v0_3 : Int),
    iter (atHead an32 0 bd32_0) m (fun st N' => exec T an32 (modesOf F) 0 k 26 (S32 k) (ending T Try.f32 an32 0 K) bd32_0 st N' (outX an32 0 0 N X)) (sh sp32_0 [.val [(0, 0)] (.slice (.int .u8)) v0_0, .val [(0, 0)] (.slice (.int .u8)) v0_1, .val [] (.int .i64) v0_2, .val [] (.int .i64) v0_3] []) = f32_0d k (fun z0 => K [.val [] .bool z0] []) (N (sh jn32_0 [] [])) v0_0 v0_1 v0_2 m v0_3 := by
  induction m with
  | zero => intros; rfl
  | succ m ih =>
    intro v0_3
    simp only [iter]
    rw [← execS_eq T an32 (modesOf F) 0 k 26 (S32 k) (L32 k K) bd32_0 (cuts_of _ _ _ _ _ _ _ _ bd32_0 (l := []) (by kernel_rfl) trivial)]
    refine (b32_0 k K _ N X v0_0 v0_1 v0_2 v0_3).trans ?_
    simp only [f32_0d, ih]
theorem l32_0 (ws : List PV) (rs : List RowS) (N : St → Option R) (X : Nat → St → Option R) : L32 k K 0 ws rs N X = inner T an32 (modesOf F) 0 k 26 (S32 k) (ending T Try.f32 an32 0 K) cd32_0 (sh sp32_0 ws rs) N X := by
  show L32_0 k K ws rs N X = _
  unfold L32_0
  rw [f32_0_def]
  exact onShape_eq (a := [.val [(0, 0)] (.slice (.int .u8)), .val [(0, 0)] (.slice (.int .u8)), .val [] (.int .i64), .val [] (.int .i64)]) (b := []) (G := fun ws rs => inner T an32 (modesOf F) 0 k 26 (S32 k) (ending T Try.f32 an32 0 K) cd32_0 (sh sp32_0 ws rs) N X) (fun x y => Eq.trans (by kernel_rfl) (Eq.trans (i32_0 k K N X x.1 x.2.1 x.2.2.1 k x.2.2.2.1).symm (by kernel_rfl))) ws rs
end
theorem e32 (k : Nat) (a0 : List Int) (a1 : List Int) (K : List PV → List RowS → Option R) : callC T F k 32 [.val [(0, 0)] (.slice (.int .u8)) a0, .val [(0, 0)] (.slice (.int .u8)) a1] [] K = f32 k a0 a1 (fun z0 => K [.val [] .bool z0] []) := by
  rw [f32_def]
  cases k with
  | zero => rfl
  | succ k =>
    refine Eq.trans (show _ = exec T an32 (modesOf F) 0 k 26 (callC T F k) (ending T Try.f32 an32 0 K) (bodyOf Try.f32) ⟨argEnv 0 [.val [(0, 0)] (.slice (.int .u8)) a0, .val [(0, 0)] (.slice (.int .u8)) a1] (fun _ => none), rowsOf []⟩ (ending T Try.f32 an32 0 K) (fun _ _ => none) from by kernel_rfl) ?_
    rw [← S32_eq k, ← execS_eq T an32 (modesOf F) 0 k 26 (S32 k) (L32 k K) (bodyOf Try.f32) (cuts_of _ _ _ _ _ _ _ _ (bodyOf Try.f32) (l := [(0, sp32_0, cd32_0)]) (by kernel_rfl) ⟨l32_0 k K, trivial⟩)]
    kernel_rfl
noncomputable def s32 (k : Nat) (a : List PV) (r : List RowS) (K : List PV → List RowS → Option R) : Option R :=
  onShape [.val [(0, 0)] (.slice (.int .u8)), .val [(0, 0)] (.slice (.int .u8))] [] (fun v => f32 k v.1.1 v.1.2.1 (fun z0 => K [.val [] .bool z0] [])) (callC T F k 32 a r K) a r
theorem s32_eq (k : Nat) (a : List PV) (r : List RowS) (K : List PV → List RowS → Option R) : s32 k a r K = callC T F k 32 a r K := by
  unfold s32
  exact onShape_eq (a := [.val [(0, 0)] (.slice (.int .u8)), .val [(0, 0)] (.slice (.int .u8))]) (b := []) (G := fun a r => callC T F k 32 a r K) (fun x y => Eq.trans (by kernel_rfl) (Eq.trans (e32 k x.1 x.2.1 K).symm (by kernel_rfl))) a r
end
section
variable {R : Type}
noncomputable def S24 (k g : Nat) (a : List PV) (r : List RowS) (K : List PV → List RowS → Option R) : Option R := bif g == 32 then s32 k a r K else callC T F k g a r K
theorem S24_eq (k : Nat) : S24 (R := R) k = callC T F k := by
  funext g a r K
  exact pick_eq (fun e => by subst e; exact s32_eq k a r K) (rfl)
theorem e24 (k : Nat) (a0 : Int) (a1 : Bool) (a2 : Int) (a3 : Int) (a4 : List Int) (a5 : Int) (a6 : Bool) (a7 : Int) (a8 : Int) (a9 : List Int) (K : List PV → List RowS → Option R) : callC T F k 24 [.agg [.val [] (.int .i64) a0, .val [] .bool a1, .val [] (.int .i64) a2, .val [] (.int .i64) a3, .val [(0, 0)] (.slice (.int .u8)) a4], .agg [.val [] (.int .i64) a5, .val [] .bool a6, .val [] (.int .i64) a7, .val [] (.int .i64) a8, .val [(0, 0)] (.slice (.int .u8)) a9]] [] K = f24 k a0 a1 a2 a3 a4 a5 a6 a7 a8 a9 (fun z0 => K [.val [] .bool z0] []) := by
  rw [f24_def]
  cases k with
  | zero => rfl
  | succ k =>
    refine Eq.trans (show _ = exec T an24 (modesOf F) 0 k 38 (callC T F k) (ending T Try.f24 an24 0 K) (bodyOf Try.f24) ⟨argEnv 0 [.agg [.val [] (.int .i64) a0, .val [] .bool a1, .val [] (.int .i64) a2, .val [] (.int .i64) a3, .val [(0, 0)] (.slice (.int .u8)) a4], .agg [.val [] (.int .i64) a5, .val [] .bool a6, .val [] (.int .i64) a7, .val [] (.int .i64) a8, .val [(0, 0)] (.slice (.int .u8)) a9]] (fun _ => none), rowsOf []⟩ (ending T Try.f24 an24 0 K) (fun _ _ => none) from by kernel_rfl) ?_
    rw [← S24_eq k, ← execS_eq T an24 (modesOf F) 0 k 38 (S24 k) (fun _ _ _ _ _ => none) (bodyOf Try.f24) (cuts_of _ _ _ _ _ _ _ _ (bodyOf Try.f24) (l := []) (by kernel_rfl) trivial)]
    kernel_rfl
noncomputable def s24 (k : Nat) (a : List PV) (r : List RowS) (K : List PV → List RowS → Option R) : Option R :=
  onShape [.agg [.val [] (.int .i64), .val [] .bool, .val [] (.int .i64), .val [] (.int .i64), .val [(0, 0)] (.slice (.int .u8))], .agg [.val [] (.int .i64), .val [] .bool, .val [] (.int .i64), .val [] (.int .i64), .val [(0, 0)] (.slice (.int .u8))]] [] (fun v => f24 k v.1.1.1 v.1.1.2.1 v.1.1.2.2.1 v.1.1.2.2.2.1 v.1.1.2.2.2.2.1 v.1.2.1.1 v.1.2.1.2.1 v.1.2.1.2.2.1 v.1.2.1.2.2.2.1 v.1.2.1.2.2.2.2.1 (fun z0 => K [.val [] .bool z0] [])) (callC T F k 24 a r K) a r
theorem s24_eq (k : Nat) (a : List PV) (r : List RowS) (K : List PV → List RowS → Option R) : s24 k a r K = callC T F k 24 a r K := by
  unfold s24
  exact onShape_eq (a := [.agg [.val [] (.int .i64), .val [] .bool, .val [] (.int .i64), .val [] (.int .i64), .val [(0, 0)] (.slice (.int .u8))], .agg [.val [] (.int .i64), .val [] .bool, .val [] (.int .i64), .val [] (.int .i64), .val [(0, 0)] (.slice (.int .u8))]]) (b := []) (G := fun a r => callC T F k 24 a r K) (fun x y => Eq.trans (by kernel_rfl) (Eq.trans (e24 k x.1.1 x.1.2.1 x.1.2.2.1 x.1.2.2.2.1 x.1.2.2.2.2.1 x.2.1.1 x.2.1.2.1 x.2.1.2.2.1 x.2.1.2.2.2.1 x.2.1.2.2.2.2.1 K).symm (by kernel_rfl))) a r
end
section
variable {R : Type}
noncomputable def S27 (k g : Nat) (a : List PV) (r : List RowS) (K : List PV → List RowS → Option R) : Option R := bif g == 24 then s24 k a r K else callC T F k g a r K
theorem S27_eq (k : Nat) : S27 (R := R) k = callC T F k := by
  funext g a r K
  exact pick_eq (fun e => by subst e; exact s24_eq k a r K) (rfl)
section
variable {R : Type} (k : Nat) (K : List PV → List RowS → Option R)
noncomputable def L27_0 (ws : List PV) (rs : List RowS) (N : St → Option R) (X : Nat → St → Option R) : Option R :=
  onShape [.val [(0, 0)] (.slice (.prod (.int .i64) (.prod .bool (.prod (.int .i64) (.prod (.int .i64) (.prod (.slice (.int .u8)) .unit)))))), .val [(0, 0)] (.slice (.prod (.int .i64) (.prod .bool (.prod (.int .i64) (.prod (.int .i64) (.prod (.slice (.int .u8)) .unit)))))), .val [] (.int .i64), .val [] (.int .i64)] [] (fun v => f27_0 k (fun z0 => K [.val [] .bool z0] []) (N (sh jn27_0 [] [])) v.1.1 v.1.2.1 v.1.2.2.1 k v.1.2.2.2.1) (inner T an27 (modesOf F) 0 k 27 (S27 k) (ending T Try.f27 an27 0 K) cd27_0 (sh sp27_0 ws rs) N X) ws rs
noncomputable def L27 (id : Nat) (ws : List PV) (rs : List RowS) (N : St → Option R) (X : Nat → St → Option R) : Option R := bif id == 0 then L27_0 k K ws rs N X else none
theorem b27_0 (rec : St → Option R) (N : St → Option R) (X : Nat → St → Option R) (v0_0 : List ((Int × (Bool × (Int × (Int × (List Int × Unit))))))) (v0_1 : List ((Int × (Bool × (Int × (Int × (List Int × Unit))))))) (v0_2 : Int) (v0_3 : Int) :
    execS T an27 (modesOf F) 0 k 27 (S27 k) (L27 k K) (ending T Try.f27 an27 0 K) bd27_0 (sh sp27_0 [.val [(0, 0)] (.slice (.prod (.int .i64) (.prod .bool (.prod (.int .i64) (.prod (.int .i64) (.prod (.slice (.int .u8)) .unit)))))) v0_0, .val [(0, 0)] (.slice (.prod (.int .i64) (.prod .bool (.prod (.int .i64) (.prod (.int .i64) (.prod (.slice (.int .u8)) .unit)))))) v0_1, .val [] (.int .i64) v0_2, .val [] (.int .i64) v0_3] []) (fun st => atHead an27 0 bd27_0 st rec) (outX an27 0 0 N X) =
      f27_0b k (fun v0_3 => rec (sh sp27_0 [.val [(0, 0)] (.slice (.prod (.int .i64) (.prod .bool (.prod (.int .i64) (.prod (.int .i64) (.prod (.slice (.int .u8)) .unit)))))) v0_0, .val [(0, 0)] (.slice (.prod (.int .i64) (.prod .bool (.prod (.int .i64) (.prod (.int .i64) (.prod (.slice (.int .u8)) .unit)))))) v0_1, .val [] (.int .i64) v0_2, .val [] (.int .i64) v0_3] [])) (fun z0 => K [.val [] .bool z0] []) (N (sh jn27_0 [] [])) v0_0 v0_1 v0_2 v0_3 := by kernel_rfl
theorem i27_0 (N : St → Option R) (X : Nat → St → Option R) (v0_0 : List ((Int × (Bool × (Int × (Int × (List Int × Unit))))))) (v0_1 : List ((Int × (Bool × (Int × (Int × (List Int × Unit))))))) (v0_2 : Int) (m : Nat) : ∀ (v0_3 : Int),
    iter (atHead an27 0 bd27_0) m (fun st N' => exec T an27 (modesOf F) 0 k 27 (S27 k) (ending T Try.f27 an27 0 K) bd27_0 st N' (outX an27 0 0 N X)) (sh sp27_0 [.val [(0, 0)] (.slice (.prod (.int .i64) (.prod .bool (.prod (.int .i64) (.prod (.int .i64) (.prod (.slice (.int .u8)) .unit)))))) v0_0, .val [(0, 0)] (.slice (.prod (.int .i64) (.prod .bool (.prod (.int .i64) (.prod (.int .i64) (.prod (.slice (.int .u8)) .unit)))))) v0_1, .val [] (.int .i64) v0_2, .val [] (.int .i64) v0_3] []) = f27_0d k (fun z0 => K [.val [] .bool z0] []) (N (sh jn27_0 [] [])) v0_0 v0_1 v0_2 m v0_3 := by
  induction m with
  | zero => intros; rfl
  | succ m ih =>
    intro v0_3
    simp only [iter]
    rw [← execS_eq T an27 (modesOf F) 0 k 27 (S27 k) (L27 k K) bd27_0 (cuts_of _ _ _ _ _ _ _ _ bd27_0 (l := []) (by kernel_rfl) trivial)]
    refine (b27_0 k K _ N X v0_0 v0_1 v0_2 v0_3).trans ?_
    simp only [f27_0d, ih]
theorem l27_0 (ws : List PV) (rs : List RowS) (N : St → Option R) (X : Nat → St → Option R) : L27 k K 0 ws rs N X = inner T an27 (modesOf F) 0 k 27 (S27 k) (ending T Try.f27 an27 0 K) cd27_0 (sh sp27_0 ws rs) N X := by
  show L27_0 k K ws rs N X = _
  unfold L27_0
  rw [f27_0_def]
  exact onShape_eq (a := [.val [(0, 0)] (.slice (.prod (.int .i64) (.prod .bool (.prod (.int .i64) (.prod (.int .i64) (.prod (.slice (.int .u8)) .unit)))))), .val [(0, 0)] (.slice (.prod (.int .i64) (.prod .bool (.prod (.int .i64) (.prod (.int .i64) (.prod (.slice (.int .u8)) .unit)))))), .val [] (.int .i64), .val [] (.int .i64)]) (b := []) (G := fun ws rs => inner T an27 (modesOf F) 0 k 27 (S27 k) (ending T Try.f27 an27 0 K) cd27_0 (sh sp27_0 ws rs) N X) (fun x y => Eq.trans (by kernel_rfl) (Eq.trans (i27_0 k K N X x.1 x.2.1 x.2.2.1 k x.2.2.2.1).symm (by kernel_rfl))) ws rs
end
theorem e27 (k : Nat) (a0 : List ((Int × (Bool × (Int × (Int × (List Int × Unit))))))) (a1 : List ((Int × (Bool × (Int × (Int × (List Int × Unit))))))) (K : List PV → List RowS → Option R) : callC T F k 27 [.val [(0, 0)] (.slice (.prod (.int .i64) (.prod .bool (.prod (.int .i64) (.prod (.int .i64) (.prod (.slice (.int .u8)) .unit)))))) a0, .val [(0, 0)] (.slice (.prod (.int .i64) (.prod .bool (.prod (.int .i64) (.prod (.int .i64) (.prod (.slice (.int .u8)) .unit)))))) a1] [] K = f27 k a0 a1 (fun z0 => K [.val [] .bool z0] []) := by
  rw [f27_def]
  cases k with
  | zero => rfl
  | succ k =>
    refine Eq.trans (show _ = exec T an27 (modesOf F) 0 k 27 (callC T F k) (ending T Try.f27 an27 0 K) (bodyOf Try.f27) ⟨argEnv 0 [.val [(0, 0)] (.slice (.prod (.int .i64) (.prod .bool (.prod (.int .i64) (.prod (.int .i64) (.prod (.slice (.int .u8)) .unit)))))) a0, .val [(0, 0)] (.slice (.prod (.int .i64) (.prod .bool (.prod (.int .i64) (.prod (.int .i64) (.prod (.slice (.int .u8)) .unit)))))) a1] (fun _ => none), rowsOf []⟩ (ending T Try.f27 an27 0 K) (fun _ _ => none) from by kernel_rfl) ?_
    rw [← S27_eq k, ← execS_eq T an27 (modesOf F) 0 k 27 (S27 k) (L27 k K) (bodyOf Try.f27) (cuts_of _ _ _ _ _ _ _ _ (bodyOf Try.f27) (l := [(0, sp27_0, cd27_0)]) (by kernel_rfl) ⟨l27_0 k K, trivial⟩)]
    kernel_rfl
noncomputable def s27 (k : Nat) (a : List PV) (r : List RowS) (K : List PV → List RowS → Option R) : Option R :=
  onShape [.val [(0, 0)] (.slice (.prod (.int .i64) (.prod .bool (.prod (.int .i64) (.prod (.int .i64) (.prod (.slice (.int .u8)) .unit)))))), .val [(0, 0)] (.slice (.prod (.int .i64) (.prod .bool (.prod (.int .i64) (.prod (.int .i64) (.prod (.slice (.int .u8)) .unit))))))] [] (fun v => f27 k v.1.1 v.1.2.1 (fun z0 => K [.val [] .bool z0] [])) (callC T F k 27 a r K) a r
theorem s27_eq (k : Nat) (a : List PV) (r : List RowS) (K : List PV → List RowS → Option R) : s27 k a r K = callC T F k 27 a r K := by
  unfold s27
  exact onShape_eq (a := [.val [(0, 0)] (.slice (.prod (.int .i64) (.prod .bool (.prod (.int .i64) (.prod (.int .i64) (.prod (.slice (.int .u8)) .unit)))))), .val [(0, 0)] (.slice (.prod (.int .i64) (.prod .bool (.prod (.int .i64) (.prod (.int .i64) (.prod (.slice (.int .u8)) .unit))))))]) (b := []) (G := fun a r => callC T F k 27 a r K) (fun x y => Eq.trans (by kernel_rfl) (Eq.trans (e27 k x.1 x.2.1 K).symm (by kernel_rfl))) a r
end
end Go.Proofs.Ytahdmfboidjkoaa.PM
