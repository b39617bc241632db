/- The small machine's run is the typed form (printed by a program of this work). -/
import Derived.Test.YtahdmfboidjkoaaPA0
set_option linter.unusedVariables false
set_option linter.unusedSimpArgs false
set_option maxRecDepth 100000
namespace Go.Proofs.Ytahdmfboidjkoaa.PM
open Go
noncomputable def F : Nat → Option PFn := findN [(19, .code Try.f19 an19), (20, .code Try.f20 an20), (21, .code Try.f21 an21), (3, .code Try.f3 an3), (65, .code Try.f65 an65), (66, .code Try.f66 an66), (67, .code Try.f67 an67), (41, .ext [.lend (.int .u8)] (cloneSpec (.int .u8) 1)), (22, .code Try.f22 an22), (68, .code Try.f68 an68), (69, .code Try.f69 an69), (23, .code Try.f23 an23), (32, .code Try.f32 an32), (24, .code Try.f24 an24), (4, .code Try.f4 an4), (30, .code Try.f30 an30), (25, .code Try.f25 an25), (31, .code Try.f31 an31), (26, .code Try.f26 an26), (27, .code Try.f27 an27), (5, .code Try.f5 an5), (72, .code Try.f72 an72), (73, .code Try.f73 an73), (70, .code Try.f70 an70), (28, .code Try.f28 an28), (95, .code Try.f95 an95), (78, .code Try.f78 an78), (40, .code Try.f40 an40), (71, .code Try.f71 an71), (29, .code Try.f29 an29), (6, .code Try.f6 an6), (96, .code Try.f96 an96), (75, .code Try.f75 an75), (35, .code Try.f35 an35), (33, .code Try.f33 an33), (76, .code Try.f76 an76), (77, .code Try.f77 an77), (36, .code Try.f36 an36), (74, .code Try.f74 an74), (34, .code Try.f34 an34), (37, .code Try.f37 an37), (38, .code Try.f38 an38), (39, .code Try.f39 an39), (7, .code Try.f7 an7), (42, .code Try.f42 an42), (8, .code Try.f8 an8), (79, .code Try.f79 an79), (97, .code Try.f97 an97), (80, .code Try.f80 an80), (43, .code Try.f43 an43), (105, .code Try.f105 an105), (98, .code Try.f98 an98), (81, .code Try.f81 an81), (82, .code Try.f82 an82), (44, .code Try.f44 an44), (45, .code Try.f45 an45), (9, .code Try.f9 an9), (46, .code Try.f46 an46), (47, .ext [.lend (.int .i64)] (cloneSpec (.int .i64) 8)), (10, .code Try.f10 an10), (83, .code Try.f83 an83), (48, .code Try.f48 an48), (84, .code Try.f84 an84), (49, .code Try.f49 an49), (11, .code Try.f11 an11), (52, .code Try.f52 an52), (53, .code Try.f53 an53), (54, .code Try.f54 an54), (55, .code Try.f55 an55), (13, .code Try.f13 an13)]
section
variable {R : Type}
noncomputable def S19 (k g : Nat) (a : List PV) (r : List RowS) (K : List PV → List RowS → Option R) : Option R := callC T F k g a r K
theorem S19_eq (k : Nat) : S19 (R := R) k = callC T F k := by
  funext g a r K
  exact rfl
section
variable {R : Type} (k : Nat) (K : List PV → List RowS → Option R)
noncomputable def L19_1000010 (ws : List PV) (rs : List RowS) (N : St → Option R) (X : Nat → St → Option R) : Option R := match ws, rs with
  | [.val [] (.int .i64) v10_0, .val [(0, 0)] (.slice (.int .u8)) v10_1, .val [] (.int .i64) v10_2, .val [] (.int .i64) v10_3, .val [] (.int .i64) v10_4, .val [] .bool v10_5], [] => f19_1000010 k (fun yN_0 => N (sh fi19_10 [.val [] (.int .i64) yN_0, .val [(0, 0)] (.slice (.int .u8)) v10_1, .val [] (.int .i64) v10_2, .val [] (.int .i64) v10_3, .val [] (.int .i64) v10_4] [])) v10_0 v10_1 v10_2 v10_3 v10_4 v10_5
  | ws, rs => inner T an19 (modesOf F) 0 k 29 (S19 k) (ending T Try.f19 an19 0 K) cd19_1000010 (sh sp19_1000010 ws rs) N X
noncomputable def L19_2 (ws : List PV) (rs : List RowS) (N : St → Option R) (X : Nat → St → Option R) : Option R := match ws, rs with
  | [.val [] (.int .i64) v2_0, .val [(0, 0)] (.slice (.int .u8)) v2_1, .val [] (.int .i64) v2_2, .val [] (.int .i64) v2_3, .val [] (.int .i64) v2_4], [] => f19_2 k (fun y2_0 => N (sh jn19_2 [.val [] (.int .i64) y2_0, .val [(0, 0)] (.slice (.int .u8)) v2_1, .val [] (.int .i64) v2_2, .val [] (.int .i64) v2_3] [])) v2_1 v2_2 v2_3 k v2_0 v2_4
  | ws, rs => inner T an19 (modesOf F) 0 k 29 (S19 k) (ending T Try.f19 an19 0 K) cd19_2 (sh sp19_2 ws rs) N X
noncomputable def L19_0 (ws : List PV) (rs : List RowS) (N : St → Option R) (X : Nat → St → Option R) : Option R := match ws, rs with
  | [.val [] (.int .i64) v0_0, .val [(0, 0)] (.slice (.int .u8)) v0_1, .val [] (.int .i64) v0_2, .val [] (.int .i64) v0_3], [] => f19_0 k (fun y0_0 => N (sh jn19_0 [.val [] (.int .i64) y0_0] [])) v0_1 v0_2 k v0_0 v0_3
  | ws, rs => inner T an19 (modesOf F) 0 k 29 (S19 k) (ending T Try.f19 an19 0 K) cd19_0 (sh sp19_0 ws rs) N X
noncomputable def L19 (id : Nat) (ws : List PV) (rs : List RowS) (N : St → Option R) (X : Nat → St → Option R) : Option R := bif id == 1000010 then L19_1000010 k K ws rs N X else bif id == 2 then L19_2 k K ws rs N X else bif id == 0 then L19_0 k K ws rs N X else none
theorem b19_1000010 (N : St → Option R) (X : Nat → St → Option R) (v10_0 : Int) (v10_1 : List Int) (v10_2 : Int) (v10_3 : Int) (v10_4 : Int) (v10_5 : Bool) :
    innerS T an19 (modesOf F) 0 k 29 (S19 k) (L19 k K) (ending T Try.f19 an19 0 K) cd19_1000010 (sh sp19_1000010 [.val [] (.int .i64) v10_0, .val [(0, 0)] (.slice (.int .u8)) v10_1, .val [] (.int .i64) v10_2, .val [] (.int .i64) v10_3, .val [] (.int .i64) v10_4, .val [] .bool v10_5] []) N X = f19_1000010d k (fun yN_0 => N (sh fi19_10 [.val [] (.int .i64) yN_0, .val [(0, 0)] (.slice (.int .u8)) v10_1, .val [] (.int .i64) v10_2, .val [] (.int .i64) v10_3, .val [] (.int .i64) v10_4] [])) v10_0 v10_1 v10_2 v10_3 v10_4 v10_5 := by kernel_rfl
theorem l19_1000010 (ws : List PV) (rs : List RowS) (N : St → Option R) (X : Nat → St → Option R) : L19 k K 1000010 ws rs N X = inner T an19 (modesOf F) 0 k 29 (S19 k) (ending T Try.f19 an19 0 K) cd19_1000010 (sh sp19_1000010 ws rs) N X := by
  show L19_1000010 k K ws rs N X = _
  unfold L19_1000010
  split
  rotate_left
  · rfl
  rename_i v10_0 v10_1 v10_2 v10_3 v10_4 v10_5
  rw [f19_1000010_def]
  exact ((innerS_eq T an19 (modesOf F) 0 k 29 (S19 k) (L19 k K) cd19_1000010 (l := []) (by kernel_rfl) trivial _ N X).symm.trans (b19_1000010 k K N X v10_0 v10_1 v10_2 v10_3 v10_4 v10_5)).symm
theorem b19_2 (rec : St → Option R) (N : St → Option R) (X : Nat → St → Option R) (v2_1 : List Int) (v2_2 : Int) (v2_3 : Int) (v2_0 : Int) (v2_4 : Int) :
    execS T an19 (modesOf F) 0 k 29 (S19 k) (L19 k K) (ending T Try.f19 an19 0 K) bd19_2 (sh sp19_2 [.val [] (.int .i64) v2_0, .val [(0, 0)] (.slice (.int .u8)) v2_1, .val [] (.int .i64) v2_2, .val [] (.int .i64) v2_3, .val [] (.int .i64) v2_4] []) (fun st => atHead an19 0 bd19_2 st rec) (outX an19 0 2 N X) =
      f19_2b k (fun v2_0 v2_4 => rec (sh sp19_2 [.val [] (.int .i64) v2_0, .val [(0, 0)] (.slice (.int .u8)) v2_1, .val [] (.int .i64) v2_2, .val [] (.int .i64) v2_3, .val [] (.int .i64) v2_4] [])) (fun y2_0 => N (sh jn19_2 [.val [] (.int .i64) y2_0, .val [(0, 0)] (.slice (.int .u8)) v2_1, .val [] (.int .i64) v2_2, .val [] (.int .i64) v2_3] [])) v2_1 v2_2 v2_3 v2_0 v2_4 := by kernel_rfl
theorem i19_2 (N : St → Option R) (X : Nat → St → Option R) (v2_1 : List Int) (v2_2 : Int) (v2_3 : Int) (m : Nat) : ∀ (v2_0 : Int) (v2_4 : Int),
    iter (atHead an19 0 bd19_2) m (fun st N' => exec T an19 (modesOf F) 0 k 29 (S19 k) (ending T Try.f19 an19 0 K) bd19_2 st N' (outX an19 0 2 N X)) (sh sp19_2 [.val [] (.int .i64) v2_0, .val [(0, 0)] (.slice (.int .u8)) v2_1, .val [] (.int .i64) v2_2, .val [] (.int .i64) v2_3, .val [] (.int .i64) v2_4] []) = f19_2d k (fun y2_0 => N (sh jn19_2 [.val [] (.int .i64) y2_0, .val [(0, 0)] (.slice (.int .u8)) v2_1, .val [] (.int .i64) v2_2, .val [] (.int .i64) v2_3] [])) v2_1 v2_2 v2_3 m v2_0 v2_4 := by
  induction m with
  | zero => intros; rfl
  | succ m ih =>
    intro v2_0 v2_4
    simp only [iter]
    rw [← execS_eq T an19 (modesOf F) 0 k 29 (S19 k) (L19 k K) bd19_2 (cuts_of _ _ _ _ _ _ _ _ bd19_2 (l := [(1000010, sp19_1000010, cd19_1000010)]) (by kernel_rfl) ⟨l19_1000010 k K, trivial⟩)]
    refine (b19_2 k K _ N X v2_1 v2_2 v2_3 v2_0 v2_4).trans ?_
    simp only [f19_2d, ih]
theorem l19_2 (ws : List PV) (rs : List RowS) (N : St → Option R) (X : Nat → St → Option R) : L19 k K 2 ws rs N X = inner T an19 (modesOf F) 0 k 29 (S19 k) (ending T Try.f19 an19 0 K) cd19_2 (sh sp19_2 ws rs) N X := by
  show L19_2 k K ws rs N X = _
  unfold L19_2
  split
  rotate_left
  · rfl
  rename_i v2_0 v2_1 v2_2 v2_3 v2_4
  rw [f19_2_def]
  refine Eq.trans ?_ (show iter (atHead an19 0 bd19_2) k (fun st N' => exec T an19 (modesOf F) 0 k 29 (S19 k) (ending T Try.f19 an19 0 K) bd19_2 st N' (outX an19 0 2 N X)) (sh sp19_2 [.val [] (.int .i64) v2_0, .val [(0, 0)] (.slice (.int .u8)) v2_1, .val [] (.int .i64) v2_2, .val [] (.int .i64) v2_3, .val [] (.int .i64) v2_4] []) = _ from by kernel_rfl)
  exact (i19_2 k K N X v2_1 v2_2 v2_3 k v2_0 v2_4).symm
theorem b19_0 (rec : St → Option R) (N : St → Option R) (X : Nat → St → Option R) (v0_1 : List Int) (v0_2 : Int) (v0_0 : Int) (v0_3 : Int) :
    execS T an19 (modesOf F) 0 k 29 (S19 k) (L19 k K) (ending T Try.f19 an19 0 K) bd19_0 (sh sp19_0 [.val [] (.int .i64) v0_0, .val [(0, 0)] (.slice (.int .u8)) v0_1, .val [] (.int .i64) v0_2, .val [] (.int .i64) v0_3] []) (fun st => atHead an19 0 bd19_0 st rec) (outX an19 0 0 N X) =
      f19_0b k (fun v0_0 v0_3 => rec (sh sp19_0 [.val [] (.int .i64) v0_0, .val [(0, 0)] (.slice (.int .u8)) v0_1, .val [] (.int .i64) v0_2, .val [] (.int .i64) v0_3] [])) (fun y0_0 => N (sh jn19_0 [.val [] (.int .i64) y0_0] [])) v0_1 v0_2 v0_0 v0_3 := by kernel_rfl
theorem i19_0 (N : St → Option R) (X : Nat → St → Option R) (v0_1 : List Int) (v0_2 : Int) (m : Nat) : ∀ (v0_0 : Int) (v0_3 : Int),
    iter (atHead an19 0 bd19_0) m (fun st N' => exec T an19 (modesOf F) 0 k 29 (S19 k) (ending T Try.f19 an19 0 K) bd19_0 st N' (outX an19 0 0 N X)) (sh sp19_0 [.val [] (.int .i64) v0_0, .val [(0, 0)] (.slice (.int .u8)) v0_1, .val [] (.int .i64) v0_2, .val [] (.int .i64) v0_3] []) = f19_0d k (fun y0_0 => N (sh jn19_0 [.val [] (.int .i64) y0_0] [])) v0_1 v0_2 m v0_0 v0_3 := by
  induction m with
  | zero => intros; rfl
  | succ m ih =>
    intro v0_0 v0_3
    simp only [iter]
    rw [← execS_eq T an19 (modesOf F) 0 k 29 (S19 k) (L19 k K) bd19_0 (cuts_of _ _ _ _ _ _ _ _ bd19_0 (l := [(2, sp19_2, cd19_2)]) (by kernel_rfl) ⟨l19_2 k K, trivial⟩)]
    refine (b19_0 k K _ N X v0_1 v0_2 v0_0 v0_3).trans ?_
    simp only [f19_0d, ih]
theorem l19_0 (ws : List PV) (rs : List RowS) (N : St → Option R) (X : Nat → St → Option R) : L19 k K 0 ws rs N X = inner T an19 (modesOf F) 0 k 29 (S19 k) (ending T Try.f19 an19 0 K) cd19_0 (sh sp19_0 ws rs) N X := by
  show L19_0 k K ws rs N X = _
  unfold L19_0
  split
  rotate_left
  · rfl
  rename_i v0_0 v0_1 v0_2 v0_3
  rw [f19_0_def]
  refine Eq.trans ?_ (show iter (atHead an19 0 bd19_0) k (fun st N' => exec T an19 (modesOf F) 0 k 29 (S19 k) (ending T Try.f19 an19 0 K) bd19_0 st N' (outX an19 0 0 N X)) (sh sp19_0 [.val [] (.int .i64) v0_0, .val [(0, 0)] (.slice (.int .u8)) v0_1, .val [] (.int .i64) v0_2, .val [] (.int .i64) v0_3] []) = _ from by kernel_rfl)
  exact (i19_0 k K N X v0_1 v0_2 k v0_0 v0_3).symm
end
theorem q19 (k : Nat) (a0 : List Int) (K : List PV → List RowS → Option R) :
    execS T an19 (modesOf F) 0 k 29 (S19 k) (L19 k K) (ending T Try.f19 an19 0 K) (bodyOf Try.f19) ⟨argEnv 0 [.val [(0, 0)] (.slice (.int .u8)) a0] (fun _ => none), rowsOf []⟩ (ending T Try.f19 an19 0 K) (fun _ _ => none) = f19d (k + 1) a0 (fun z0 => K [.val [] (.int .i64) z0] []) := by kernel_rfl
theorem e19 (k : Nat) (a0 : List Int) (K : List PV → List RowS → Option R) : callC T F k 19 [.val [(0, 0)] (.slice (.int .u8)) a0] [] K = f19 k a0 (fun z0 => K [.val [] (.int .i64) z0] []) := by
  rw [f19_def]
  cases k with
  | zero => rfl
  | succ k =>
    refine Eq.trans (show _ = exec T an19 (modesOf F) 0 k 29 (callC T F k) (ending T Try.f19 an19 0 K) (bodyOf Try.f19) ⟨argEnv 0 [.val [(0, 0)] (.slice (.int .u8)) a0] (fun _ => none), rowsOf []⟩ (ending T Try.f19 an19 0 K) (fun _ _ => none) from by kernel_rfl) ?_
    rw [← S19_eq k, ← execS_eq T an19 (modesOf F) 0 k 29 (S19 k) (L19 k K) (bodyOf Try.f19) (cuts_of _ _ _ _ _ _ _ _ (bodyOf Try.f19) (l := [(0, sp19_0, cd19_0)]) (by kernel_rfl) ⟨l19_0 k K, trivial⟩)]
    exact q19 k a0 K
noncomputable def s19 (k : Nat) (a : List PV) (r : List RowS) (K : List PV → List RowS → Option R) : Option R := match a, r with
  | [.val [(0, 0)] (.slice (.int .u8)) a0], [] => f19 k a0 (fun z0 => K [.val [] (.int .i64) z0] [])
  | a, r => callC T F k 19 a r K
theorem s19_eq (k : Nat) (a : List PV) (r : List RowS) (K : List PV → List RowS → Option R) : s19 k a r K = callC T F k 19 a r K := by
  unfold s19
  split
  · exact (e19 k _ K).symm
  · rfl
end
section
variable {R : Type}
noncomputable def S20 (k g : Nat) (a : List PV) (r : List RowS) (K : List PV → List RowS → Option R) : Option R := callC T F k g a r K
theorem S20_eq (k : Nat) : S20 (R := R) k = callC T F k := by
  funext g a r K
  exact rfl
section
variable {R : Type} (k : Nat) (K : List PV → List RowS → Option R)
noncomputable def L20_1000011 (ws : List PV) (rs : List RowS) (N : St → Option R) (X : Nat → St → Option R) : Option R := match ws, rs with
  | [.val [] (.int .i64) v11_0, .val [(0, 0)] (.slice (.int .u8)) v11_1, .val [] (.int .i64) v11_2, .val [] (.int .i64) v11_3, .val [] (.int .i64) v11_4, .val [] .bool v11_5], [] => f20_1000011 k (fun yN_0 => N (sh fi20_11 [.val [] (.int .i64) yN_0, .val [(0, 0)] (.slice (.int .u8)) v11_1, .val [] (.int .i64) v11_2, .val [] (.int .i64) v11_3, .val [] (.int .i64) v11_4] [])) v11_0 v11_1 v11_2 v11_3 v11_4 v11_5
  | ws, rs => inner T an20 (modesOf F) 0 k 32 (S20 k) (ending T Try.f20 an20 0 K) cd20_1000011 (sh sp20_1000011 ws rs) N X
noncomputable def L20_2 (ws : List PV) (rs : List RowS) (N : St → Option R) (X : Nat → St → Option R) : Option R := match ws, rs with
  | [.val [] (.int .i64) v2_0, .val [(0, 0)] (.slice (.int .u8)) v2_1, .val [] (.int .i64) v2_2, .val [] (.int .i64) v2_3, .val [] (.int .i64) v2_4], [] => f20_2 k (fun y2_0 => N (sh jn20_2 [.val [] (.int .i64) y2_0, .val [(0, 0)] (.slice (.int .u8)) v2_1, .val [] (.int .i64) v2_2, .val [] (.int .i64) v2_3] [])) v2_1 v2_2 v2_3 k v2_0 v2_4
  | ws, rs => inner T an20 (modesOf F) 0 k 32 (S20 k) (ending T Try.f20 an20 0 K) cd20_2 (sh sp20_2 ws rs) N X
noncomputable def L20_0 (ws : List PV) (rs : List RowS) (N : St → Option R) (X : Nat → St → Option R) : Option R := match ws, rs with
  | [.val [] (.int .i64) v0_0, .val [(0, 0)] (.slice (.int .u8)) v0_1, .val [] (.int .i64) v0_2, .val [] (.int .i64) v0_3], [] => f20_0 k (fun y0_0 => N (sh jn20_0 [.val [] (.int .i64) y0_0] [])) v0_1 v0_2 k v0_0 v0_3
  | ws, rs => inner T an20 (modesOf F) 0 k 32 (S20 k) (ending T Try.f20 an20 0 K) cd20_0 (sh sp20_0 ws rs) N X
noncomputable def L20 (id : Nat) (ws : List PV) (rs : List RowS) (N : St → Option R) (X : Nat → St → Option R) : Option R := bif id == 1000011 then L20_1000011 k K ws rs N X else bif id == 2 then L20_2 k K ws rs N X else bif id == 0 then L20_0 k K ws rs N X else none
theorem b20_1000011 (N : St → Option R) (X : Nat → St → Option R) (v11_0 : Int) (v11_1 : List Int) (v11_2 : Int) (v11_3 : Int) (v11_4 : Int) (v11_5 : Bool) :
    innerS T an20 (modesOf F) 0 k 32 (S20 k) (L20 k K) (ending T Try.f20 an20 0 K) cd20_1000011 (sh sp20_1000011 [.val [] (.int .i64) v11_0, .val [(0, 0)] (.slice (.int .u8)) v11_1, .val [] (.int .i64) v11_2, .val [] (.int .i64) v11_3, .val [] (.int .i64) v11_4, .val [] .bool v11_5] []) N X = f20_1000011d k (fun yN_0 => N (sh fi20_11 [.val [] (.int .i64) yN_0, .val [(0, 0)] (.slice (.int .u8)) v11_1, .val [] (.int .i64) v11_2, .val [] (.int .i64) v11_3, .val [] (.int .i64) v11_4] [])) v11_0 v11_1 v11_2 v11_3 v11_4 v11_5 := by kernel_rfl
theorem l20_1000011 (ws : List PV) (rs : List RowS) (N : St → Option R) (X : Nat → St → Option R) : L20 k K 1000011 ws rs N X = inner T an20 (modesOf F) 0 k 32 (S20 k) (ending T Try.f20 an20 0 K) cd20_1000011 (sh sp20_1000011 ws rs) N X := by
  show L20_1000011 k K ws rs N X = _
  unfold L20_1000011
  split
  rotate_left
  · rfl
  rename_i v11_0 v11_1 v11_2 v11_3 v11_4 v11_5
  rw [f20_1000011_def]
  exact ((innerS_eq T an20 (modesOf F) 0 k 32 (S20 k) (L20 k K) cd20_1000011 (l := []) (by kernel_rfl) trivial _ N X).symm.trans (b20_1000011 k K N X v11_0 v11_1 v11_2 v11_3 v11_4 v11_5)).symm
theorem b20_2 (rec : St → Option R) (N : St → Option R) (X : Nat → St → Option R) (v2_1 : List Int) (v2_2 : Int) (v2_3 : Int) (v2_0 : Int) (v2_4 : Int) :
    execS T an20 (modesOf F) 0 k 32 (S20 k) (L20 k K) (ending T Try.f20 an20 0 K) bd20_2 (sh sp20_2 [.val [] (.int .i64) v2_0, .val [(0, 0)] (.slice (.int .u8)) v2_1, .val [] (.int .i64) v2_2, .val [] (.int .i64) v2_3, .val [] (.int .i64) v2_4] []) (fun st => atHead an20 0 bd20_2 st rec) (outX an20 0 2 N X) =
      f20_2b k (fun v2_0 v2_4 => rec (sh sp20_2 [.val [] (.int .i64) v2_0, .val [(0, 0)] (.slice (.int .u8)) v2_1, .val [] (.int .i64) v2_2, .val [] (.int .i64) v2_3, .val [] (.int .i64) v2_4] [])) (fun y2_0 => N (sh jn20_2 [.val [] (.int .i64) y2_0, .val [(0, 0)] (.slice (.int .u8)) v2_1, .val [] (.int .i64) v2_2, .val [] (.int .i64) v2_3] [])) v2_1 v2_2 v2_3 v2_0 v2_4 := by kernel_rfl
theorem i20_2 (N : St → Option R) (X : Nat → St → Option R) (v2_1 : List Int) (v2_2 : Int) (v2_3 : Int) (m : Nat) : ∀ (v2_0 : Int) (v2_4 : Int),
    iter (atHead an20 0 bd20_2) m (fun st N' => exec T an20 (modesOf F) 0 k 32 (S20 k) (ending T Try.f20 an20 0 K) bd20_2 st N' (outX an20 0 2 N X)) (sh sp20_2 [.val [] (.int .i64) v2_0, .val [(0, 0)] (.slice (.int .u8)) v2_1, .val [] (.int .i64) v2_2, .val [] (.int .i64) v2_3, .val [] (.int .i64) v2_4] []) = f20_2d k (fun y2_0 => N (sh jn20_2 [.val [] (.int .i64) y2_0, .val [(0, 0)] (.slice (.int .u8)) v2_1, .val [] (.int .i64) v2_2, .val [] (.int .i64) v2_3] [])) v2_1 v2_2 v2_3 m v2_0 v2_4 := by
  induction m with
  | zero => intros; rfl
  | succ m ih =>
    intro v2_0 v2_4
    simp only [iter]
    rw [← execS_eq T an20 (modesOf F) 0 k 32 (S20 k) (L20 k K) bd20_2 (cuts_of _ _ _ _ _ _ _ _ bd20_2 (l := [(1000011, sp20_1000011, cd20_1000011)]) (by kernel_rfl) ⟨l20_1000011 k K, trivial⟩)]
    refine (b20_2 k K _ N X v2_1 v2_2 v2_3 v2_0 v2_4).trans ?_
    simp only [f20_2d, ih]
theorem l20_2 (ws : List PV) (rs : List RowS) (N : St → Option R) (X : Nat → St → Option R) : L20 k K 2 ws rs N X = inner T an20 (modesOf F) 0 k 32 (S20 k) (ending T Try.f20 an20 0 K) cd20_2 (sh sp20_2 ws rs) N X := by
  show L20_2 k K ws rs N X = _
  unfold L20_2
  split
  rotate_left
  · rfl
  rename_i v2_0 v2_1 v2_2 v2_3 v2_4
  rw [f20_2_def]
  refine Eq.trans ?_ (show iter (atHead an20 0 bd20_2) k (fun st N' => exec T an20 (modesOf F) 0 k 32 (S20 k) (ending T Try.f20 an20 0 K) bd20_2 st N' (outX an20 0 2 N X)) (sh sp20_2 [.val [] (.int .i64) v2_0, .val [(0, 0)] (.slice (.int .u8)) v2_1, .val [] (.int .i64) v2_2, .val [] (.int .i64) v2_3, .val [] (.int .i64) v2_4] []) = _ from by kernel_rfl)
  exact (i20_2 k K N X v2_1 v2_2 v2_3 k v2_0 v2_4).symm
theorem b20_0 (rec : St → Option R) (N : St → Option R) (X : Nat → St → Option R) (v0_1 : List Int) (v0_2 : Int) (v0_0 : Int) (v0_3 : Int) :
    execS T an20 (modesOf F) 0 k 32 (S20 k) (L20 k K) (ending T Try.f20 an20 0 K) bd20_0 (sh sp20_0 [.val [] (.int .i64) v0_0, .val [(0, 0)] (.slice (.int .u8)) v0_1, .val [] (.int .i64) v0_2, .val [] (.int .i64) v0_3] []) (fun st => atHead an20 0 bd20_0 st rec) (outX an20 0 0 N X) =
      f20_0b k (fun v0_0 v0_3 => rec (sh sp20_0 [.val [] (.int .i64) v0_0, .val [(0, 0)] (.slice (.int .u8)) v0_1, .val [] (.int .i64) v0_2, .val [] (.int .i64) v0_3] [])) (fun y0_0 => N (sh jn20_0 [.val [] (.int .i64) y0_0] [])) v0_1 v0_2 v0_0 v0_3 := by kernel_rfl
theorem i20_0 (N : St → Option R) (X : Nat → St → Option R) (v0_1 : List Int) (v0_2 : Int) (m : Nat) : ∀ (v0_0 : Int) (v0_3 : Int),
    iter (atHead an20 0 bd20_0) m (fun st N' => exec T an20 (modesOf F) 0 k 32 (S20 k) (ending T Try.f20 an20 0 K) bd20_0 st N' (outX an20 0 0 N X)) (sh sp20_0 [.val [] (.int .i64) v0_0, .val [(0, 0)] (.slice (.int .u8)) v0_1, .val [] (.int .i64) v0_2, .val [] (.int .i64) v0_3] []) = f20_0d k (fun y0_0 => N (sh jn20_0 [.val [] (.int .i64) y0_0] [])) v0_1 v0_2 m v0_0 v0_3 := by
  induction m with
  | zero => intros; rfl
  | succ m ih =>
    intro v0_0 v0_3
    simp only [iter]
    rw [← execS_eq T an20 (modesOf F) 0 k 32 (S20 k) (L20 k K) bd20_0 (cuts_of _ _ _ _ _ _ _ _ bd20_0 (l := [(2, sp20_2, cd20_2)]) (by kernel_rfl) ⟨l20_2 k K, trivial⟩)]
    refine (b20_0 k K _ N X v0_1 v0_2 v0_0 v0_3).trans ?_
    simp only [f20_0d, ih]
theorem l20_0 (ws : List PV) (rs : List RowS) (N : St → Option R) (X : Nat → St → Option R) : L20 k K 0 ws rs N X = inner T an20 (modesOf F) 0 k 32 (S20 k) (ending T Try.f20 an20 0 K) cd20_0 (sh sp20_0 ws rs) N X := by
  show L20_0 k K ws rs N X = _
  unfold L20_0
  split
  rotate_left
  · rfl
  rename_i v0_0 v0_1 v0_2 v0_3
  rw [f20_0_def]
  refine Eq.trans ?_ (show iter (atHead an20 0 bd20_0) k (fun st N' => exec T an20 (modesOf F) 0 k 32 (S20 k) (ending T Try.f20 an20 0 K) bd20_0 st N' (outX an20 0 0 N X)) (sh sp20_0 [.val [] (.int .i64) v0_0, .val [(0, 0)] (.slice (.int .u8)) v0_1, .val [] (.int .i64) v0_2, .val [] (.int .i64) v0_3] []) = _ from by kernel_rfl)
  exact (i20_0 k K N X v0_1 v0_2 k v0_0 v0_3).symm
end
theorem q20 (k : Nat) (a0 : List Int) (K : List PV → List RowS → Option R) :
    execS T an20 (modesOf F) 0 k 32 (S20 k) (L20 k K) (ending T Try.f20 an20 0 K) (bodyOf Try.f20) ⟨argEnv 0 [.val [(0, 0)] (.slice (.int .u8)) a0] (fun _ => none), rowsOf []⟩ (ending T Try.f20 an20 0 K) (fun _ _ => none) = f20d (k + 1) a0 (fun z0 => K [.val [] (.int .i64) z0] []) := by kernel_rfl
theorem e20 (k : Nat) (a0 : List Int) (K : List PV → List RowS → Option R) : callC T F k 20 [.val [(0, 0)] (.slice (.int .u8)) a0] [] K = f20 k a0 (fun z0 => K [.val [] (.int .i64) z0] []) := by
  rw [f20_def]
  cases k with
  | zero => rfl
  | succ k =>
    refine Eq.trans (show _ = exec T an20 (modesOf F) 0 k 32 (callC T F k) (ending T Try.f20 an20 0 K) (bodyOf Try.f20) ⟨argEnv 0 [.val [(0, 0)] (.slice (.int .u8)) a0] (fun _ => none), rowsOf []⟩ (ending T Try.f20 an20 0 K) (fun _ _ => none) from by kernel_rfl) ?_
    rw [← S20_eq k, ← execS_eq T an20 (modesOf F) 0 k 32 (S20 k) (L20 k K) (bodyOf Try.f20) (cuts_of _ _ _ _ _ _ _ _ (bodyOf Try.f20) (l := [(0, sp20_0, cd20_0)]) (by kernel_rfl) ⟨l20_0 k K, trivial⟩)]
    exact q20 k a0 K
noncomputable def s20 (k : Nat) (a : List PV) (r : List RowS) (K : List PV → List RowS → Option R) : Option R := match a, r with
  | [.val [(0, 0)] (.slice (.int .u8)) a0], [] => f20 k a0 (fun z0 => K [.val [] (.int .i64) z0] [])
  | a, r => callC T F k 20 a r K
theorem s20_eq (k : Nat) (a : List PV) (r : List RowS) (K : List PV → List RowS → Option R) : s20 k a r K = callC T F k 20 a r K := by
  unfold s20
  split
  · exact (e20 k _ K).symm
  · rfl
end
section
variable {R : Type}
noncomputable def S21 (k g : Nat) (a : List PV) (r : List RowS) (K : List PV → List RowS → Option R) : Option R := bif g == 19 then s19 k a r K else callC T F k g a r K
theorem S21_eq (k : Nat) : S21 (R := R) k = callC T F k := by
  funext g a r K
  exact pick_eq (fun e => by subst e; exact s19_eq k a r K) (rfl)
theorem q21 (k : Nat) (K : List PV → List RowS → Option R) :
    execS T an21 (modesOf F) 0 k 5 (S21 k) (fun _ _ _ _ _ => none) (ending T Try.f21 an21 0 K) (bodyOf Try.f21) ⟨argEnv 0 [] (fun _ => none), rowsOf []⟩ (ending T Try.f21 an21 0 K) (fun _ _ => none) = f21d (k + 1) (fun z0 => K [.val [] .bool z0] []) := by kernel_rfl
theorem e21 (k : Nat) (K : List PV → List RowS → Option R) : callC T F k 21 [] [] K = f21 k (fun z0 => K [.val [] .bool z0] []) := by
  rw [f21_def]
  cases k with
  | zero => rfl
  | succ k =>
    refine Eq.trans (show _ = exec T an21 (modesOf F) 0 k 5 (callC T F k) (ending T Try.f21 an21 0 K) (bodyOf Try.f21) ⟨argEnv 0 [] (fun _ => none), rowsOf []⟩ (ending T Try.f21 an21 0 K) (fun _ _ => none) from by kernel_rfl) ?_
    rw [← S21_eq k, ← execS_eq T an21 (modesOf F) 0 k 5 (S21 k) (fun _ _ _ _ _ => none) (bodyOf Try.f21) (cuts_of _ _ _ _ _ _ _ _ (bodyOf Try.f21) (l := []) (by kernel_rfl) trivial)]
    exact q21 k K
noncomputable def s21 (k : Nat) (a : List PV) (r : List RowS) (K : List PV → List RowS → Option R) : Option R := match a, r with
  | [], [] => f21 k (fun z0 => K [.val [] .bool z0] [])
  | a, r => callC T F k 21 a r K
theorem s21_eq (k : Nat) (a : List PV) (r : List RowS) (K : List PV → List RowS → Option R) : s21 k a r K = callC T F k 21 a r K := by
  unfold s21
  split
  · exact (e21 k K).symm
  · rfl
end
section
variable {R : Type}
noncomputable def S3 (k g : Nat) (a : List PV) (r : List RowS) (K : List PV → List RowS → Option R) : Option R := bif g == 19 then s19 k a r K else bif g == 20 then s20 k a r K else bif g == 21 then s21 k a r K else callC T F k g a r K
theorem S3_eq (k : Nat) : S3 (R := R) k = callC T F k := by
  funext g a r K
  exact pick_eq (fun e => by subst e; exact s19_eq k a r K) (pick_eq (fun e => by subst e; exact s20_eq k a r K) (pick_eq (fun e => by subst e; exact s21_eq k a r K) (rfl)))
theorem q3 (k : Nat) (a0 : List Int) (K : List PV → List RowS → Option R) :
    execS T an3 (modesOf F) 0 k 11 (S3 k) (fun _ _ _ _ _ => none) (ending T Try.f3 an3 0 K) (bodyOf Try.f3) ⟨argEnv 0 [.val [(0, 0)] (.slice (.int .u8)) a0] (fun _ => none), rowsOf []⟩ (ending T Try.f3 an3 0 K) (fun _ _ => none) = f3d (k + 1) a0 (fun z0 => K [.val [] .bool z0] []) := by kernel_rfl
theorem e3 (k : Nat) (a0 : List Int) (K : List PV → List RowS → Option R) : callC T F k 3 [.val [(0, 0)] (.slice (.int .u8)) a0] [] K = f3 k a0 (fun z0 => K [.val [] .bool z0] []) := by
  rw [f3_def]
  cases k with
  | zero => rfl
  | succ k =>
    refine Eq.trans (show _ = exec T an3 (modesOf F) 0 k 11 (callC T F k) (ending T Try.f3 an3 0 K) (bodyOf Try.f3) ⟨argEnv 0 [.val [(0, 0)] (.slice (.int .u8)) a0] (fun _ => none), rowsOf []⟩ (ending T Try.f3 an3 0 K) (fun _ _ => none) from by kernel_rfl) ?_
    rw [← S3_eq k, ← execS_eq T an3 (modesOf F) 0 k 11 (S3 k) (fun _ _ _ _ _ => none) (bodyOf Try.f3) (cuts_of _ _ _ _ _ _ _ _ (bodyOf Try.f3) (l := []) (by kernel_rfl) trivial)]
    exact q3 k a0 K
noncomputable def s3 (k : Nat) (a : List PV) (r : List RowS) (K : List PV → List RowS → Option R) : Option R := match a, r with
  | [.val [(0, 0)] (.slice (.int .u8)) a0], [] => f3 k a0 (fun z0 => K [.val [] .bool z0] [])
  | a, r => callC T F k 3 a r K
theorem s3_eq (k : Nat) (a : List PV) (r : List RowS) (K : List PV → List RowS → Option R) : s3 k a r K = callC T F k 3 a r K := by
  unfold s3
  split
  · exact (e3 k _ K).symm
  · rfl
end
section
variable {R : Type}
noncomputable def S65 (k g : Nat) (a : List PV) (r : List RowS) (K : List PV → List RowS → Option R) : Option R := callC T F k g a r K
theorem S65_eq (k : Nat) : S65 (R := R) k = callC T F k := by
  funext g a r K
  exact rfl
theorem q65 (k : Nat) (a0 : List Int) (K : List PV → List RowS → Option R) :
    execS T an65 (modesOf F) 0 k 13 (S65 k) (fun _ _ _ _ _ => none) (ending T Try.f65 an65 0 K) (bodyOf Try.f65) ⟨argEnv 0 [.val [(0, 0)] (.slice (.int .u8)) a0] (fun _ => none), rowsOf []⟩ (ending T Try.f65 an65 0 K) (fun _ _ => none) = f65d (k + 1) a0 (fun z0 => K [.val [] (.int .i64) z0] []) := by kernel_rfl
theorem e65 (k : Nat) (a0 : List Int) (K : List PV → List RowS → Option R) : callC T F k 65 [.val [(0, 0)] (.slice (.int .u8)) a0] [] K = f65 k a0 (fun z0 => K [.val [] (.int .i64) z0] []) := by
  rw [f65_def]
  cases k with
  | zero => rfl
  | succ k =>
    refine Eq.trans (show _ = exec T an65 (modesOf F) 0 k 13 (callC T F k) (ending T Try.f65 an65 0 K) (bodyOf Try.f65) ⟨argEnv 0 [.val [(0, 0)] (.slice (.int .u8)) a0] (fun _ => none), rowsOf []⟩ (ending T Try.f65 an65 0 K) (fun _ _ => none) from by kernel_rfl) ?_
    rw [← S65_eq k, ← execS_eq T an65 (modesOf F) 0 k 13 (S65 k) (fun _ _ _ _ _ => none) (bodyOf Try.f65) (cuts_of _ _ _ _ _ _ _ _ (bodyOf Try.f65) (l := []) (by kernel_rfl) trivial)]
    exact q65 k a0 K
noncomputable def s65 (k : Nat) (a : List PV) (r : List RowS) (K : List PV → List RowS → Option R) : Option R := match a, r with
  | [.val [(0, 0)] (.slice (.int .u8)) a0], [] => f65 k a0 (fun z0 => K [.val [] (.int .i64) z0] [])
  | a, r => callC T F k 65 a r K
theorem s65_eq (k : Nat) (a : List PV) (r : List RowS) (K : List PV → List RowS → Option R) : s65 k a r K = callC T F k 65 a r K := by
  unfold s65
  split
  · exact (e65 k _ K).symm
  · rfl
end
section
variable {R : Type}
noncomputable def S66 (k g : Nat) (a : List PV) (r : List RowS) (K : List PV → List RowS → Option R) : Option R := callC T F k g a r K
theorem S66_eq (k : Nat) : S66 (R := R) k = callC T F k := by
  funext g a r K
  exact rfl
theorem q66 (k : Nat) (a0 : Int) (a1 : Int) (a2 : Int) (K : List PV → List RowS → Option R) :
    execS T an66 (modesOf F) 0 k 15 (S66 k) (fun _ _ _ _ _ => none) (ending T Try.f66 an66 0 K) (bodyOf Try.f66) ⟨argEnv 0 [.val [] (.int .i64) a0, .val [] (.int .i64) a1, .val [] (.int .i64) a2] (fun _ => none), rowsOf []⟩ (ending T Try.f66 an66 0 K) (fun _ _ => none) = f66d (k + 1) a0 a1 a2 (fun z0 => K [.val [] .bool z0] []) := by kernel_rfl
theorem e66 (k : Nat) (a0 : Int) (a1 : Int) (a2 : Int) (K : List PV → List RowS → Option R) : callC T F k 66 [.val [] (.int .i64) a0, .val [] (.int .i64) a1, .val [] (.int .i64) a2] [] K = f66 k a0 a1 a2 (fun z0 => K [.val [] .bool z0] []) := by
  rw [f66_def]
  cases k with
  | zero => rfl
  | succ k =>
    refine Eq.trans (show _ = exec T an66 (modesOf F) 0 k 15 (callC T F k) (ending T Try.f66 an66 0 K) (bodyOf Try.f66) ⟨argEnv 0 [.val [] (.int .i64) a0, .val [] (.int .i64) a1, .val [] (.int .i64) a2] (fun _ => none), rowsOf []⟩ (ending T Try.f66 an66 0 K) (fun _ _ => none) from by kernel_rfl) ?_
    rw [← S66_eq k, ← execS_eq T an66 (modesOf F) 0 k 15 (S66 k) (fun _ _ _ _ _ => none) (bodyOf Try.f66) (cuts_of _ _ _ _ _ _ _ _ (bodyOf Try.f66) (l := []) (by kernel_rfl) trivial)]
    exact q66 k a0 a1 a2 K
noncomputable def s66 (k : Nat) (a : List PV) (r : List RowS) (K : List PV → List RowS → Option R) : Option R := match a, r with
  | [.val [] (.int .i64) a0, .val [] (.int .i64) a1, .val [] (.int .i64) a2], [] => f66 k a0 a1 a2 (fun z0 => K [.val [] .bool z0] [])
  | a, r => callC T F k 66 a r K
theorem s66_eq (k : Nat) (a : List PV) (r : List RowS) (K : List PV → List RowS → Option R) : s66 k a r K = callC T F k 66 a r K := by
  unfold s66
  split
  · exact (e66 k _ _ _ K).symm
  · rfl
end
section
variable {R : Type}
noncomputable def S67 (k g : Nat) (a : List PV) (r : List RowS) (K : List PV → List RowS → Option R) : Option R := bif g == 19 then s19 k a r K else bif g == 65 then s65 k a r K else callC T F k g a r K
theorem S67_eq (k : Nat) : S67 (R := R) k = callC T F k := by
  funext g a r K
  exact pick_eq (fun e => by subst e; exact s19_eq k a r K) (pick_eq (fun e => by subst e; exact s65_eq k a r K) (rfl))
theorem q67 (k : Nat) (a0 : List Int) (K : List PV → List RowS → Option R) :
    execS T an67 (modesOf F) 0 k 16 (S67 k) (fun _ _ _ _ _ => none) (ending T Try.f67 an67 0 K) (bodyOf Try.f67) ⟨argEnv 0 [.val [(0, 0)] (.slice (.int .u8)) a0] (fun _ => none), rowsOf []⟩ (ending T Try.f67 an67 0 K) (fun _ _ => none) = f67d (k + 1) a0 (fun z0 => K [.val [] .bool z0] []) := by kernel_rfl
theorem e67 (k : Nat) (a0 : List Int) (K : List PV → List RowS → Option R) : callC T F k 67 [.val [(0, 0)] (.slice (.int .u8)) a0] [] K = f67 k a0 (fun z0 => K [.val [] .bool z0] []) := by
  rw [f67_def]
  cases k with
  | zero => rfl
  | succ k =>
    refine Eq.trans (show _ = exec T an67 (modesOf F) 0 k 16 (callC T F k) (ending T Try.f67 an67 0 K) (bodyOf Try.f67) ⟨argEnv 0 [.val [(0, 0)] (.slice (.int .u8)) a0] (fun _ => none), rowsOf []⟩ (ending T Try.f67 an67 0 K) (fun _ _ => none) from by kernel_rfl) ?_
    rw [← S67_eq k, ← execS_eq T an67 (modesOf F) 0 k 16 (S67 k) (fun _ _ _ _ _ => none) (bodyOf Try.f67) (cuts_of _ _ _ _ _ _ _ _ (bodyOf Try.f67) (l := []) (by kernel_rfl) trivial)]
    exact q67 k a0 K
noncomputable def s67 (k : Nat) (a : List PV) (r : List RowS) (K : List PV → List RowS → Option R) : Option R := match a, r with
  | [.val [(0, 0)] (.slice (.int .u8)) a0], [] => f67 k a0 (fun z0 => K [.val [] .bool z0] [])
  | a, r => callC T F k 67 a r K
theorem s67_eq (k : Nat) (a : List PV) (r : List RowS) (K : List PV → List RowS → Option R) : s67 k a r K = callC T F k 67 a r K := by
  unfold s67
  split
  · exact (e67 k _ K).symm
  · rfl
end
section
variable {R : Type}
theorem e41 (k : Nat) (a0 : List Int) (K : List PV → List RowS → Option R) : callC T F k 41 [.val [(0, 0)] (.slice (.int .u8)) a0] [] K = f41 k a0 (fun z0 => K [.rw 1] [⟨0, .arr [] (.int .u8) z0⟩]) := by
  rw [f41_def]
  cases k with
  | zero => rfl
  | succ k => exact clone_call (m := [.lend (.int .u8)]) (ty := (.int .u8)) (bytes := 1) (by kernel_rfl) a0 K
noncomputable def s41 (k : Nat) (a : List PV) (r : List RowS) (K : List PV → List RowS → Option R) : Option R := match a, r with
  | [.val [(0, 0)] (.slice (.int .u8)) a0], [] => f41 k a0 (fun z0 => K [.rw 1] [⟨0, .arr [] (.int .u8) z0⟩])
  | a, r => callC T F k 41 a r K
theorem s41_eq (k : Nat) (a : List PV) (r : List RowS) (K : List PV → List RowS → Option R) : s41 k a r K = callC T F k 41 a r K := by
  unfold s41
  split
  · exact (e41 k _ K).symm
  · rfl
end
section
variable {R : Type}
noncomputable def S22 (k g : Nat) (a : List PV) (r : List RowS) (K : List PV → List RowS → Option R) : Option R := bif g == 41 then s41 k a r K else bif g == 65 then s65 k a r K else bif g == 66 then s66 k a r K else bif g == 67 then s67 k a r K else callC T F k g a r K
theorem S22_eq (k : Nat) : S22 (R := R) k = callC T F k := by
  funext g a r K
  exact pick_eq (fun e => by subst e; exact s41_eq k a r K) (pick_eq (fun e => by subst e; exact s65_eq k a r K) (pick_eq (fun e => by subst e; exact s66_eq k a r K) (pick_eq (fun e => by subst e; exact s67_eq k a r K) (rfl))))
theorem q22 (k : Nat) (a0 : List Int) (K : List PV → List RowS → Option R) :
    execS T an22 (modesOf F) 0 k 61 (S22 k) (fun _ _ _ _ _ => none) (ending T Try.f22 an22 0 K) (bodyOf Try.f22) ⟨argEnv 0 [.val [(0, 0)] (.slice (.int .u8)) a0] (fun _ => none), rowsOf []⟩ (ending T Try.f22 an22 0 K) (fun _ _ => none) = f22d (k + 1) a0 (fun z0 z1 z2 z3 z4 z5 z6 => K [.agg [.val [] (.int .i64) z0, .val [] .bool z1, .val [] (.int .i64) z2, .val [] (.int .i64) z3, .rw 1], .val [] (.int .i64) z4, .val [] (.int .i64) z5] [⟨0, .arr [] (.int .u8) z6⟩]) := by kernel_rfl
theorem e22 (k : Nat) (a0 : List Int) (K : List PV → List RowS → Option R) : callC T F k 22 [.val [(0, 0)] (.slice (.int .u8)) a0] [] K = f22 k a0 (fun z0 z1 z2 z3 z4 z5 z6 => K [.agg [.val [] (.int .i64) z0, .val [] .bool z1, .val [] (.int .i64) z2, .val [] (.int .i64) z3, .rw 1], .val [] (.int .i64) z4, .val [] (.int .i64) z5] [⟨0, .arr [] (.int .u8) z6⟩]) := by
  rw [f22_def]
  cases k with
  | zero => rfl
  | succ k =>
    refine Eq.trans (show _ = exec T an22 (modesOf F) 0 k 61 (callC T F k) (ending T Try.f22 an22 0 K) (bodyOf Try.f22) ⟨argEnv 0 [.val [(0, 0)] (.slice (.int .u8)) a0] (fun _ => none), rowsOf []⟩ (ending T Try.f22 an22 0 K) (fun _ _ => none) from by kernel_rfl) ?_
    rw [← S22_eq k, ← execS_eq T an22 (modesOf F) 0 k 61 (S22 k) (fun _ _ _ _ _ => none) (bodyOf Try.f22) (cuts_of _ _ _ _ _ _ _ _ (bodyOf Try.f22) (l := []) (by kernel_rfl) trivial)]
    exact q22 k a0 K
noncomputable def s22 (k : Nat) (a : List PV) (r : List RowS) (K : List PV → List RowS → Option R) : Option R := match a, r with
  | [.val [(0, 0)] (.slice (.int .u8)) a0], [] => f22 k a0 (fun z0 z1 z2 z3 z4 z5 z6 => K [.agg [.val [] (.int .i64) z0, .val [] .bool z1, .val [] (.int .i64) z2, .val [] (.int .i64) z3, .rw 1], .val [] (.int .i64) z4, .val [] (.int .i64) z5] [⟨0, .arr [] (.int .u8) z6⟩])
  | a, r => callC T F k 22 a r K
theorem s22_eq (k : Nat) (a : List PV) (r : List RowS) (K : List PV → List RowS → Option R) : s22 k a r K = callC T F k 22 a r K := by
  unfold s22
  split
  · exact (e22 k _ K).symm
  · rfl
end
section
variable {R : Type}
noncomputable def S68 (k g : Nat) (a : List PV) (r : List RowS) (K : List PV → List RowS → Option R) : Option R := callC T F k g a r K
theorem S68_eq (k : Nat) : S68 (R := R) k = callC T F k := by
  funext g a r K
  exact rfl
theorem q68 (k : Nat) (a0 : List Int) (K : List PV → List RowS → Option R) :
    execS T an68 (modesOf F) 0 k 13 (S68 k) (fun _ _ _ _ _ => none) (ending T Try.f68 an68 0 K) (bodyOf Try.f68) ⟨argEnv 0 [.val [(0, 0)] (.slice (.int .u8)) a0] (fun _ => none), rowsOf []⟩ (ending T Try.f68 an68 0 K) (fun _ _ => none) = f68d (k + 1) a0 (fun z0 => K [.val [] (.int .i64) z0] []) := by kernel_rfl
theorem e68 (k : Nat) (a0 : List Int) (K : List PV → List RowS → Option R) : callC T F k 68 [.val [(0, 0)] (.slice (.int .u8)) a0] [] K = f68 k a0 (fun z0 => K [.val [] (.int .i64) z0] []) := by
  rw [f68_def]
  cases k with
  | zero => rfl
  | succ k =>
    refine Eq.trans (show _ = exec T an68 (modesOf F) 0 k 13 (callC T F k) (ending T Try.f68 an68 0 K) (bodyOf Try.f68) ⟨argEnv 0 [.val [(0, 0)] (.slice (.int .u8)) a0] (fun _ => none), rowsOf []⟩ (ending T Try.f68 an68 0 K) (fun _ _ => none) from by kernel_rfl) ?_
    rw [← S68_eq k, ← execS_eq T an68 (modesOf F) 0 k 13 (S68 k) (fun _ _ _ _ _ => none) (bodyOf Try.f68) (cuts_of _ _ _ _ _ _ _ _ (bodyOf Try.f68) (l := []) (by kernel_rfl) trivial)]
    exact q68 k a0 K
noncomputable def s68 (k : Nat) (a : List PV) (r : List RowS) (K : List PV → List RowS → Option R) : Option R := match a, r with
  | [.val [(0, 0)] (.slice (.int .u8)) a0], [] => f68 k a0 (fun z0 => K [.val [] (.int .i64) z0] [])
  | a, r => callC T F k 68 a r K
theorem s68_eq (k : Nat) (a : List PV) (r : List RowS) (K : List PV → List RowS → Option R) : s68 k a r K = callC T F k 68 a r K := by
  unfold s68
  split
  · exact (e68 k _ K).symm
  · rfl
end
section
variable {R : Type}
noncomputable def S69 (k g : Nat) (a : List PV) (r : List RowS) (K : List PV → List RowS → Option R) : Option R := callC T F k g a r K
theorem S69_eq (k : Nat) : S69 (R := R) k = callC T F k := by
  funext g a r K
  exact rfl
theorem q69 (k : Nat) (a0 : Int) (a1 : Int) (a2 : Int) (K : List PV → List RowS → Option R) :
    execS T an69 (modesOf F) 0 k 15 (S69 k) (fun _ _ _ _ _ => none) (ending T Try.f69 an69 0 K) (bodyOf Try.f69) ⟨argEnv 0 [.val [] (.int .i64) a0, .val [] (.int .i64) a1, .val [] (.int .i64) a2] (fun _ => none), rowsOf []⟩ (ending T Try.f69 an69 0 K) (fun _ _ => none) = f69d (k + 1) a0 a1 a2 (fun z0 => K [.val [] .bool z0] []) := by kernel_rfl
theorem e69 (k : Nat) (a0 : Int) (a1 : Int) (a2 : Int) (K : List PV → List RowS → Option R) : callC T F k 69 [.val [] (.int .i64) a0, .val [] (.int .i64) a1, .val [] (.int .i64) a2] [] K = f69 k a0 a1 a2 (fun z0 => K [.val [] .bool z0] []) := by
  rw [f69_def]
  cases k with
  | zero => rfl
  | succ k =>
    refine Eq.trans (show _ = exec T an69 (modesOf F) 0 k 15 (callC T F k) (ending T Try.f69 an69 0 K) (bodyOf Try.f69) ⟨argEnv 0 [.val [] (.int .i64) a0, .val [] (.int .i64) a1, .val [] (.int .i64) a2] (fun _ => none), rowsOf []⟩ (ending T Try.f69 an69 0 K) (fun _ _ => none) from by kernel_rfl) ?_
    rw [← S69_eq k, ← execS_eq T an69 (modesOf F) 0 k 15 (S69 k) (fun _ _ _ _ _ => none) (bodyOf Try.f69) (cuts_of _ _ _ _ _ _ _ _ (bodyOf Try.f69) (l := []) (by kernel_rfl) trivial)]
    exact q69 k a0 a1 a2 K
noncomputable def s69 (k : Nat) (a : List PV) (r : List RowS) (K : List PV → List RowS → Option R) : Option R := match a, r with
  | [.val [] (.int .i64) a0, .val [] (.int .i64) a1, .val [] (.int .i64) a2], [] => f69 k a0 a1 a2 (fun z0 => K [.val [] .bool z0] [])
  | a, r => callC T F k 69 a r K
theorem s69_eq (k : Nat) (a : List PV) (r : List RowS) (K : List PV → List RowS → Option R) : s69 k a r K = callC T F k 69 a r K := by
  unfold s69
  split
  · exact (e69 k _ _ _ K).symm
  · rfl
end
section
variable {R : Type}
noncomputable def S23 (k g : Nat) (a : List PV) (r : List RowS) (K : List PV → List RowS → Option R) : Option R := bif g == 20 then s20 k a r K else bif g == 41 then s41 k a r K else bif g == 68 then s68 k a r K else bif g == 69 then s69 k a r K else callC T F k g a r K
theorem S23_eq (k : Nat) : S23 (R := R) k = callC T F k := by
  funext g a r K
  exact pick_eq (fun e => by subst e; exact s20_eq k a r K) (pick_eq (fun e => by subst e; exact s41_eq k a r K) (pick_eq (fun e => by subst e; exact s68_eq k a r K) (pick_eq (fun e => by subst e; exact s69_eq k a r K) (rfl))))
theorem q23 (k : Nat) (a0 : List Int) (K : List PV → List RowS → Option R) :
    execS T an23 (modesOf F) 0 k 67 (S23 k) (fun _ _ _ _ _ => none) (ending T Try.f23 an23 0 K) (bodyOf Try.f23) ⟨argEnv 0 [.val [(0, 0)] (.slice (.int .u8)) a0] (fun _ => none), rowsOf []⟩ (ending T Try.f23 an23 0 K) (fun _ _ => none) = f23d (k + 1) a0 (fun z0 z1 z2 z3 z4 z5 z6 => K [.agg [.val [] (.int .i64) z0, .val [] .bool z1, .val [] (.int .i64) z2, .val [] (.int .i64) z3, .rw 1], .val [] (.int .i64) z4, .val [] (.int .i64) z5] [⟨0, .arr [] (.int .u8) z6⟩]) := by kernel_rfl
theorem e23 (k : Nat) (a0 : List Int) (K : List PV → List RowS → Option R) : callC T F k 23 [.val [(0, 0)] (.slice (.int .u8)) a0] [] K = f23 k a0 (fun z0 z1 z2 z3 z4 z5 z6 => K [.agg [.val [] (.int .i64) z0, .val [] .bool z1, .val [] (.int .i64) z2, .val [] (.int .i64) z3, .rw 1], .val [] (.int .i64) z4, .val [] (.int .i64) z5] [⟨0, .arr [] (.int .u8) z6⟩]) := by
  rw [f23_def]
  cases k with
  | zero => rfl
  | succ k =>
    refine Eq.trans (show _ = exec T an23 (modesOf F) 0 k 67 (callC T F k) (ending T Try.f23 an23 0 K) (bodyOf Try.f23) ⟨argEnv 0 [.val [(0, 0)] (.slice (.int .u8)) a0] (fun _ => none), rowsOf []⟩ (ending T Try.f23 an23 0 K) (fun _ _ => none) from by kernel_rfl) ?_
    rw [← S23_eq k, ← execS_eq T an23 (modesOf F) 0 k 67 (S23 k) (fun _ _ _ _ _ => none) (bodyOf Try.f23) (cuts_of _ _ _ _ _ _ _ _ (bodyOf Try.f23) (l := []) (by kernel_rfl) trivial)]
    exact q23 k a0 K
noncomputable def s23 (k : Nat) (a : List PV) (r : List RowS) (K : List PV → List RowS → Option R) : Option R := match a, r with
  | [.val [(0, 0)] (.slice (.int .u8)) a0], [] => f23 k a0 (fun z0 z1 z2 z3 z4 z5 z6 => K [.agg [.val [] (.int .i64) z0, .val [] .bool z1, .val [] (.int .i64) z2, .val [] (.int .i64) z3, .rw 1], .val [] (.int .i64) z4, .val [] (.int .i64) z5] [⟨0, .arr [] (.int .u8) z6⟩])
  | a, r => callC T F k 23 a r K
theorem s23_eq (k : Nat) (a : List PV) (r : List RowS) (K : List PV → List RowS → Option R) : s23 k a r K = callC T F k 23 a r K := by
  unfold s23
  split
  · exact (e23 k _ K).symm
  · rfl
end
section
variable {R : Type}
noncomputable def S32 (k g : Nat) (a : List PV) (r : List RowS) (K : List PV → List RowS → Option R) : Option R := callC T F k g a r K
theorem S32_eq (k : Nat) : S32 (R := R) k = callC T F k := by
  funext g a r K
  exact rfl
section
variable {R : Type} (k : Nat) (K : List PV → List RowS → Option R)
noncomputable def L32_0 (ws : List PV) (rs : List RowS) (N : St → Option R) (X : Nat → St → Option R) : Option R := match ws, rs with
  | [.val [(0, 0)] (.slice (.int .u8)) v0_0, .val [(0, 0)] (.slice (.int .u8)) v0_1, .val [] (.int .i64) v0_2, .val [] (.int .i64) v0_3], [] => f32_0 k (fun z0 => K [.val [] .bool z0] []) (N (sh jn32_0 [] [])) v0_0 v0_1 v0_2 k v0_3
  | ws, rs => inner T an32 (modesOf F) 0 k 26 (S32 k) (ending T Try.f32 an32 0 K) cd32_0 (sh sp32_0 ws rs) N X
noncomputable def L32 (id : Nat) (ws : List PV) (rs : List RowS) (N : St → Option R) (X : Nat → St → Option R) : Option R := bif id == 0 then L32_0 k K ws rs N X else none
theorem b32_0 (rec : St → Option R) (N : St → Option R) (X : Nat → St → Option R) (v0_0 : List Int) (v0_1 : List Int) (v0_2 : Int) (v0_3 : Int) :
    execS T an32 (modesOf F) 0 k 26 (S32 k) (L32 k K) (ending T Try.f32 an32 0 K) bd32_0 (sh sp32_0 [.val [(0, 0)] (.slice (.int .u8)) v0_0, .val [(0, 0)] (.slice (.int .u8)) v0_1, .val [] (.int .i64) v0_2, .val [] (.int .i64) v0_3] []) (fun st => atHead an32 0 bd32_0 st rec) (outX an32 0 0 N X) =
      f32_0b k (fun v0_3 => rec (sh sp32_0 [.val [(0, 0)] (.slice (.int .u8)) v0_0, .val [(0, 0)] (.slice (.int .u8)) v0_1, .val [] (.int .i64) v0_2, .val [] (.int .i64) v0_3] [])) (fun z0 => K [.val [] .bool z0] []) (N (sh jn32_0 [] [])) v0_0 v0_1 v0_2 v0_3 := by kernel_rfl
theorem i32_0 (N : St → Option R) (X : Nat → St → Option R) (v0_0 : List Int) (v0_1 : List Int) (v0_2 : Int) (m : Nat) : ∀ (v0_3 : Int),
    iter (atHead an32 0 bd32_0) m (fun st N' => exec T an32 (modesOf F) 0 k 26 (S32 k) (ending T Try.f32 an32 0 K) bd32_0 st N' (outX an32 0 0 N X)) (sh sp32_0 [.val [(0, 0)] (.slice (.int .u8)) v0_0, .val [(0, 0)] (.slice (.int .u8)) v0_1, .val [] (.int .i64) v0_2, .val [] (.int .i64) v0_3] []) = f32_0d k (fun z0 => K [.val [] .bool z0] []) (N (sh jn32_0 [] [])) v0_0 v0_1 v0_2 m v0_3 := by
  induction m with
  | zero => intros; rfl
  | succ m ih =>
    intro v0_3
    simp only [iter]
    rw [← execS_eq T an32 (modesOf F) 0 k 26 (S32 k) (L32 k K) bd32_0 (cuts_of _ _ _ _ _ _ _ _ bd32_0 (l := []) (by kernel_rfl) trivial)]
    refine (b32_0 k K _ N X v0_0 v0_1 v0_2 v0_3).trans ?_
    simp only [f32_0d, ih]
theorem l32_0 (ws : List PV) (rs : List RowS) (N : St → Option R) (X : Nat → St → Option R) : L32 k K 0 ws rs N X = inner T an32 (modesOf F) 0 k 26 (S32 k) (ending T Try.f32 an32 0 K) cd32_0 (sh sp32_0 ws rs) N X := by
  show L32_0 k K ws rs N X = _
  unfold L32_0
  split
  rotate_left
  · rfl
  rename_i v0_0 v0_1 v0_2 v0_3
  rw [f32_0_def]
  refine Eq.trans ?_ (show iter (atHead an32 0 bd32_0) k (fun st N' => exec T an32 (modesOf F) 0 k 26 (S32 k) (ending T Try.f32 an32 0 K) bd32_0 st N' (outX an32 0 0 N X)) (sh sp32_0 [.val [(0, 0)] (.slice (.int .u8)) v0_0, .val [(0, 0)] (.slice (.int .u8)) v0_1, .val [] (.int .i64) v0_2, .val [] (.int .i64) v0_3] []) = _ from by kernel_rfl)
  exact (i32_0 k K N X v0_0 v0_1 v0_2 k v0_3).symm
end
theorem q32 (k : Nat) (a0 : List Int) (a1 : List Int) (K : List PV → List RowS → Option R) :
    execS T an32 (modesOf F) 0 k 26 (S32 k) (L32 k K) (ending T Try.f32 an32 0 K) (bodyOf Try.f32) ⟨argEnv 0 [.val [(0, 0)] (.slice (.int .u8)) a0, .val [(0, 0)] (.slice (.int .u8)) a1] (fun _ => none), rowsOf []⟩ (ending T Try.f32 an32 0 K) (fun _ _ => none) = f32d (k + 1) a0 a1 (fun z0 => K [.val [] .bool z0] []) := by kernel_rfl
theorem e32 (k : Nat) (a0 : List Int) (a1 : List Int) (K : List PV → List RowS → Option R) : callC T F k 32 [.val [(0, 0)] (.slice (.int .u8)) a0, .val [(0, 0)] (.slice (.int .u8)) a1] [] K = f32 k a0 a1 (fun z0 => K [.val [] .bool z0] []) := by
  rw [f32_def]
  cases k with
  | zero => rfl
  | succ k =>
    refine Eq.trans (show _ = exec T an32 (modesOf F) 0 k 26 (callC T F k) (ending T Try.f32 an32 0 K) (bodyOf Try.f32) ⟨argEnv 0 [.val [(0, 0)] (.slice (.int .u8)) a0, .val [(0, 0)] (.slice (.int .u8)) a1] (fun _ => none), rowsOf []⟩ (ending T Try.f32 an32 0 K) (fun _ _ => none) from by kernel_rfl) ?_
    rw [← S32_eq k, ← execS_eq T an32 (modesOf F) 0 k 26 (S32 k) (L32 k K) (bodyOf Try.f32) (cuts_of _ _ _ _ _ _ _ _ (bodyOf Try.f32) (l := [(0, sp32_0, cd32_0)]) (by kernel_rfl) ⟨l32_0 k K, trivial⟩)]
    exact q32 k a0 a1 K
noncomputable def s32 (k : Nat) (a : List PV) (r : List RowS) (K : List PV → List RowS → Option R) : Option R := match a, r with
  | [.val [(0, 0)] (.slice (.int .u8)) a0, .val [(0, 0)] (.slice (.int .u8)) a1], [] => f32 k a0 a1 (fun z0 => K [.val [] .bool z0] [])
  | a, r => callC T F k 32 a r K
theorem s32_eq (k : Nat) (a : List PV) (r : List RowS) (K : List PV → List RowS → Option R) : s32 k a r K = callC T F k 32 a r K := by
  unfold s32
  split
  · exact (e32 k _ _ K).symm
  · rfl
end
section
variable {R : Type}
noncomputable def S24 (k g : Nat) (a : List PV) (r : List RowS) (K : List PV → List RowS → Option R) : Option R := bif g == 32 then s32 k a r K else callC T F k g a r K
theorem S24_eq (k : Nat) : S24 (R := R) k = callC T F k := by
  funext g a r K
  exact pick_eq (fun e => by subst e; exact s32_eq k a r K) (rfl)
theorem q24 (k : Nat) (a0 : Int) (a1 : Bool) (a2 : Int) (a3 : Int) (a4 : List Int) (a5 : Int) (a6 : Bool) (a7 : Int) (a8 : Int) (a9 : List Int) (K : List PV → List RowS → Option R) :
    execS T an24 (modesOf F) 0 k 38 (S24 k) (fun _ _ _ _ _ => none) (ending T Try.f24 an24 0 K) (bodyOf Try.f24) ⟨argEnv 0 [.agg [.val [] (.int .i64) a0, .val [] .bool a1, .val [] (.int .i64) a2, .val [] (.int .i64) a3, .val [(0, 0)] (.slice (.int .u8)) a4], .agg [.val [] (.int .i64) a5, .val [] .bool a6, .val [] (.int .i64) a7, .val [] (.int .i64) a8, .val [(0, 0)] (.slice (.int .u8)) a9]] (fun _ => none), rowsOf []⟩ (ending T Try.f24 an24 0 K) (fun _ _ => none) = f24d (k + 1) a0 a1 a2 a3 a4 a5 a6 a7 a8 a9 (fun z0 => K [.val [] .bool z0] []) := by kernel_rfl
theorem e24 (k : Nat) (a0 : Int) (a1 : Bool) (a2 : Int) (a3 : Int) (a4 : List Int) (a5 : Int) (a6 : Bool) (a7 : Int) (a8 : Int) (a9 : List Int) (K : List PV → List RowS → Option R) : callC T F k 24 [.agg [.val [] (.int .i64) a0, .val [] .bool a1, .val [] (.int .i64) a2, .val [] (.int .i64) a3, .val [(0, 0)] (.slice (.int .u8)) a4], .agg [.val [] (.int .i64) a5, .val [] .bool a6, .val [] (.int .i64) a7, .val [] (.int .i64) a8, .val [(0, 0)] (.slice (.int .u8)) a9]] [] K = f24 k a0 a1 a2 a3 a4 a5 a6 a7 a8 a9 (fun z0 => K [.val [] .bool z0] []) := by
  rw [f24_def]
  cases k with
  | zero => rfl
  | succ k =>
    refine Eq.trans (show _ = exec T an24 (modesOf F) 0 k 38 (callC T F k) (ending T Try.f24 an24 0 K) (bodyOf Try.f24) ⟨argEnv 0 [.agg [.val [] (.int .i64) a0, .val [] .bool a1, .val [] (.int .i64) a2, .val [] (.int .i64) a3, .val [(0, 0)] (.slice (.int .u8)) a4], .agg [.val [] (.int .i64) a5, .val [] .bool a6, .val [] (.int .i64) a7, .val [] (.int .i64) a8, .val [(0, 0)] (.slice (.int .u8)) a9]] (fun _ => none), rowsOf []⟩ (ending T Try.f24 an24 0 K) (fun _ _ => none) from by kernel_rfl) ?_
    rw [← S24_eq k, ← execS_eq T an24 (modesOf F) 0 k 38 (S24 k) (fun _ _ _ _ _ => none) (bodyOf Try.f24) (cuts_of _ _ _ _ _ _ _ _ (bodyOf Try.f24) (l := []) (by kernel_rfl) trivial)]
    exact q24 k a0 a1 a2 a3 a4 a5 a6 a7 a8 a9 K
noncomputable def s24 (k : Nat) (a : List PV) (r : List RowS) (K : List PV → List RowS → Option R) : Option R := match a, r with
  | [.agg [.val [] (.int .i64) a0, .val [] .bool a1, .val [] (.int .i64) a2, .val [] (.int .i64) a3, .val [(0, 0)] (.slice (.int .u8)) a4], .agg [.val [] (.int .i64) a5, .val [] .bool a6, .val [] (.int .i64) a7, .val [] (.int .i64) a8, .val [(0, 0)] (.slice (.int .u8)) a9]], [] => f24 k a0 a1 a2 a3 a4 a5 a6 a7 a8 a9 (fun z0 => K [.val [] .bool z0] [])
  | a, r => callC T F k 24 a r K
theorem s24_eq (k : Nat) (a : List PV) (r : List RowS) (K : List PV → List RowS → Option R) : s24 k a r K = callC T F k 24 a r K := by
  unfold s24
  split
  · exact (e24 k _ _ _ _ _ _ _ _ _ _ K).symm
  · rfl
end
section
variable {R : Type}
noncomputable def S4 (k g : Nat) (a : List PV) (r : List RowS) (K : List PV → List RowS → Option R) : Option R := bif g == 21 then s21 k a r K else bif g == 22 then s22 k a r K else bif g == 23 then s23 k a r K else bif g == 24 then s24 k a r K else callC T F k g a r K
theorem S4_eq (k : Nat) : S4 (R := R) k = callC T F k := by
  funext g a r K
  exact pick_eq (fun e => by subst e; exact s21_eq k a r K) (pick_eq (fun e => by subst e; exact s22_eq k a r K) (pick_eq (fun e => by subst e; exact s23_eq k a r K) (pick_eq (fun e => by subst e; exact s24_eq k a r K) (rfl))))
theorem q4 (k : Nat) (a0 : List Int) (K : List PV → List RowS → Option R) :
    execS T an4 (modesOf F) 0 k 37 (S4 k) (fun _ _ _ _ _ => none) (ending T Try.f4 an4 0 K) (bodyOf Try.f4) ⟨argEnv 0 [.val [(0, 0)] (.slice (.int .u8)) a0] (fun _ => none), rowsOf []⟩ (ending T Try.f4 an4 0 K) (fun _ _ => none) = f4d (k + 1) a0 (fun z0 => K [.val [] .bool z0] []) := by kernel_rfl
theorem e4 (k : Nat) (a0 : List Int) (K : List PV → List RowS → Option R) : callC T F k 4 [.val [(0, 0)] (.slice (.int .u8)) a0] [] K = f4 k a0 (fun z0 => K [.val [] .bool z0] []) := by
  rw [f4_def]
  cases k with
  | zero => rfl
  | succ k =>
    refine Eq.trans (show _ = exec T an4 (modesOf F) 0 k 37 (callC T F k) (ending T Try.f4 an4 0 K) (bodyOf Try.f4) ⟨argEnv 0 [.val [(0, 0)] (.slice (.int .u8)) a0] (fun _ => none), rowsOf []⟩ (ending T Try.f4 an4 0 K) (fun _ _ => none) from by kernel_rfl) ?_
    rw [← S4_eq k, ← execS_eq T an4 (modesOf F) 0 k 37 (S4 k) (fun _ _ _ _ _ => none) (bodyOf Try.f4) (cuts_of _ _ _ _ _ _ _ _ (bodyOf Try.f4) (l := []) (by kernel_rfl) trivial)]
    exact q4 k a0 K
noncomputable def s4 (k : Nat) (a : List PV) (r : List RowS) (K : List PV → List RowS → Option R) : Option R := match a, r with
  | [.val [(0, 0)] (.slice (.int .u8)) a0], [] => f4 k a0 (fun z0 => K [.val [] .bool z0] [])
  | a, r => callC T F k 4 a r K
theorem s4_eq (k : Nat) (a : List PV) (r : List RowS) (K : List PV → List RowS → Option R) : s4 k a r K = callC T F k 4 a r K := by
  unfold s4
  split
  · exact (e4 k _ K).symm
  · rfl
end
section
variable {R : Type}
noncomputable def S30 (k g : Nat) (a : List PV) (r : List RowS) (K : List PV → List RowS → Option R) : Option R := bif g == 66 then s66 k a r K else callC T F k g a r K
theorem S30_eq (k : Nat) : S30 (R := R) k = callC T F k := by
  funext g a r K
  exact pick_eq (fun e => by subst e; exact s66_eq k a r K) (rfl)
theorem q30 (k : Nat) (a0 : Int) (a1 : Bool) (a2 : Int) (a3 : Int) (a4 : List Int) (K : List PV → List RowS → Option R) :
    execS T an30 (modesOf F) 0 k 28 (S30 k) (fun _ _ _ _ _ => none) (ending T Try.f30 an30 0 K) (bodyOf Try.f30) ⟨argEnv 0 [.agg [.val [] (.int .i64) a0, .val [] .bool a1, .val [] (.int .i64) a2, .val [] (.int .i64) a3, .val [(0, 0)] (.slice (.int .u8)) a4]] (fun _ => none), rowsOf []⟩ (ending T Try.f30 an30 0 K) (fun _ _ => none) = f30d (k + 1) a0 a1 a2 a3 a4 (fun z0 => K [.val [] (.int .i64) z0] []) := by kernel_rfl
theorem e30 (k : Nat) (a0 : Int) (a1 : Bool) (a2 : Int) (a3 : Int) (a4 : List Int) (K : List PV → List RowS → Option R) : callC T F k 30 [.agg [.val [] (.int .i64) a0, .val [] .bool a1, .val [] (.int .i64) a2, .val [] (.int .i64) a3, .val [(0, 0)] (.slice (.int .u8)) a4]] [] K = f30 k a0 a1 a2 a3 a4 (fun z0 => K [.val [] (.int .i64) z0] []) := by
  rw [f30_def]
  cases k with
  | zero => rfl
  | succ k =>
    refine Eq.trans (show _ = exec T an30 (modesOf F) 0 k 28 (callC T F k) (ending T Try.f30 an30 0 K) (bodyOf Try.f30) ⟨argEnv 0 [.agg [.val [] (.int .i64) a0, .val [] .bool a1, .val [] (.int .i64) a2, .val [] (.int .i64) a3, .val [(0, 0)] (.slice (.int .u8)) a4]] (fun _ => none), rowsOf []⟩ (ending T Try.f30 an30 0 K) (fun _ _ => none) from by kernel_rfl) ?_
    rw [← S30_eq k, ← execS_eq T an30 (modesOf F) 0 k 28 (S30 k) (fun _ _ _ _ _ => none) (bodyOf Try.f30) (cuts_of _ _ _ _ _ _ _ _ (bodyOf Try.f30) (l := []) (by kernel_rfl) trivial)]
    exact q30 k a0 a1 a2 a3 a4 K
noncomputable def s30 (k : Nat) (a : List PV) (r : List RowS) (K : List PV → List RowS → Option R) : Option R := match a, r with
  | [.agg [.val [] (.int .i64) a0, .val [] .bool a1, .val [] (.int .i64) a2, .val [] (.int .i64) a3, .val [(0, 0)] (.slice (.int .u8)) a4]], [] => f30 k a0 a1 a2 a3 a4 (fun z0 => K [.val [] (.int .i64) z0] [])
  | a, r => callC T F k 30 a r K
theorem s30_eq (k : Nat) (a : List PV) (r : List RowS) (K : List PV → List RowS → Option R) : s30 k a r K = callC T F k 30 a r K := by
  unfold s30
  split
  · exact (e30 k _ _ _ _ _ K).symm
  · rfl
end
section
variable {R : Type}
noncomputable def S25 (k g : Nat) (a : List PV) (r : List RowS) (K : List PV → List RowS → Option R) : Option R := bif g == 30 then s30 k a r K else bif g == 41 then s41 k a r K else bif g == 66 then s66 k a r K else callC T F k g a r K
theorem S25_eq (k : Nat) : S25 (R := R) k = callC T F k := by
  funext g a r K
  exact pick_eq (fun e => by subst e; exact s30_eq k a r K) (pick_eq (fun e => by subst e; exact s41_eq k a r K) (pick_eq (fun e => by subst e; exact s66_eq k a r K) (rfl)))
section
variable {R : Type} (k : Nat) (K : List PV → List RowS → Option R)
noncomputable def L25_1000019 (ws : List PV) (rs : List RowS) (N : St → Option R) (X : Nat → St → Option R) : Option R := match ws, rs with
  | [.val [] (.int .i64) v19_0, .val [] .bool v19_1, .val [] (.int .i64) v19_2, .val [(0, 0)] (.slice (.int .u8)) v19_3, .val [] (.int .i64) v19_4, .val [] (.int .i64) v19_5, .rw 1, .val [] (.int .i64) v19_6, .ptr 2 0, .val [] (.int .i64) v19_7, .val [] (.int .i64) v19_8, .val [] .bool v19_9], [⟨0, .arr [] (.prod (.int .i64) (.prod .bool (.prod (.int .i64) (.prod (.int .i64) (.prod (.slice (.int .u8)) .unit))))) v19_10⟩, ⟨0, .vars [.val [] (.int .i64) v19_11, .val [] .bool v19_12, .val [] (.int .i64) v19_13, .val [] (.int .i64) v19_14, .rw 3]⟩, ⟨0, .arr [] (.int .u8) v19_15⟩] => f25_1000019 k (fun yN_12 => N (sh fi25_19 [.val [] (.int .i64) v19_0, .val [] .bool v19_1, .val [] (.int .i64) v19_2, .val [(0, 0)] (.slice (.int .u8)) v19_3, .val [] (.int .i64) v19_4, .val [] (.int .i64) v19_5, .rw 1, .val [] (.int .i64) v19_6, .ptr 2 0, .val [] (.int .i64) v19_7, .val [] (.int .i64) v19_8] [⟨0, .arr [] (.prod (.int .i64) (.prod .bool (.prod (.int .i64) (.prod (.int .i64) (.prod (.slice (.int .u8)) .unit))))) v19_10⟩, ⟨0, .vars [.val [] (.int .i64) v19_11, .val [] .bool v19_12, .val [] (.int .i64) yN_12, .val [] (.int .i64) v19_14, .rw 3]⟩, ⟨0, .arr [] (.int .u8) v19_15⟩])) v19_0 v19_1 v19_2 v19_3 v19_4 v19_5 v19_6 v19_7 v19_8 v19_9 v19_10 v19_11 v19_12 v19_13 v19_14 v19_15
  | ws, rs => inner T an25 (modesOf F) 0 k 90 (S25 k) (ending T Try.f25 an25 0 K) cd25_1000019 (sh sp25_1000019 ws rs) N X
noncomputable def L25_1000021 (ws : List PV) (rs : List RowS) (N : St → Option R) (X : Nat → St → Option R) : Option R := match ws, rs with
  | [.val [] (.int .i64) v21_0, .val [] .bool v21_1, .val [] (.int .i64) v21_2, .val [(0, 0)] (.slice (.int .u8)) v21_3, .val [] (.int .i64) v21_4, .val [] (.int .i64) v21_5, .rw 1, .ptr 2 0, .val [] (.int .i64) v21_6, .val [] (.int .i64) v21_7, .val [] .bool v21_8], [⟨0, .arr [] (.prod (.int .i64) (.prod .bool (.prod (.int .i64) (.prod (.int .i64) (.prod (.slice (.int .u8)) .unit))))) v21_9⟩, ⟨0, .vars [.val [] (.int .i64) v21_10, .val [] .bool v21_11, .val [] (.int .i64) v21_12, .val [] (.int .i64) v21_13, .rw 3]⟩, ⟨0, .arr [] (.int .u8) v21_14⟩] => f25_1000021 k (fun yN_11 => N (sh fi25_21 [.val [] (.int .i64) v21_0, .val [] .bool v21_1, .val [] (.int .i64) v21_2, .val [(0, 0)] (.slice (.int .u8)) v21_3, .val [] (.int .i64) v21_4, .val [] (.int .i64) v21_5, .rw 1, .ptr 2 0, .val [] (.int .i64) v21_6, .val [] (.int .i64) v21_7] [⟨0, .arr [] (.prod (.int .i64) (.prod .bool (.prod (.int .i64) (.prod (.int .i64) (.prod (.slice (.int .u8)) .unit))))) v21_9⟩, ⟨0, .vars [.val [] (.int .i64) v21_10, .val [] .bool v21_11, .val [] (.int .i64) yN_11, .val [] (.int .i64) v21_13, .rw 3]⟩, ⟨0, .arr [] (.int .u8) v21_14⟩])) v21_0 v21_1 v21_2 v21_3 v21_4 v21_5 v21_6 v21_7 v21_8 v21_9 v21_10 v21_11 v21_12 v21_13 v21_14
  | ws, rs => inner T an25 (modesOf F) 0 k 90 (S25 k) (ending T Try.f25 an25 0 K) cd25_1000021 (sh sp25_1000021 ws rs) N X
noncomputable def L25_1 (ws : List PV) (rs : List RowS) (N : St → Option R) (X : Nat → St → Option R) : Option R := match ws, rs with
  | [.val [] (.int .i64) v1_0, .val [] .bool v1_1, .val [] (.int .i64) v1_2, .val [(0, 0)] (.slice (.int .u8)) v1_3, .val [] (.int .i64) v1_4, .val [] (.int .i64) v1_5, .rw 1, .val [] (.int .i64) v1_6, .val [] (.int .i64) v1_7], [⟨0, .arr [] (.prod (.int .i64) (.prod .bool (.prod (.int .i64) (.prod (.int .i64) (.prod (.slice (.int .u8)) .unit))))) v1_8⟩] => f25_1 k (fun y1_0 => N (sh jn25_1 [.rw 1] [⟨0, .arr [] (.prod (.int .i64) (.prod .bool (.prod (.int .i64) (.prod (.int .i64) (.prod (.slice (.int .u8)) .unit))))) y1_0⟩])) v1_0 v1_1 v1_2 v1_3 v1_4 v1_5 v1_6 k v1_7 v1_8
  | ws, rs => inner T an25 (modesOf F) 0 k 90 (S25 k) (ending T Try.f25 an25 0 K) cd25_1 (sh sp25_1 ws rs) N X
noncomputable def L25 (id : Nat) (ws : List PV) (rs : List RowS) (N : St → Option R) (X : Nat → St → Option R) : Option R := bif id == 1000019 then L25_1000019 k K ws rs N X else bif id == 1000021 then L25_1000021 k K ws rs N X else bif id == 1 then L25_1 k K ws rs N X else none
theorem b25_1000019 (N : St → Option R) (X : Nat → St → Option R) (v19_0 : Int) (v19_1 : Bool) (v19_2 : Int) (v19_3 : List Int) (v19_4 : Int) (v19_5 : Int) (v19_6 : Int) (v19_7 : Int) (v19_8 : Int) (v19_9 : Bool) (v19_10 : List (Int × (Bool × (Int × (Int × (List Int × Unit)))))) (v19_11 : Int) (v19_12 : Bool) (v19_13 : Int) (v19_14 : Int) (v19_15 : List Int) :
    innerS T an25 (modesOf F) 0 k 90 (S25 k) (L25 k K) (ending T Try.f25 an25 0 K) cd25_1000019 (sh sp25_1000019 [.val [] (.int .i64) v19_0, .val [] .bool v19_1, .val [] (.int .i64) v19_2, .val [(0, 0)] (.slice (.int .u8)) v19_3, .val [] (.int .i64) v19_4, .val [] (.int .i64) v19_5, .rw 1, .val [] (.int .i64) v19_6, .ptr 2 0, .val [] (.int .i64) v19_7, .val [] (.int .i64) v19_8, .val [] .bool v19_9] [⟨0, .arr [] (.prod (.int .i64) (.prod .bool (.prod (.int .i64) (.prod (.int .i64) (.prod (.slice (.int .u8)) .unit))))) v19_10⟩, ⟨0, .vars [.val [] (.int .i64) v19_11, .val [] .bool v19_12, .val [] (.int .i64) v19_13, .val [] (.int .i64) v19_14, .rw 3]⟩, ⟨0, .arr [] (.int .u8) v19_15⟩]) N X = f25_1000019d k (fun yN_12 => N (sh fi25_19 [.val [] (.int .i64) v19_0, .val [] .bool v19_1, .val [] (.int .i64) v19_2, .val [(0, 0)] (.slice (.int .u8)) v19_3, .val [] (.int .i64) v19_4, .val [] (.int .i64) v19_5, .rw 1, .val [] (.int .i64) v19_6, .ptr 2 0, .val [] (.int .i64) v19_7, .val [] (.int .i64) v19_8] [⟨0, .arr [] (.prod (.int .i64) (.prod .bool (.prod (.int .i64) (.prod (.int .i64) (.prod (.slice (.int .u8)) .unit))))) v19_10⟩, ⟨0, .vars [.val [] (.int .i64) v19_11, .val [] .bool v19_12, .val [] (.int .i64) yN_12, .val [] (.int .i64) v19_14, .rw 3]⟩, ⟨0, .arr [] (.int .u8) v19_15⟩])) v19_0 v19_1 v19_2 v19_3 v19_4 v19_5 v19_6 v19_7 v19_8 v19_9 v19_10 v19_11 v19_12 v19_13 v19_14 v19_15 := by kernel_rfl
theorem l25_1000019 (ws : List PV) (rs : List RowS) (N : St → Option R) (X : Nat → St → Option R) : L25 k K 1000019 ws rs N X = inner T an25 (modesOf F) 0 k 90 (S25 k) (ending T Try.f25 an25 0 K) cd25_1000019 (sh sp25_1000019 ws rs) N X := by
  show L25_1000019 k K ws rs N X = _
  unfold L25_1000019
  split
  rotate_left
  · rfl
  rename_i v19_0 v19_1 v19_2 v19_3 v19_4 v19_5 v19_6 v19_7 v19_8 v19_9 v19_10 v19_11 v19_12 v19_13 v19_14 v19_15
  rw [f25_1000019_def]
  exact ((innerS_eq T an25 (modesOf F) 0 k 90 (S25 k) (L25 k K) cd25_1000019 (l := []) (by kernel_rfl) trivial _ N X).symm.trans (b25_1000019 k K N X v19_0 v19_1 v19_2 v19_3 v19_4 v19_5 v19_6 v19_7 v19_8 v19_9 v19_10 v19_11 v19_12 v19_13 v19_14 v19_15)).symm
theorem b25_1000021 (N : St → Option R) (X : Nat → St → Option R) (v21_0 : Int) (v21_1 : Bool) (v21_2 : Int) (v21_3 : List Int) (v21_4 : Int) (v21_5 : Int) (v21_6 : Int) (v21_7 : Int) (v21_8 : Bool) (v21_9 : List (Int × (Bool × (Int × (Int × (List Int × Unit)))))) (v21_10 : Int) (v21_11 : Bool) (v21_12 : Int) (v21_13 : Int) (v21_14 : List Int) :
    innerS T an25 (modesOf F) 0 k 90 (S25 k) (L25 k K) (ending T Try.f25 an25 0 K) cd25_1000021 (sh sp25_1000021 [.val [] (.int .i64) v21_0, .val [] .bool v21_1, .val [] (.int .i64) v21_2, .val [(0, 0)] (.slice (.int .u8)) v21_3, .val [] (.int .i64) v21_4, .val [] (.int .i64) v21_5, .rw 1, .ptr 2 0, .val [] (.int .i64) v21_6, .val [] (.int .i64) v21_7, .val [] .bool v21_8] [⟨0, .arr [] (.prod (.int .i64) (.prod .bool (.prod (.int .i64) (.prod (.int .i64) (.prod (.slice (.int .u8)) .unit))))) v21_9⟩, ⟨0, .vars [.val [] (.int .i64) v21_10, .val [] .bool v21_11, .val [] (.int .i64) v21_12, .val [] (.int .i64) v21_13, .rw 3]⟩, ⟨0, .arr [] (.int .u8) v21_14⟩]) N X = f25_1000021d k (fun yN_11 => N (sh fi25_21 [.val [] (.int .i64) v21_0, .val [] .bool v21_1, .val [] (.int .i64) v21_2, .val [(0, 0)] (.slice (.int .u8)) v21_3, .val [] (.int .i64) v21_4, .val [] (.int .i64) v21_5, .rw 1, .ptr 2 0, .val [] (.int .i64) v21_6, .val [] (.int .i64) v21_7] [⟨0, .arr [] (.prod (.int .i64) (.prod .bool (.prod (.int .i64) (.prod (.int .i64) (.prod (.slice (.int .u8)) .unit))))) v21_9⟩, ⟨0, .vars [.val [] (.int .i64) v21_10, .val [] .bool v21_11, .val [] (.int .i64) yN_11, .val [] (.int .i64) v21_13, .rw 3]⟩, ⟨0, .arr [] (.int .u8) v21_14⟩])) v21_0 v21_1 v21_2 v21_3 v21_4 v21_5 v21_6 v21_7 v21_8 v21_9 v21_10 v21_11 v21_12 v21_13 v21_14 := by kernel_rfl
theorem l25_1000021 (ws : List PV) (rs : List RowS) (N : St → Option R) (X : Nat → St → Option R) : L25 k K 1000021 ws rs N X = inner T an25 (modesOf F) 0 k 90 (S25 k) (ending T Try.f25 an25 0 K) cd25_1000021 (sh sp25_1000021 ws rs) N X := by
  show L25_1000021 k K ws rs N X = _
  unfold L25_1000021
  split
  rotate_left
  · rfl
  rename_i v21_0 v21_1 v21_2 v21_3 v21_4 v21_5 v21_6 v21_7 v21_8 v21_9 v21_10 v21_11 v21_12 v21_13 v21_14
  rw [f25_1000021_def]
  exact ((innerS_eq T an25 (modesOf F) 0 k 90 (S25 k) (L25 k K) cd25_1000021 (l := []) (by kernel_rfl) trivial _ N X).symm.trans (b25_1000021 k K N X v21_0 v21_1 v21_2 v21_3 v21_4 v21_5 v21_6 v21_7 v21_8 v21_9 v21_10 v21_11 v21_12 v21_13 v21_14)).symm
theorem b25_1 (rec : St → Option R) (N : St → Option R) (X : Nat → St → Option R) (v1_0 : Int) (v1_1 : Bool) (v1_2 : Int) (v1_3 : List Int) (v1_4 : Int) (v1_5 : Int) (v1_6 : Int) (v1_7 : Int) (v1_8 : List (Int × (Bool × (Int × (Int × (List Int × Unit)))))) :
    execS T an25 (modesOf F) 0 k 90 (S25 k) (L25 k K) (ending T Try.f25 an25 0 K) bd25_1 (sh sp25_1 [.val [] (.int .i64) v1_0, .val [] .bool v1_1, .val [] (.int .i64) v1_2, .val [(0, 0)] (.slice (.int .u8)) v1_3, .val [] (.int .i64) v1_4, .val [] (.int .i64) v1_5, .rw 1, .val [] (.int .i64) v1_6, .val [] (.int .i64) v1_7] [⟨0, .arr [] (.prod (.int .i64) (.prod .bool (.prod (.int .i64) (.prod (.int .i64) (.prod (.slice (.int .u8)) .unit))))) v1_8⟩]) (fun st => atHead an25 0 bd25_1 st rec) (outX an25 0 1 N X) =
      f25_1b k (fun v1_7 v1_8 => rec (sh sp25_1 [.val [] (.int .i64) v1_0, .val [] .bool v1_1, .val [] (.int .i64) v1_2, .val [(0, 0)] (.slice (.int .u8)) v1_3, .val [] (.int .i64) v1_4, .val [] (.int .i64) v1_5, .rw 1, .val [] (.int .i64) v1_6, .val [] (.int .i64) v1_7] [⟨0, .arr [] (.prod (.int .i64) (.prod .bool (.prod (.int .i64) (.prod (.int .i64) (.prod (.slice (.int .u8)) .unit))))) v1_8⟩])) (fun y1_0 => N (sh jn25_1 [.rw 1] [⟨0, .arr [] (.prod (.int .i64) (.prod .bool (.prod (.int .i64) (.prod (.int .i64) (.prod (.slice (.int .u8)) .unit))))) y1_0⟩])) v1_0 v1_1 v1_2 v1_3 v1_4 v1_5 v1_6 v1_7 v1_8 := by kernel_rfl
theorem i25_1 (N : St → Option R) (X : Nat → St → Option R) (v1_0 : Int) (v1_1 : Bool) (v1_2 : Int) (v1_3 : List Int) (v1_4 : Int) (v1_5 : Int) (v1_6 : Int) (m : Nat) : ∀ (v1_7 : Int) (v1_8 : List (Int × (Bool × (Int × (Int × (List Int × Unit)))))),
    iter (atHead an25 0 bd25_1) m (fun st N' => exec T an25 (modesOf F) 0 k 90 (S25 k) (ending T Try.f25 an25 0 K) bd25_1 st N' (outX an25 0 1 N X)) (sh sp25_1 [.val [] (.int .i64) v1_0, .val [] .bool v1_1, .val [] (.int .i64) v1_2, .val [(0, 0)] (.slice (.int .u8)) v1_3, .val [] (.int .i64) v1_4, .val [] (.int .i64) v1_5, .rw 1, .val [] (.int .i64) v1_6, .val [] (.int .i64) v1_7] [⟨0, .arr [] (.prod (.int .i64) (.prod .bool (.prod (.int .i64) (.prod (.int .i64) (.prod (.slice (.int .u8)) .unit))))) v1_8⟩]) = f25_1d k (fun y1_0 => N (sh jn25_1 [.rw 1] [⟨0, .arr [] (.prod (.int .i64) (.prod .bool (.prod (.int .i64) (.prod (.int .i64) (.prod (.slice (.int .u8)) .unit))))) y1_0⟩])) v1_0 v1_1 v1_2 v1_3 v1_4 v1_5 v1_6 m v1_7 v1_8 := by
  induction m with
  | zero => intros; rfl
  | succ m ih =>
    intro v1_7 v1_8
    simp only [iter]
    rw [← execS_eq T an25 (modesOf F) 0 k 90 (S25 k) (L25 k K) bd25_1 (cuts_of _ _ _ _ _ _ _ _ bd25_1 (l := [(1000019, sp25_1000019, cd25_1000019), (1000021, sp25_1000021, cd25_1000021)]) (by kernel_rfl) ⟨l25_1000019 k K, l25_1000021 k K, trivial⟩)]
    refine (b25_1 k K _ N X v1_0 v1_1 v1_2 v1_3 v1_4 v1_5 v1_6 v1_7 v1_8).trans ?_
    simp only [f25_1d, ih]
theorem l25_1 (ws : List PV) (rs : List RowS) (N : St → Option R) (X : Nat → St → Option R) : L25 k K 1 ws rs N X = inner T an25 (modesOf F) 0 k 90 (S25 k) (ending T Try.f25 an25 0 K) cd25_1 (sh sp25_1 ws rs) N X := by
  show L25_1 k K ws rs N X = _
  unfold L25_1
  split
  rotate_left
  · rfl
  rename_i v1_0 v1_1 v1_2 v1_3 v1_4 v1_5 v1_6 v1_7 v1_8
  rw [f25_1_def]
  refine Eq.trans ?_ (show iter (atHead an25 0 bd25_1) k (fun st N' => exec T an25 (modesOf F) 0 k 90 (S25 k) (ending T Try.f25 an25 0 K) bd25_1 st N' (outX an25 0 1 N X)) (sh sp25_1 [.val [] (.int .i64) v1_0, .val [] .bool v1_1, .val [] (.int .i64) v1_2, .val [(0, 0)] (.slice (.int .u8)) v1_3, .val [] (.int .i64) v1_4, .val [] (.int .i64) v1_5, .rw 1, .val [] (.int .i64) v1_6, .val [] (.int .i64) v1_7] [⟨0, .arr [] (.prod (.int .i64) (.prod .bool (.prod (.int .i64) (.prod (.int .i64) (.prod (.slice (.int .u8)) .unit))))) v1_8⟩]) = _ from by kernel_rfl)
  exact (i25_1 k K N X v1_0 v1_1 v1_2 v1_3 v1_4 v1_5 v1_6 k v1_7 v1_8).symm
end
theorem q25 (k : Nat) (a0 : Int) (a1 : Bool) (a2 : Int) (a3 : List Int) (a4 : Int) (K : List PV → List RowS → Option R) :
    execS T an25 (modesOf F) 0 k 90 (S25 k) (L25 k K) (ending T Try.f25 an25 0 K) (bodyOf Try.f25) ⟨argEnv 0 [.val [] (.int .i64) a0, .val [] .bool a1, .val [] (.int .i64) a2, .val [(0, 0)] (.slice (.int .u8)) a3, .val [] (.int .i64) a4] (fun _ => none), rowsOf []⟩ (ending T Try.f25 an25 0 K) (fun _ _ => none) = f25d (k + 1) a0 a1 a2 a3 a4 (fun z0 z1 => K [.rw 1, .val [] (.int .i64) z0] [⟨0, .arr [] (.prod (.int .i64) (.prod .bool (.prod (.int .i64) (.prod (.int .i64) (.prod (.slice (.int .u8)) .unit))))) z1⟩]) := by kernel_rfl
theorem e25 (k : Nat) (a0 : Int) (a1 : Bool) (a2 : Int) (a3 : List Int) (a4 : Int) (K : List PV → List RowS → Option R) : callC T F k 25 [.val [] (.int .i64) a0, .val [] .bool a1, .val [] (.int .i64) a2, .val [(0, 0)] (.slice (.int .u8)) a3, .val [] (.int .i64) a4] [] K = f25 k a0 a1 a2 a3 a4 (fun z0 z1 => K [.rw 1, .val [] (.int .i64) z0] [⟨0, .arr [] (.prod (.int .i64) (.prod .bool (.prod (.int .i64) (.prod (.int .i64) (.prod (.slice (.int .u8)) .unit))))) z1⟩]) := by
  rw [f25_def]
  cases k with
  | zero => rfl
  | succ k =>
    refine Eq.trans (show _ = exec T an25 (modesOf F) 0 k 90 (callC T F k) (ending T Try.f25 an25 0 K) (bodyOf Try.f25) ⟨argEnv 0 [.val [] (.int .i64) a0, .val [] .bool a1, .val [] (.int .i64) a2, .val [(0, 0)] (.slice (.int .u8)) a3, .val [] (.int .i64) a4] (fun _ => none), rowsOf []⟩ (ending T Try.f25 an25 0 K) (fun _ _ => none) from by kernel_rfl) ?_
    rw [← S25_eq k, ← execS_eq T an25 (modesOf F) 0 k 90 (S25 k) (L25 k K) (bodyOf Try.f25) (cuts_of _ _ _ _ _ _ _ _ (bodyOf Try.f25) (l := [(1, sp25_1, cd25_1)]) (by kernel_rfl) ⟨l25_1 k K, trivial⟩)]
    exact q25 k a0 a1 a2 a3 a4 K
noncomputable def s25 (k : Nat) (a : List PV) (r : List RowS) (K : List PV → List RowS → Option R) : Option R := match a, r with
  | [.val [] (.int .i64) a0, .val [] .bool a1, .val [] (.int .i64) a2, .val [(0, 0)] (.slice (.int .u8)) a3, .val [] (.int .i64) a4], [] => f25 k a0 a1 a2 a3 a4 (fun z0 z1 => K [.rw 1, .val [] (.int .i64) z0] [⟨0, .arr [] (.prod (.int .i64) (.prod .bool (.prod (.int .i64) (.prod (.int .i64) (.prod (.slice (.int .u8)) .unit))))) z1⟩])
  | a, r => callC T F k 25 a r K
theorem s25_eq (k : Nat) (a : List PV) (r : List RowS) (K : List PV → List RowS → Option R) : s25 k a r K = callC T F k 25 a r K := by
  unfold s25
  split
  · exact (e25 k _ _ _ _ _ K).symm
  · rfl
end
section
variable {R : Type}
noncomputable def S31 (k g : Nat) (a : List PV) (r : List RowS) (K : List PV → List RowS → Option R) : Option R := bif g == 69 then s69 k a r K else callC T F k g a r K
theorem S31_eq (k : Nat) : S31 (R := R) k = callC T F k := by
  funext g a r K
  exact pick_eq (fun e => by subst e; exact s69_eq k a r K) (rfl)
theorem q31 (k : Nat) (a0 : Int) (a1 : Bool) (a2 : Int) (a3 : Int) (a4 : List Int) (K : List PV → List RowS → Option R) :
    execS T an31 (modesOf F) 0 k 28 (S31 k) (fun _ _ _ _ _ => none) (ending T Try.f31 an31 0 K) (bodyOf Try.f31) ⟨argEnv 0 [.agg [.val [] (.int .i64) a0, .val [] .bool a1, .val [] (.int .i64) a2, .val [] (.int .i64) a3, .val [(0, 0)] (.slice (.int .u8)) a4]] (fun _ => none), rowsOf []⟩ (ending T Try.f31 an31 0 K) (fun _ _ => none) = f31d (k + 1) a0 a1 a2 a3 a4 (fun z0 => K [.val [] (.int .i64) z0] []) := by kernel_rfl
theorem e31 (k : Nat) (a0 : Int) (a1 : Bool) (a2 : Int) (a3 : Int) (a4 : List Int) (K : List PV → List RowS → Option R) : callC T F k 31 [.agg [.val [] (.int .i64) a0, .val [] .bool a1, .val [] (.int .i64) a2, .val [] (.int .i64) a3, .val [(0, 0)] (.slice (.int .u8)) a4]] [] K = f31 k a0 a1 a2 a3 a4 (fun z0 => K [.val [] (.int .i64) z0] []) := by
  rw [f31_def]
  cases k with
  | zero => rfl
  | succ k =>
    refine Eq.trans (show _ = exec T an31 (modesOf F) 0 k 28 (callC T F k) (ending T Try.f31 an31 0 K) (bodyOf Try.f31) ⟨argEnv 0 [.agg [.val [] (.int .i64) a0, .val [] .bool a1, .val [] (.int .i64) a2, .val [] (.int .i64) a3, .val [(0, 0)] (.slice (.int .u8)) a4]] (fun _ => none), rowsOf []⟩ (ending T Try.f31 an31 0 K) (fun _ _ => none) from by kernel_rfl) ?_
    rw [← S31_eq k, ← execS_eq T an31 (modesOf F) 0 k 28 (S31 k) (fun _ _ _ _ _ => none) (bodyOf Try.f31) (cuts_of _ _ _ _ _ _ _ _ (bodyOf Try.f31) (l := []) (by kernel_rfl) trivial)]
    exact q31 k a0 a1 a2 a3 a4 K
noncomputable def s31 (k : Nat) (a : List PV) (r : List RowS) (K : List PV → List RowS → Option R) : Option R := match a, r with
  | [.agg [.val [] (.int .i64) a0, .val [] .bool a1, .val [] (.int .i64) a2, .val [] (.int .i64) a3, .val [(0, 0)] (.slice (.int .u8)) a4]], [] => f31 k a0 a1 a2 a3 a4 (fun z0 => K [.val [] (.int .i64) z0] [])
  | a, r => callC T F k 31 a r K
theorem s31_eq (k : Nat) (a : List PV) (r : List RowS) (K : List PV → List RowS → Option R) : s31 k a r K = callC T F k 31 a r K := by
  unfold s31
  split
  · exact (e31 k _ _ _ _ _ K).symm
  · rfl
end
section
variable {R : Type}
noncomputable def S26 (k g : Nat) (a : List PV) (r : List RowS) (K : List PV → List RowS → Option R) : Option R := bif g == 31 then s31 k a r K else bif g == 41 then s41 k a r K else bif g == 69 then s69 k a r K else callC T F k g a r K
theorem S26_eq (k : Nat) : S26 (R := R) k = callC T F k := by
  funext g a r K
  exact pick_eq (fun e => by subst e; exact s31_eq k a r K) (pick_eq (fun e => by subst e; exact s41_eq k a r K) (pick_eq (fun e => by subst e; exact s69_eq k a r K) (rfl)))
section
variable {R : Type} (k : Nat) (K : List PV → List RowS → Option R)
noncomputable def L26_1000018 (ws : List PV) (rs : List RowS) (N : St → Option R) (X : Nat → St → Option R) : Option R := match ws, rs with
  | [.val [] (.int .i64) v18_0, .val [] .bool v18_1, .val [] (.int .i64) v18_2, .val [(0, 0)] (.slice (.int .u8)) v18_3, .val [] (.int .i64) v18_4, .rw 1, .val [] (.int .i64) v18_5, .ptr 2 0, .val [] .bool v18_6], [⟨0, .arr [] (.prod (.int .i64) (.prod .bool (.prod (.int .i64) (.prod (.int .i64) (.prod (.slice (.int .u8)) .unit))))) v18_7⟩, ⟨0, .vars [.val [] (.int .i64) v18_8, .val [] .bool v18_9, .val [] (.int .i64) v18_10, .val [] (.int .i64) v18_11, .rw 3]⟩, ⟨0, .arr [] (.int .u8) v18_12⟩] => f26_1000018 k (fun yN_9 => N (sh fi26_18 [.val [] (.int .i64) v18_0, .val [] .bool v18_1, .val [] (.int .i64) v18_2, .val [(0, 0)] (.slice (.int .u8)) v18_3, .val [] (.int .i64) v18_4, .rw 1, .val [] (.int .i64) v18_5, .ptr 2 0] [⟨0, .arr [] (.prod (.int .i64) (.prod .bool (.prod (.int .i64) (.prod (.int .i64) (.prod (.slice (.int .u8)) .unit))))) v18_7⟩, ⟨0, .vars [.val [] (.int .i64) v18_8, .val [] .bool v18_9, .val [] (.int .i64) yN_9, .val [] (.int .i64) v18_11, .rw 3]⟩, ⟨0, .arr [] (.int .u8) v18_12⟩])) v18_0 v18_1 v18_2 v18_3 v18_4 v18_5 v18_6 v18_7 v18_8 v18_9 v18_10 v18_11 v18_12
  | ws, rs => inner T an26 (modesOf F) 0 k 91 (S26 k) (ending T Try.f26 an26 0 K) cd26_1000018 (sh sp26_1000018 ws rs) N X
noncomputable def L26_1000020 (ws : List PV) (rs : List RowS) (N : St → Option R) (X : Nat → St → Option R) : Option R := match ws, rs with
  | [.val [] (.int .i64) v20_0, .val [] .bool v20_1, .val [] (.int .i64) v20_2, .val [(0, 0)] (.slice (.int .u8)) v20_3, .val [] (.int .i64) v20_4, .rw 1, .val [] (.int .i64) v20_5, .ptr 2 0, .val [] .bool v20_6], [⟨0, .arr [] (.prod (.int .i64) (.prod .bool (.prod (.int .i64) (.prod (.int .i64) (.prod (.slice (.int .u8)) .unit))))) v20_7⟩, ⟨0, .vars [.val [] (.int .i64) v20_8, .val [] .bool v20_9, .val [] (.int .i64) v20_10, .val [] (.int .i64) v20_11, .rw 3]⟩, ⟨0, .arr [] (.int .u8) v20_12⟩] => f26_1000020 k (fun yN_9 => N (sh fi26_20 [.val [] (.int .i64) v20_0, .val [] .bool v20_1, .val [] (.int .i64) v20_2, .val [(0, 0)] (.slice (.int .u8)) v20_3, .val [] (.int .i64) v20_4, .rw 1, .val [] (.int .i64) v20_5, .ptr 2 0] [⟨0, .arr [] (.prod (.int .i64) (.prod .bool (.prod (.int .i64) (.prod (.int .i64) (.prod (.slice (.int .u8)) .unit))))) v20_7⟩, ⟨0, .vars [.val [] (.int .i64) v20_8, .val [] .bool v20_9, .val [] (.int .i64) yN_9, .val [] (.int .i64) v20_11, .rw 3]⟩, ⟨0, .arr [] (.int .u8) v20_12⟩])) v20_0 v20_1 v20_2 v20_3 v20_4 v20_5 v20_6 v20_7 v20_8 v20_9 v20_10 v20_11 v20_12
  | ws, rs => inner T an26 (modesOf F) 0 k 91 (S26 k) (ending T Try.f26 an26 0 K) cd26_1000020 (sh sp26_1000020 ws rs) N X
noncomputable def L26_1 (ws : List PV) (rs : List RowS) (N : St → Option R) (X : Nat → St → Option R) : Option R := match ws, rs with
  | [.val [] (.int .i64) v1_0, .val [] .bool v1_1, .val [] (.int .i64) v1_2, .val [(0, 0)] (.slice (.int .u8)) v1_3, .val [] (.int .i64) v1_4, .rw 1, .val [] (.int .i64) v1_5], [⟨0, .arr [] (.prod (.int .i64) (.prod .bool (.prod (.int .i64) (.prod (.int .i64) (.prod (.slice (.int .u8)) .unit))))) v1_6⟩] => f26_1 k (fun y1_0 => N (sh jn26_1 [.rw 1] [⟨0, .arr [] (.prod (.int .i64) (.prod .bool (.prod (.int .i64) (.prod (.int .i64) (.prod (.slice (.int .u8)) .unit))))) y1_0⟩])) v1_0 v1_1 v1_2 v1_3 v1_4 k v1_5 v1_6
  | ws, rs => inner T an26 (modesOf F) 0 k 91 (S26 k) (ending T Try.f26 an26 0 K) cd26_1 (sh sp26_1 ws rs) N X
noncomputable def L26 (id : Nat) (ws : List PV) (rs : List RowS) (N : St → Option R) (X : Nat → St → Option R) : Option R := bif id == 1000018 then L26_1000018 k K ws rs N X else bif id == 1000020 then L26_1000020 k K ws rs N X else bif id == 1 then L26_1 k K ws rs N X else none
theorem b26_1000018 (N : St → Option R) (X : Nat → St → Option R) (v18_0 : Int) (v18_1 : Bool) (v18_2 : Int) (v18_3 : List Int) (v18_4 : Int) (v18_5 : Int) (v18_6 : Bool) (v18_7 : List (Int × (Bool × (Int × (Int × (List Int × Unit)))))) (v18_8 : Int) (v18_9 : Bool) (v18_10 : Int) (v18_11 : Int) (v18_12 : List Int) :
    innerS T an26 (modesOf F) 0 k 91 (S26 k) (L26 k K) (ending T Try.f26 an26 0 K) cd26_1000018 (sh sp26_1000018 [.val [] (.int .i64) v18_0, .val [] .bool v18_1, .val [] (.int .i64) v18_2, .val [(0, 0)] (.slice (.int .u8)) v18_3, .val [] (.int .i64) v18_4, .rw 1, .val [] (.int .i64) v18_5, .ptr 2 0, .val [] .bool v18_6] [⟨0, .arr [] (.prod (.int .i64) (.prod .bool (.prod (.int .i64) (.prod (.int .i64) (.prod (.slice (.int .u8)) .unit))))) v18_7⟩, ⟨0, .vars [.val [] (.int .i64) v18_8, .val [] .bool v18_9, .val [] (.int .i64) v18_10, .val [] (.int .i64) v18_11, .rw 3]⟩, ⟨0, .arr [] (.int .u8) v18_12⟩]) N X = f26_1000018d k (fun yN_9 => N (sh fi26_18 [.val [] (.int .i64) v18_0, .val [] .bool v18_1, .val [] (.int .i64) v18_2, .val [(0, 0)] (.slice (.int .u8)) v18_3, .val [] (.int .i64) v18_4, .rw 1, .val [] (.int .i64) v18_5, .ptr 2 0] [⟨0, .arr [] (.prod (.int .i64) (.prod .bool (.prod (.int .i64) (.prod (.int .i64) (.prod (.slice (.int .u8)) .unit))))) v18_7⟩, ⟨0, .vars [.val [] (.int .i64) v18_8, .val [] .bool v18_9, .val [] (.int .i64) yN_9, .val [] (.int .i64) v18_11, .rw 3]⟩, ⟨0, .arr [] (.int .u8) v18_12⟩])) v18_0 v18_1 v18_2 v18_3 v18_4 v18_5 v18_6 v18_7 v18_8 v18_9 v18_10 v18_11 v18_12 := by kernel_rfl
theorem l26_1000018 (ws : List PV) (rs : List RowS) (N : St → Option R) (X : Nat → St → Option R) : L26 k K 1000018 ws rs N X = inner T an26 (modesOf F) 0 k 91 (S26 k) (ending T Try.f26 an26 0 K) cd26_1000018 (sh sp26_1000018 ws rs) N X := by
  show L26_1000018 k K ws rs N X = _
  unfold L26_1000018
  split
  rotate_left
  · rfl
  rename_i v18_0 v18_1 v18_2 v18_3 v18_4 v18_5 v18_6 v18_7 v18_8 v18_9 v18_10 v18_11 v18_12
  rw [f26_1000018_def]
  exact ((innerS_eq T an26 (modesOf F) 0 k 91 (S26 k) (L26 k K) cd26_1000018 (l := []) (by kernel_rfl) trivial _ N X).symm.trans (b26_1000018 k K N X v18_0 v18_1 v18_2 v18_3 v18_4 v18_5 v18_6 v18_7 v18_8 v18_9 v18_10 v18_11 v18_12)).symm
theorem b26_1000020 (N : St → Option R) (X : Nat → St → Option R) (v20_0 : Int) (v20_1 : Bool) (v20_2 : Int) (v20_3 : List Int) (v20_4 : Int) (v20_5 : Int) (v20_6 : Bool) (v20_7 : List (Int × (Bool × (Int × (Int × (List Int × Unit)))))) (v20_8 : Int) (v20_9 : Bool) (v20_10 : Int) (v20_11 : Int) (v20_12 : List Int) :
    innerS T an26 (modesOf F) 0 k 91 (S26 k) (L26 k K) (ending T Try.f26 an26 0 K) cd26_1000020 (sh sp26_1000020 [.val [] (.int .i64) v20_0, .val [] .bool v20_1, .val [] (.int .i64) v20_2, .val [(0, 0)] (.slice (.int .u8)) v20_3, .val [] (.int .i64) v20_4, .rw 1, .val [] (.int .i64) v20_5, .ptr 2 0, .val [] .bool v20_6] [⟨0, .arr [] (.prod (.int .i64) (.prod .bool (.prod (.int .i64) (.prod (.int .i64) (.prod (.slice (.int .u8)) .unit))))) v20_7⟩, ⟨0, .vars [.val [] (.int .i64) v20_8, .val [] .bool v20_9, .val [] (.int .i64) v20_10, .val [] (.int .i64) v20_11, .rw 3]⟩, ⟨0, .arr [] (.int .u8) v20_12⟩]) N X = f26_1000020d k (fun yN_9 => N (sh fi26_20 [.val [] (.int .i64) v20_0, .val [] .bool v20_1, .val [] (.int .i64) v20_2, .val [(0, 0)] (.slice (.int .u8)) v20_3, .val [] (.int .i64) v20_4, .rw 1, .val [] (.int .i64) v20_5, .ptr 2 0] [⟨0, .arr [] (.prod (.int .i64) (.prod .bool (.prod (.int .i64) (.prod (.int .i64) (.prod (.slice (.int .u8)) .unit))))) v20_7⟩, ⟨0, .vars [.val [] (.int .i64) v20_8, .val [] .bool v20_9, .val [] (.int .i64) yN_9, .val [] (.int .i64) v20_11, .rw 3]⟩, ⟨0, .arr [] (.int .u8) v20_12⟩])) v20_0 v20_1 v20_2 v20_3 v20_4 v20_5 v20_6 v20_7 v20_8 v20_9 v20_10 v20_11 v20_12 := by kernel_rfl
theorem l26_1000020 (ws : List PV) (rs : List RowS) (N : St → Option R) (X : Nat → St → Option R) : L26 k K 1000020 ws rs N X = inner T an26 (modesOf F) 0 k 91 (S26 k) (ending T Try.f26 an26 0 K) cd26_1000020 (sh sp26_1000020 ws rs) N X := by
  show L26_1000020 k K ws rs N X = _
  unfold L26_1000020
  split
  rotate_left
  · rfl
  rename_i v20_0 v20_1 v20_2 v20_3 v20_4 v20_5 v20_6 v20_7 v20_8 v20_9 v20_10 v20_11 v20_12
  rw [f26_1000020_def]
  exact ((innerS_eq T an26 (modesOf F) 0 k 91 (S26 k) (L26 k K) cd26_1000020 (l := []) (by kernel_rfl) trivial _ N X).symm.trans (b26_1000020 k K N X v20_0 v20_1 v20_2 v20_3 v20_4 v20_5 v20_6 v20_7 v20_8 v20_9 v20_10 v20_11 v20_12)).symm
theorem b26_1 (rec : St → Option R) (N : St → Option R) (X : Nat → St → Option R) (v1_0 : Int) (v1_1 : Bool) (v1_2 : Int) (v1_3 : List Int) (v1_4 : Int) (v1_5 : Int) (v1_6 : List (Int × (Bool × (Int × (Int × (List Int × Unit)))))) :
    execS T an26 (modesOf F) 0 k 91 (S26 k) (L26 k K) (ending T Try.f26 an26 0 K) bd26_1 (sh sp26_1 [.val [] (.int .i64) v1_0, .val [] .bool v1_1, .val [] (.int .i64) v1_2, .val [(0, 0)] (.slice (.int .u8)) v1_3, .val [] (.int .i64) v1_4, .rw 1, .val [] (.int .i64) v1_5] [⟨0, .arr [] (.prod (.int .i64) (.prod .bool (.prod (.int .i64) (.prod (.int .i64) (.prod (.slice (.int .u8)) .unit))))) v1_6⟩]) (fun st => atHead an26 0 bd26_1 st rec) (outX an26 0 1 N X) =
      f26_1b k (fun v1_5 v1_6 => rec (sh sp26_1 [.val [] (.int .i64) v1_0, .val [] .bool v1_1, .val [] (.int .i64) v1_2, .val [(0, 0)] (.slice (.int .u8)) v1_3, .val [] (.int .i64) v1_4, .rw 1, .val [] (.int .i64) v1_5] [⟨0, .arr [] (.prod (.int .i64) (.prod .bool (.prod (.int .i64) (.prod (.int .i64) (.prod (.slice (.int .u8)) .unit))))) v1_6⟩])) (fun y1_0 => N (sh jn26_1 [.rw 1] [⟨0, .arr [] (.prod (.int .i64) (.prod .bool (.prod (.int .i64) (.prod (.int .i64) (.prod (.slice (.int .u8)) .unit))))) y1_0⟩])) v1_0 v1_1 v1_2 v1_3 v1_4 v1_5 v1_6 := by kernel_rfl
theorem i26_1 (N : St → Option R) (X : Nat → St → Option R) (v1_0 : Int) (v1_1 : Bool) (v1_2 : Int) (v1_3 : List Int) (v1_4 : Int) (m : Nat) : ∀ (v1_5 : Int) (v1_6 : List (Int × (Bool × (Int × (Int × (List Int × Unit)))))),
    iter (atHead an26 0 bd26_1) m (fun st N' => exec T an26 (modesOf F) 0 k 91 (S26 k) (ending T Try.f26 an26 0 K) bd26_1 st N' (outX an26 0 1 N X)) (sh sp26_1 [.val [] (.int .i64) v1_0, .val [] .bool v1_1, .val [] (.int .i64) v1_2, .val [(0, 0)] (.slice (.int .u8)) v1_3, .val [] (.int .i64) v1_4, .rw 1, .val [] (.int .i64) v1_5] [⟨0, .arr [] (.prod (.int .i64) (.prod .bool (.prod (.int .i64) (.prod (.int .i64) (.prod (.slice (.int .u8)) .unit))))) v1_6⟩]) = f26_1d k (fun y1_0 => N (sh jn26_1 [.rw 1] [⟨0, .arr [] (.prod (.int .i64) (.prod .bool (.prod (.int .i64) (.prod (.int .i64) (.prod (.slice (.int .u8)) .unit))))) y1_0⟩])) v1_0 v1_1 v1_2 v1_3 v1_4 m v1_5 v1_6 := by
  induction m with
  | zero => intros; rfl
  | succ m ih =>
    intro v1_5 v1_6
    simp only [iter]
    rw [← execS_eq T an26 (modesOf F) 0 k 91 (S26 k) (L26 k K) bd26_1 (cuts_of _ _ _ _ _ _ _ _ bd26_1 (l := [(1000018, sp26_1000018, cd26_1000018), (1000020, sp26_1000020, cd26_1000020)]) (by kernel_rfl) ⟨l26_1000018 k K, l26_1000020 k K, trivial⟩)]
    refine (b26_1 k K _ N X v1_0 v1_1 v1_2 v1_3 v1_4 v1_5 v1_6).trans ?_
    simp only [f26_1d, ih]
theorem l26_1 (ws : List PV) (rs : List RowS) (N : St → Option R) (X : Nat → St → Option R) : L26 k K 1 ws rs N X = inner T an26 (modesOf F) 0 k 91 (S26 k) (ending T Try.f26 an26 0 K) cd26_1 (sh sp26_1 ws rs) N X := by
  show L26_1 k K ws rs N X = _
  unfold L26_1
  split
  rotate_left
  · rfl
  rename_i v1_0 v1_1 v1_2 v1_3 v1_4 v1_5 v1_6
  rw [f26_1_def]
  refine Eq.trans ?_ (show iter (atHead an26 0 bd26_1) k (fun st N' => exec T an26 (modesOf F) 0 k 91 (S26 k) (ending T Try.f26 an26 0 K) bd26_1 st N' (outX an26 0 1 N X)) (sh sp26_1 [.val [] (.int .i64) v1_0, .val [] .bool v1_1, .val [] (.int .i64) v1_2, .val [(0, 0)] (.slice (.int .u8)) v1_3, .val [] (.int .i64) v1_4, .rw 1, .val [] (.int .i64) v1_5] [⟨0, .arr [] (.prod (.int .i64) (.prod .bool (.prod (.int .i64) (.prod (.int .i64) (.prod (.slice (.int .u8)) .unit))))) v1_6⟩]) = _ from by kernel_rfl)
  exact (i26_1 k K N X v1_0 v1_1 v1_2 v1_3 v1_4 k v1_5 v1_6).symm
end
theorem q26 (k : Nat) (a0 : Int) (a1 : Bool) (a2 : Int) (a3 : List Int) (a4 : Int) (K : List PV → List RowS → Option R) :
    execS T an26 (modesOf F) 0 k 91 (S26 k) (L26 k K) (ending T Try.f26 an26 0 K) (bodyOf Try.f26) ⟨argEnv 0 [.val [] (.int .i64) a0, .val [] .bool a1, .val [] (.int .i64) a2, .val [(0, 0)] (.slice (.int .u8)) a3, .val [] (.int .i64) a4] (fun _ => none), rowsOf []⟩ (ending T Try.f26 an26 0 K) (fun _ _ => none) = f26d (k + 1) a0 a1 a2 a3 a4 (fun z0 z1 => K [.rw 1, .val [] (.int .i64) z0] [⟨0, .arr [] (.prod (.int .i64) (.prod .bool (.prod (.int .i64) (.prod (.int .i64) (.prod (.slice (.int .u8)) .unit))))) z1⟩]) := by kernel_rfl
theorem e26 (k : Nat) (a0 : Int) (a1 : Bool) (a2 : Int) (a3 : List Int) (a4 : Int) (K : List PV → List RowS → Option R) : callC T F k 26 [.val [] (.int .i64) a0, .val [] .bool a1, .val [] (.int .i64) a2, .val [(0, 0)] (.slice (.int .u8)) a3, .val [] (.int .i64) a4] [] K = f26 k a0 a1 a2 a3 a4 (fun z0 z1 => K [.rw 1, .val [] (.int .i64) z0] [⟨0, .arr [] (.prod (.int .i64) (.prod .bool (.prod (.int .i64) (.prod (.int .i64) (.prod (.slice (.int .u8)) .unit))))) z1⟩]) := by
  rw [f26_def]
  cases k with
  | zero => rfl
  | succ k =>
    refine Eq.trans (show _ = exec T an26 (modesOf F) 0 k 91 (callC T F k) (ending T Try.f26 an26 0 K) (bodyOf Try.f26) ⟨argEnv 0 [.val [] (.int .i64) a0, .val [] .bool a1, .val [] (.int .i64) a2, .val [(0, 0)] (.slice (.int .u8)) a3, .val [] (.int .i64) a4] (fun _ => none), rowsOf []⟩ (ending T Try.f26 an26 0 K) (fun _ _ => none) from by kernel_rfl) ?_
    rw [← S26_eq k, ← execS_eq T an26 (modesOf F) 0 k 91 (S26 k) (L26 k K) (bodyOf Try.f26) (cuts_of _ _ _ _ _ _ _ _ (bodyOf Try.f26) (l := [(1, sp26_1, cd26_1)]) (by kernel_rfl) ⟨l26_1 k K, trivial⟩)]
    exact q26 k a0 a1 a2 a3 a4 K
noncomputable def s26 (k : Nat) (a : List PV) (r : List RowS) (K : List PV → List RowS → Option R) : Option R := match a, r with
  | [.val [] (.int .i64) a0, .val [] .bool a1, .val [] (.int .i64) a2, .val [(0, 0)] (.slice (.int .u8)) a3, .val [] (.int .i64) a4], [] => f26 k a0 a1 a2 a3 a4 (fun z0 z1 => K [.rw 1, .val [] (.int .i64) z0] [⟨0, .arr [] (.prod (.int .i64) (.prod .bool (.prod (.int .i64) (.prod (.int .i64) (.prod (.slice (.int .u8)) .unit))))) z1⟩])
  | a, r => callC T F k 26 a r K
theorem s26_eq (k : Nat) (a : List PV) (r : List RowS) (K : List PV → List RowS → Option R) : s26 k a r K = callC T F k 26 a r K := by
  unfold s26
  split
  · exact (e26 k _ _ _ _ _ K).symm
  · rfl
end
section
variable {R : Type}
noncomputable def S27 (k g : Nat) (a : List PV) (r : List RowS) (K : List PV → List RowS → Option R) : Option R := bif g == 24 then s24 k a r K else callC T F k g a r K
theorem S27_eq (k : Nat) : S27 (R := R) k = callC T F k := by
  funext g a r K
  exact pick_eq (fun e => by subst e; exact s24_eq k a r K) (rfl)
section
variable {R : Type} (k : Nat) (K : List PV → List RowS → Option R)
noncomputable def L27_0 (ws : List PV) (rs : List RowS) (N : St → Option R) (X : Nat → St → Option R) : Option R := match ws, rs with
  | [.val [(0, 0)] (.slice (.prod (.int .i64) (.prod .bool (.prod (.int .i64) (.prod (.int .i64) (.prod (.slice (.int .u8)) .unit)))))) v0_0, .val [(0, 0)] (.slice (.prod (.int .i64) (.prod .bool (.prod (.int .i64) (.prod (.int .i64) (.prod (.slice (.int .u8)) .unit)))))) v0_1, .val [] (.int .i64) v0_2, .val [] (.int .i64) v0_3], [] => f27_0 k (fun z0 => K [.val [] .bool z0] []) (N (sh jn27_0 [] [])) v0_0 v0_1 v0_2 k v0_3
  | ws, rs => inner T an27 (modesOf F) 0 k 27 (S27 k) (ending T Try.f27 an27 0 K) cd27_0 (sh sp27_0 ws rs) N X
noncomputable def L27 (id : Nat) (ws : List PV) (rs : List RowS) (N : St → Option R) (X : Nat → St → Option R) : Option R := bif id == 0 then L27_0 k K ws rs N X else none
theorem b27_0 (rec : St → Option R) (N : St → Option R) (X : Nat → St → Option R) (v0_0 : List ((Int × (Bool × (Int × (Int × (List Int × Unit))))))) (v0_1 : List ((Int × (Bool × (Int × (Int × (List Int × Unit))))))) (v0_2 : Int) (v0_3 : Int) :
    execS T an27 (modesOf F) 0 k 27 (S27 k) (L27 k K) (ending T Try.f27 an27 0 K) bd27_0 (sh sp27_0 [.val [(0, 0)] (.slice (.prod (.int .i64) (.prod .bool (.prod (.int .i64) (.prod (.int .i64) (.prod (.slice (.int .u8)) .unit)))))) v0_0, .val [(0, 0)] (.slice (.prod (.int .i64) (.prod .bool (.prod (.int .i64) (.prod (.int .i64) (.prod (.slice (.int .u8)) .unit)))))) v0_1, .val [] (.int .i64) v0_2, .val [] (.int .i64) v0_3] []) (fun st => atHead an27 0 bd27_0 st rec) (outX an27 0 0 N X) =
      f27_0b k (fun v0_3 => rec (sh sp27_0 [.val [(0, 0)] (.slice (.prod (.int .i64) (.prod .bool (.prod (.int .i64) (.prod (.int .i64) (.prod (.slice (.int .u8)) .unit)))))) v0_0, .val [(0, 0)] (.slice (.prod (.int .i64) (.prod .bool (.prod (.int .i64) (.prod (.int .i64) (.prod (.slice (.int .u8)) .unit)))))) v0_1, .val [] (.int .i64) v0_2, .val [] (.int .i64) v0_3] [])) (fun z0 => K [.val [] .bool z0] []) (N (sh jn27_0 [] [])) v0_0 v0_1 v0_2 v0_3 := by kernel_rfl
theorem i27_0 (N : St → Option R) (X : Nat → St → Option R) (v0_0 : List ((Int × (Bool × (Int × (Int × (List Int × Unit))))))) (v0_1 : List ((Int × (Bool × (Int × (Int × (List Int × Unit))))))) (v0_2 : Int) (m : Nat) : ∀ (v0_3 : Int),
    iter (atHead an27 0 bd27_0) m (fun st N' => exec T an27 (modesOf F) 0 k 27 (S27 k) (ending T Try.f27 an27 0 K) bd27_0 st N' (outX an27 0 0 N X)) (sh sp27_0 [.val [(0, 0)] (.slice (.prod (.int .i64) (.prod .bool (.prod (.int .i64) (.prod (.int .i64) (.prod (.slice (.int .u8)) .unit)))))) v0_0, .val [(0, 0)] (.slice (.prod (.int .i64) (.prod .bool (.prod (.int .i64) (.prod (.int .i64) (.prod (.slice (.int .u8)) .unit)))))) v0_1, .val [] (.int .i64) v0_2, .val [] (.int .i64) v0_3] []) = f27_0d k (fun z0 => K [.val [] .bool z0] []) (N (sh jn27_0 [] [])) v0_0 v0_1 v0_2 m v0_3 := by
  induction m with
  | zero => intros; rfl
  | succ m ih =>
    intro v0_3
    simp only [iter]
    rw [← execS_eq T an27 (modesOf F) 0 k 27 (S27 k) (L27 k K) bd27_0 (cuts_of _ _ _ _ _ _ _ _ bd27_0 (l := []) (by kernel_rfl) trivial)]
    refine (b27_0 k K _ N X v0_0 v0_1 v0_2 v0_3).trans ?_
    simp only [f27_0d, ih]
theorem l27_0 (ws : List PV) (rs : List RowS) (N : St → Option R) (X : Nat → St → Option R) : L27 k K 0 ws rs N X = inner T an27 (modesOf F) 0 k 27 (S27 k) (ending T Try.f27 an27 0 K) cd27_0 (sh sp27_0 ws rs) N X := by
  show L27_0 k K ws rs N X = _
  unfold L27_0
  split
  rotate_left
  · rfl
  rename_i v0_0 v0_1 v0_2 v0_3
  rw [f27_0_def]
  refine Eq.trans ?_ (show iter (atHead an27 0 bd27_0) k (fun st N' => exec T an27 (modesOf F) 0 k 27 (S27 k) (ending T Try.f27 an27 0 K) bd27_0 st N' (outX an27 0 0 N X)) (sh sp27_0 [.val [(0, 0)] (.slice (.prod (.int .i64) (.prod .bool (.prod (.int .i64) (.prod (.int .i64) (.prod (.slice (.int .u8)) .unit)))))) v0_0, .val [(0, 0)] (.slice (.prod (.int .i64) (.prod .bool (.prod (.int .i64) (.prod (.int .i64) (.prod (.slice (.int .u8)) .unit)))))) v0_1, .val [] (.int .i64) v0_2, .val [] (.int .i64) v0_3] []) = _ from by kernel_rfl)
  exact (i27_0 k K N X v0_0 v0_1 v0_2 k v0_3).symm
end
theorem q27 (k : Nat) (a0 : List ((Int × (Bool × (Int × (Int × (List Int × Unit))))))) (a1 : List ((Int × (Bool × (Int × (Int × (List Int × Unit))))))) (K : List PV → List RowS → Option R) :
    execS T an27 (modesOf F) 0 k 27 (S27 k) (L27 k K) (ending T Try.f27 an27 0 K) (bodyOf Try.f27) ⟨argEnv 0 [.val [(0, 0)] (.slice (.prod (.int .i64) (.prod .bool (.prod (.int .i64) (.prod (.int .i64) (.prod (.slice (.int .u8)) .unit)))))) a0, .val [(0, 0)] (.slice (.prod (.int .i64) (.prod .bool (.prod (.int .i64) (.prod (.int .i64) (.prod (.slice (.int .u8)) .unit)))))) a1] (fun _ => none), rowsOf []⟩ (ending T Try.f27 an27 0 K) (fun _ _ => none) = f27d (k + 1) a0 a1 (fun z0 => K [.val [] .bool z0] []) := by kernel_rfl
theorem e27 (k : Nat) (a0 : List ((Int × (Bool × (Int × (Int × (List Int × Unit))))))) (a1 : List ((Int × (Bool × (Int × (Int × (List Int × Unit))))))) (K : List PV → List RowS → Option R) : callC T F k 27 [.val [(0, 0)] (.slice (.prod (.int .i64) (.prod .bool (.prod (.int .i64) (.prod (.int .i64) (.prod (.slice (.int .u8)) .unit)))))) a0, .val [(0, 0)] (.slice (.prod (.int .i64) (.prod .bool (.prod (.int .i64) (.prod (.int .i64) (.prod (.slice (.int .u8)) .unit)))))) a1] [] K = f27 k a0 a1 (fun z0 => K [.val [] .bool z0] []) := by
  rw [f27_def]
  cases k with
  | zero => rfl
  | succ k =>
    refine Eq.trans (show _ = exec T an27 (modesOf F) 0 k 27 (callC T F k) (ending T Try.f27 an27 0 K) (bodyOf Try.f27) ⟨argEnv 0 [.val [(0, 0)] (.slice (.prod (.int .i64) (.prod .bool (.prod (.int .i64) (.prod (.int .i64) (.prod (.slice (.int .u8)) .unit)))))) a0, .val [(0, 0)] (.slice (.prod (.int .i64) (.prod .bool (.prod (.int .i64) (.prod (.int .i64) (.prod (.slice (.int .u8)) .unit)))))) a1] (fun _ => none), rowsOf []⟩ (ending T Try.f27 an27 0 K) (fun _ _ => none) from by kernel_rfl) ?_
    rw [← S27_eq k, ← execS_eq T an27 (modesOf F) 0 k 27 (S27 k) (L27 k K) (bodyOf Try.f27) (cuts_of _ _ _ _ _ _ _ _ (bodyOf Try.f27) (l := [(0, sp27_0, cd27_0)]) (by kernel_rfl) ⟨l27_0 k K, trivial⟩)]
    exact q27 k a0 a1 K
noncomputable def s27 (k : Nat) (a : List PV) (r : List RowS) (K : List PV → List RowS → Option R) : Option R := match a, r with
  | [.val [(0, 0)] (.slice (.prod (.int .i64) (.prod .bool (.prod (.int .i64) (.prod (.int .i64) (.prod (.slice (.int .u8)) .unit)))))) a0, .val [(0, 0)] (.slice (.prod (.int .i64) (.prod .bool (.prod (.int .i64) (.prod (.int .i64) (.prod (.slice (.int .u8)) .unit)))))) a1], [] => f27 k a0 a1 (fun z0 => K [.val [] .bool z0] [])
  | a, r => callC T F k 27 a r K
theorem s27_eq (k : Nat) (a : List PV) (r : List RowS) (K : List PV → List RowS → Option R) : s27 k a r K = callC T F k 27 a r K := by
  unfold s27
  split
  · exact (e27 k _ _ K).symm
  · rfl
end
section
variable {R : Type}
noncomputable def S5 (k g : Nat) (a : List PV) (r : List RowS) (K : List PV → List RowS → Option R) : Option R := bif g == 21 then s21 k a r K else bif g == 25 then s25 k a r K else bif g == 26 then s26 k a r K else bif g == 27 then s27 k a r K else callC T F k g a r K
theorem S5_eq (k : Nat) : S5 (R := R) k = callC T F k := by
  funext g a r K
  exact pick_eq (fun e => by subst e; exact s21_eq k a r K) (pick_eq (fun e => by subst e; exact s25_eq k a r K) (pick_eq (fun e => by subst e; exact s26_eq k a r K) (pick_eq (fun e => by subst e; exact s27_eq k a r K) (rfl))))
theorem q5 (k : Nat) (a0 : Int) (a1 : Bool) (a2 : Int) (a3 : List Int) (a4 : Int) (K : List PV → List RowS → Option R) :
    execS T an5 (modesOf F) 0 k 44 (S5 k) (fun _ _ _ _ _ => none) (ending T Try.f5 an5 0 K) (bodyOf Try.f5) ⟨argEnv 0 [.val [] (.int .i64) a0, .val [] .bool a1, .val [] (.int .i64) a2, .val [(0, 0)] (.slice (.int .u8)) a3, .val [] (.int .i64) a4] (fun _ => none), rowsOf []⟩ (ending T Try.f5 an5 0 K) (fun _ _ => none) = f5d (k + 1) a0 a1 a2 a3 a4 (fun z0 => K [.val [] .bool z0] []) := by kernel_rfl
theorem e5 (k : Nat) (a0 : Int) (a1 : Bool) (a2 : Int) (a3 : List Int) (a4 : Int) (K : List PV → List RowS → Option R) : callC T F k 5 [.val [] (.int .i64) a0, .val [] .bool a1, .val [] (.int .i64) a2, .val [(0, 0)] (.slice (.int .u8)) a3, .val [] (.int .i64) a4] [] K = f5 k a0 a1 a2 a3 a4 (fun z0 => K [.val [] .bool z0] []) := by
  rw [f5_def]
  cases k with
  | zero => rfl
  | succ k =>
    refine Eq.trans (show _ = exec T an5 (modesOf F) 0 k 44 (callC T F k) (ending T Try.f5 an5 0 K) (bodyOf Try.f5) ⟨argEnv 0 [.val [] (.int .i64) a0, .val [] .bool a1, .val [] (.int .i64) a2, .val [(0, 0)] (.slice (.int .u8)) a3, .val [] (.int .i64) a4] (fun _ => none), rowsOf []⟩ (ending T Try.f5 an5 0 K) (fun _ _ => none) from by kernel_rfl) ?_
    rw [← S5_eq k, ← execS_eq T an5 (modesOf F) 0 k 44 (S5 k) (fun _ _ _ _ _ => none) (bodyOf Try.f5) (cuts_of _ _ _ _ _ _ _ _ (bodyOf Try.f5) (l := []) (by kernel_rfl) trivial)]
    exact q5 k a0 a1 a2 a3 a4 K
noncomputable def s5 (k : Nat) (a : List PV) (r : List RowS) (K : List PV → List RowS → Option R) : Option R := match a, r with
  | [.val [] (.int .i64) a0, .val [] .bool a1, .val [] (.int .i64) a2, .val [(0, 0)] (.slice (.int .u8)) a3, .val [] (.int .i64) a4], [] => f5 k a0 a1 a2 a3 a4 (fun z0 => K [.val [] .bool z0] [])
  | a, r => callC T F k 5 a r K
theorem s5_eq (k : Nat) (a : List PV) (r : List RowS) (K : List PV → List RowS → Option R) : s5 k a r K = callC T F k 5 a r K := by
  unfold s5
  split
  · exact (e5 k _ _ _ _ _ K).symm
  · rfl
end
section
variable {R : Type}
noncomputable def S72 (k g : Nat) (a : List PV) (r : List RowS) (K : List PV → List RowS → Option R) : Option R := callC T F k g a r K
theorem S72_eq (k : Nat) : S72 (R := R) k = callC T F k := by
  funext g a r K
  exact rfl
theorem q72 (k : Nat) (a0 : Int) (K : List PV → List RowS → Option R) :
    execS T an72 (modesOf F) 0 k 9 (S72 k) (fun _ _ _ _ _ => none) (ending T Try.f72 an72 0 K) (bodyOf Try.f72) ⟨argEnv 0 [.val [] (.int .i64) a0] (fun _ => none), rowsOf []⟩ (ending T Try.f72 an72 0 K) (fun _ _ => none) = f72d (k + 1) a0 (fun z0 => K [.rw 1] [⟨0, .arr [] (.int .u8) z0⟩]) := by kernel_rfl
theorem e72 (k : Nat) (a0 : Int) (K : List PV → List RowS → Option R) : callC T F k 72 [.val [] (.int .i64) a0] [] K = f72 k a0 (fun z0 => K [.rw 1] [⟨0, .arr [] (.int .u8) z0⟩]) := by
  rw [f72_def]
  cases k with
  | zero => rfl
  | succ k =>
    refine Eq.trans (show _ = exec T an72 (modesOf F) 0 k 9 (callC T F k) (ending T Try.f72 an72 0 K) (bodyOf Try.f72) ⟨argEnv 0 [.val [] (.int .i64) a0] (fun _ => none), rowsOf []⟩ (ending T Try.f72 an72 0 K) (fun _ _ => none) from by kernel_rfl) ?_
    rw [← S72_eq k, ← execS_eq T an72 (modesOf F) 0 k 9 (S72 k) (fun _ _ _ _ _ => none) (bodyOf Try.f72) (cuts_of _ _ _ _ _ _ _ _ (bodyOf Try.f72) (l := []) (by kernel_rfl) trivial)]
    exact q72 k a0 K
noncomputable def s72 (k : Nat) (a : List PV) (r : List RowS) (K : List PV → List RowS → Option R) : Option R := match a, r with
  | [.val [] (.int .i64) a0], [] => f72 k a0 (fun z0 => K [.rw 1] [⟨0, .arr [] (.int .u8) z0⟩])
  | a, r => callC T F k 72 a r K
theorem s72_eq (k : Nat) (a : List PV) (r : List RowS) (K : List PV → List RowS → Option R) : s72 k a r K = callC T F k 72 a r K := by
  unfold s72
  split
  · exact (e72 k _ K).symm
  · rfl
end
section
variable {R : Type}
noncomputable def S73 (k g : Nat) (a : List PV) (r : List RowS) (K : List PV → List RowS → Option R) : Option R := bif g == 19 then s19 k a r K else bif g == 72 then s72 k a r K else callC T F k g a r K
theorem S73_eq (k : Nat) : S73 (R := R) k = callC T F k := by
  funext g a r K
  exact pick_eq (fun e => by subst e; exact s19_eq k a r K) (pick_eq (fun e => by subst e; exact s72_eq k a r K) (rfl))
theorem q73 (k : Nat) (a0 : List Int) (K : List PV → List RowS → Option R) :
    execS T an73 (modesOf F) 1 k 8 (S73 k) (fun _ _ _ _ _ => none) (ending T Try.f73 an73 1 K) (bodyOf Try.f73) ⟨argEnv 0 [.rw 1] (fun _ => none), rowsOf [⟨0, .arr [] (.int .u8) a0⟩]⟩ (ending T Try.f73 an73 1 K) (fun _ _ => none) = f73d (k + 1) a0 (fun z0 => K [.rw 2] [⟨0, .gone⟩, ⟨0, .arr [] (.int .u8) z0⟩]) := by kernel_rfl
theorem e73 (k : Nat) (a0 : List Int) (K : List PV → List RowS → Option R) : callC T F k 73 [.rw 1] [⟨0, .arr [] (.int .u8) a0⟩] K = f73 k a0 (fun z0 => K [.rw 2] [⟨0, .gone⟩, ⟨0, .arr [] (.int .u8) z0⟩]) := by
  rw [f73_def]
  cases k with
  | zero => rfl
  | succ k =>
    refine Eq.trans (show _ = exec T an73 (modesOf F) 1 k 8 (callC T F k) (ending T Try.f73 an73 1 K) (bodyOf Try.f73) ⟨argEnv 0 [.rw 1] (fun _ => none), rowsOf [⟨0, .arr [] (.int .u8) a0⟩]⟩ (ending T Try.f73 an73 1 K) (fun _ _ => none) from by kernel_rfl) ?_
    rw [← S73_eq k, ← execS_eq T an73 (modesOf F) 1 k 8 (S73 k) (fun _ _ _ _ _ => none) (bodyOf Try.f73) (cuts_of _ _ _ _ _ _ _ _ (bodyOf Try.f73) (l := []) (by kernel_rfl) trivial)]
    exact q73 k a0 K
noncomputable def s73 (k : Nat) (a : List PV) (r : List RowS) (K : List PV → List RowS → Option R) : Option R := match a, r with
  | [.rw 1], [⟨0, .arr [] (.int .u8) a0⟩] => f73 k a0 (fun z0 => K [.rw 2] [⟨0, .gone⟩, ⟨0, .arr [] (.int .u8) z0⟩])
  | a, r => callC T F k 73 a r K
theorem s73_eq (k : Nat) (a : List PV) (r : List RowS) (K : List PV → List RowS → Option R) : s73 k a r K = callC T F k 73 a r K := by
  unfold s73
  split
  · exact (e73 k _ K).symm
  · rfl
end
section
variable {R : Type}
noncomputable def S70 (k g : Nat) (a : List PV) (r : List RowS) (K : List PV → List RowS → Option R) : Option R := bif g == 72 then s72 k a r K else bif g == 73 then s73 k a r K else callC T F k g a r K
theorem S70_eq (k : Nat) : S70 (R := R) k = callC T F k := by
  funext g a r K
  exact pick_eq (fun e => by subst e; exact s72_eq k a r K) (pick_eq (fun e => by subst e; exact s73_eq k a r K) (rfl))
section
variable {R : Type} (k : Nat) (K : List PV → List RowS → Option R)
noncomputable def L70_1000003 (ws : List PV) (rs : List RowS) (N : St → Option R) (X : Nat → St → Option R) : Option R := match ws, rs with
  | [.ptr 1 0, .val [] (.int .i64) v3_0, .val [] .bool v3_1], [⟨0, .vars [.val [] (.int .i64) v3_2, .val [] .bool v3_3, .val [] (.int .i64) v3_4, .val [] (.int .i64) v3_5, .val [(0, 0)] (.slice (.int .u8)) v3_6]⟩] => f70_1000003 k (fun yN_0 => N (sh fi70_3 [.ptr 1 0, .val [] (.int .i64) yN_0] [⟨0, .vars [.val [] (.int .i64) v3_2, .val [] .bool v3_3, .val [] (.int .i64) v3_4, .val [] (.int .i64) v3_5, .val [(0, 0)] (.slice (.int .u8)) v3_6]⟩])) v3_0 v3_1 v3_2 v3_3 v3_4 v3_5 v3_6
  | ws, rs => inner T an70 (modesOf F) 0 k 33 (S70 k) (ending T Try.f70 an70 0 K) cd70_1000003 (sh sp70_1000003 ws rs) N X
noncomputable def L70 (id : Nat) (ws : List PV) (rs : List RowS) (N : St → Option R) (X : Nat → St → Option R) : Option R := bif id == 1000003 then L70_1000003 k K ws rs N X else none
theorem b70_1000003 (N : St → Option R) (X : Nat → St → Option R) (v3_0 : Int) (v3_1 : Bool) (v3_2 : Int) (v3_3 : Bool) (v3_4 : Int) (v3_5 : Int) (v3_6 : List Int) :
    innerS T an70 (modesOf F) 0 k 33 (S70 k) (L70 k K) (ending T Try.f70 an70 0 K) cd70_1000003 (sh sp70_1000003 [.ptr 1 0, .val [] (.int .i64) v3_0, .val [] .bool v3_1] [⟨0, .vars [.val [] (.int .i64) v3_2, .val [] .bool v3_3, .val [] (.int .i64) v3_4, .val [] (.int .i64) v3_5, .val [(0, 0)] (.slice (.int .u8)) v3_6]⟩]) N X = f70_1000003d k (fun yN_0 => N (sh fi70_3 [.ptr 1 0, .val [] (.int .i64) yN_0] [⟨0, .vars [.val [] (.int .i64) v3_2, .val [] .bool v3_3, .val [] (.int .i64) v3_4, .val [] (.int .i64) v3_5, .val [(0, 0)] (.slice (.int .u8)) v3_6]⟩])) v3_0 v3_1 v3_2 v3_3 v3_4 v3_5 v3_6 := by kernel_rfl
theorem l70_1000003 (ws : List PV) (rs : List RowS) (N : St → Option R) (X : Nat → St → Option R) : L70 k K 1000003 ws rs N X = inner T an70 (modesOf F) 0 k 33 (S70 k) (ending T Try.f70 an70 0 K) cd70_1000003 (sh sp70_1000003 ws rs) N X := by
  show L70_1000003 k K ws rs N X = _
  unfold L70_1000003
  split
  rotate_left
  · rfl
  rename_i v3_0 v3_1 v3_2 v3_3 v3_4 v3_5 v3_6
  rw [f70_1000003_def]
  exact ((innerS_eq T an70 (modesOf F) 0 k 33 (S70 k) (L70 k K) cd70_1000003 (l := []) (by kernel_rfl) trivial _ N X).symm.trans (b70_1000003 k K N X v3_0 v3_1 v3_2 v3_3 v3_4 v3_5 v3_6)).symm
end
theorem q70 (k : Nat) (a0 : Int) (a1 : Bool) (a2 : Int) (a3 : Int) (a4 : List Int) (K : List PV → List RowS → Option R) :
    execS T an70 (modesOf F) 0 k 33 (S70 k) (L70 k K) (ending T Try.f70 an70 0 K) (bodyOf Try.f70) ⟨argEnv 0 [.agg [.val [] (.int .i64) a0, .val [] .bool a1, .val [] (.int .i64) a2, .val [] (.int .i64) a3, .val [(0, 0)] (.slice (.int .u8)) a4]] (fun _ => none), rowsOf []⟩ (ending T Try.f70 an70 0 K) (fun _ _ => none) = f70d (k + 1) a0 a1 a2 a3 a4 (fun z0 => K [.rw 1] [⟨0, .arr [] (.int .u8) z0⟩]) := by kernel_rfl
theorem e70 (k : Nat) (a0 : Int) (a1 : Bool) (a2 : Int) (a3 : Int) (a4 : List Int) (K : List PV → List RowS → Option R) : callC T F k 70 [.agg [.val [] (.int .i64) a0, .val [] .bool a1, .val [] (.int .i64) a2, .val [] (.int .i64) a3, .val [(0, 0)] (.slice (.int .u8)) a4]] [] K = f70 k a0 a1 a2 a3 a4 (fun z0 => K [.rw 1] [⟨0, .arr [] (.int .u8) z0⟩]) := by
  rw [f70_def]
  cases k with
  | zero => rfl
  | succ k =>
    refine Eq.trans (show _ = exec T an70 (modesOf F) 0 k 33 (callC T F k) (ending T Try.f70 an70 0 K) (bodyOf Try.f70) ⟨argEnv 0 [.agg [.val [] (.int .i64) a0, .val [] .bool a1, .val [] (.int .i64) a2, .val [] (.int .i64) a3, .val [(0, 0)] (.slice (.int .u8)) a4]] (fun _ => none), rowsOf []⟩ (ending T Try.f70 an70 0 K) (fun _ _ => none) from by kernel_rfl) ?_
    rw [← S70_eq k, ← execS_eq T an70 (modesOf F) 0 k 33 (S70 k) (L70 k K) (bodyOf Try.f70) (cuts_of _ _ _ _ _ _ _ _ (bodyOf Try.f70) (l := [(1000003, sp70_1000003, cd70_1000003)]) (by kernel_rfl) ⟨l70_1000003 k K, trivial⟩)]
    exact q70 k a0 a1 a2 a3 a4 K
noncomputable def s70 (k : Nat) (a : List PV) (r : List RowS) (K : List PV → List RowS → Option R) : Option R := match a, r with
  | [.agg [.val [] (.int .i64) a0, .val [] .bool a1, .val [] (.int .i64) a2, .val [] (.int .i64) a3, .val [(0, 0)] (.slice (.int .u8)) a4]], [] => f70 k a0 a1 a2 a3 a4 (fun z0 => K [.rw 1] [⟨0, .arr [] (.int .u8) z0⟩])
  | a, r => callC T F k 70 a r K
theorem s70_eq (k : Nat) (a : List PV) (r : List RowS) (K : List PV → List RowS → Option R) : s70 k a r K = callC T F k 70 a r K := by
  unfold s70
  split
  · exact (e70 k _ _ _ _ _ K).symm
  · rfl
end
section
variable {R : Type}
noncomputable def S28 (k g : Nat) (a : List PV) (r : List RowS) (K : List PV → List RowS → Option R) : Option R := bif g == 30 then s30 k a r K else bif g == 70 then s70 k a r K else callC T F k g a r K
theorem S28_eq (k : Nat) : S28 (R := R) k = callC T F k := by
  funext g a r K
  exact pick_eq (fun e => by subst e; exact s30_eq k a r K) (pick_eq (fun e => by subst e; exact s70_eq k a r K) (rfl))
theorem q28 (k : Nat) (a0 : Int) (a1 : Bool) (a2 : Int) (a3 : Int) (a4 : List Int) (K : List PV → List RowS → Option R) :
    execS T an28 (modesOf F) 0 k 12 (S28 k) (fun _ _ _ _ _ => none) (ending T Try.f28 an28 0 K) (bodyOf Try.f28) ⟨argEnv 0 [.agg [.val [] (.int .i64) a0, .val [] .bool a1, .val [] (.int .i64) a2, .val [] (.int .i64) a3, .val [(0, 0)] (.slice (.int .u8)) a4]] (fun _ => none), rowsOf []⟩ (ending T Try.f28 an28 0 K) (fun _ _ => none) = f28d (k + 1) a0 a1 a2 a3 a4 (fun z0 z1 => K [.rw 1, .val [] (.int .i64) z0] [⟨0, .arr [] (.int .u8) z1⟩]) := by kernel_rfl
theorem e28 (k : Nat) (a0 : Int) (a1 : Bool) (a2 : Int) (a3 : Int) (a4 : List Int) (K : List PV → List RowS → Option R) : callC T F k 28 [.agg [.val [] (.int .i64) a0, .val [] .bool a1, .val [] (.int .i64) a2, .val [] (.int .i64) a3, .val [(0, 0)] (.slice (.int .u8)) a4]] [] K = f28 k a0 a1 a2 a3 a4 (fun z0 z1 => K [.rw 1, .val [] (.int .i64) z0] [⟨0, .arr [] (.int .u8) z1⟩]) := by
  rw [f28_def]
  cases k with
  | zero => rfl
  | succ k =>
    refine Eq.trans (show _ = exec T an28 (modesOf F) 0 k 12 (callC T F k) (ending T Try.f28 an28 0 K) (bodyOf Try.f28) ⟨argEnv 0 [.agg [.val [] (.int .i64) a0, .val [] .bool a1, .val [] (.int .i64) a2, .val [] (.int .i64) a3, .val [(0, 0)] (.slice (.int .u8)) a4]] (fun _ => none), rowsOf []⟩ (ending T Try.f28 an28 0 K) (fun _ _ => none) from by kernel_rfl) ?_
    rw [← S28_eq k, ← execS_eq T an28 (modesOf F) 0 k 12 (S28 k) (fun _ _ _ _ _ => none) (bodyOf Try.f28) (cuts_of _ _ _ _ _ _ _ _ (bodyOf Try.f28) (l := []) (by kernel_rfl) trivial)]
    exact q28 k a0 a1 a2 a3 a4 K
noncomputable def s28 (k : Nat) (a : List PV) (r : List RowS) (K : List PV → List RowS → Option R) : Option R := match a, r with
  | [.agg [.val [] (.int .i64) a0, .val [] .bool a1, .val [] (.int .i64) a2, .val [] (.int .i64) a3, .val [(0, 0)] (.slice (.int .u8)) a4]], [] => f28 k a0 a1 a2 a3 a4 (fun z0 z1 => K [.rw 1, .val [] (.int .i64) z0] [⟨0, .arr [] (.int .u8) z1⟩])
  | a, r => callC T F k 28 a r K
theorem s28_eq (k : Nat) (a : List PV) (r : List RowS) (K : List PV → List RowS → Option R) : s28 k a r K = callC T F k 28 a r K := by
  unfold s28
  split
  · exact (e28 k _ _ _ _ _ K).symm
  · rfl
end
section
variable {R : Type}
noncomputable def S95 (k g : Nat) (a : List PV) (r : List RowS) (K : List PV → List RowS → Option R) : Option R := callC T F k g a r K
theorem S95_eq (k : Nat) : S95 (R := R) k = callC T F k := by
  funext g a r K
  exact rfl
theorem q95 (k : Nat) (a0 : Int) (K : List PV → List RowS → Option R) :
    execS T an95 (modesOf F) 0 k 9 (S95 k) (fun _ _ _ _ _ => none) (ending T Try.f95 an95 0 K) (bodyOf Try.f95) ⟨argEnv 0 [.val [] (.int .i64) a0] (fun _ => none), rowsOf []⟩ (ending T Try.f95 an95 0 K) (fun _ _ => none) = f95d (k + 1) a0 (fun z0 => K [.rw 1] [⟨0, .arr [] (.int .u8) z0⟩]) := by kernel_rfl
theorem e95 (k : Nat) (a0 : Int) (K : List PV → List RowS → Option R) : callC T F k 95 [.val [] (.int .i64) a0] [] K = f95 k a0 (fun z0 => K [.rw 1] [⟨0, .arr [] (.int .u8) z0⟩]) := by
  rw [f95_def]
  cases k with
  | zero => rfl
  | succ k =>
    refine Eq.trans (show _ = exec T an95 (modesOf F) 0 k 9 (callC T F k) (ending T Try.f95 an95 0 K) (bodyOf Try.f95) ⟨argEnv 0 [.val [] (.int .i64) a0] (fun _ => none), rowsOf []⟩ (ending T Try.f95 an95 0 K) (fun _ _ => none) from by kernel_rfl) ?_
    rw [← S95_eq k, ← execS_eq T an95 (modesOf F) 0 k 9 (S95 k) (fun _ _ _ _ _ => none) (bodyOf Try.f95) (cuts_of _ _ _ _ _ _ _ _ (bodyOf Try.f95) (l := []) (by kernel_rfl) trivial)]
    exact q95 k a0 K
noncomputable def s95 (k : Nat) (a : List PV) (r : List RowS) (K : List PV → List RowS → Option R) : Option R := match a, r with
  | [.val [] (.int .i64) a0], [] => f95 k a0 (fun z0 => K [.rw 1] [⟨0, .arr [] (.int .u8) z0⟩])
  | a, r => callC T F k 95 a r K
theorem s95_eq (k : Nat) (a : List PV) (r : List RowS) (K : List PV → List RowS → Option R) : s95 k a r K = callC T F k 95 a r K := by
  unfold s95
  split
  · exact (e95 k _ K).symm
  · rfl
end
section
variable {R : Type}
noncomputable def S78 (k g : Nat) (a : List PV) (r : List RowS) (K : List PV → List RowS → Option R) : Option R := callC T F k g a r K
theorem S78_eq (k : Nat) : S78 (R := R) k = callC T F k := by
  funext g a r K
  exact rfl
section
variable {R : Type} (k : Nat) (K : List PV → List RowS → Option R)
noncomputable def L78_1000002 (ws : List PV) (rs : List RowS) (N : St → Option R) (X : Nat → St → Option R) : Option R := match ws, rs with
  | [.nils, .val [] (.int .i64) v2_0, .val [] .bool v2_1], [] => f78_1000002 k (N (sh fi78_2 [.nils, .val [] (.int .i64) v2_0] [])) v2_0 v2_1
  | ws, rs => inner T an78 (modesOf F) 0 k 27 (S78 k) (ending T Try.f78 an78 0 K) cd78_1000002 (sh sp78_1000002 ws rs) N X
noncomputable def L78_1000005 (ws : List PV) (rs : List RowS) (N : St → Option R) (X : Nat → St → Option R) : Option R := match ws, rs with
  | [.nils, .val [] (.int .i64) v5_0, .val [] .bool v5_1], [] => f78_1000005 k (fun yN_0 => N (sh fi78_5 [.rw 1] [⟨0, .arr [] (.int .u8) yN_0⟩])) v5_0 v5_1
  | ws, rs => inner T an78 (modesOf F) 0 k 27 (S78 k) (ending T Try.f78 an78 0 K) cd78_1000005 (sh sp78_1000005 ws rs) N X
noncomputable def L78 (id : Nat) (ws : List PV) (rs : List RowS) (N : St → Option R) (X : Nat → St → Option R) : Option R := bif id == 1000002 then L78_1000002 k K ws rs N X else bif id == 1000005 then L78_1000005 k K ws rs N X else none
theorem b78_1000002 (N : St → Option R) (X : Nat → St → Option R) (v2_0 : Int) (v2_1 : Bool) :
    innerS T an78 (modesOf F) 0 k 27 (S78 k) (L78 k K) (ending T Try.f78 an78 0 K) cd78_1000002 (sh sp78_1000002 [.nils, .val [] (.int .i64) v2_0, .val [] .bool v2_1] []) N X = f78_1000002d k (N (sh fi78_2 [.nils, .val [] (.int .i64) v2_0] [])) v2_0 v2_1 := by kernel_rfl
theorem l78_1000002 (ws : List PV) (rs : List RowS) (N : St → Option R) (X : Nat → St → Option R) : L78 k K 1000002 ws rs N X = inner T an78 (modesOf F) 0 k 27 (S78 k) (ending T Try.f78 an78 0 K) cd78_1000002 (sh sp78_1000002 ws rs) N X := by
  show L78_1000002 k K ws rs N X = _
  unfold L78_1000002
  split
  rotate_left
  · rfl
  rename_i v2_0 v2_1
  rw [f78_1000002_def]
  exact ((innerS_eq T an78 (modesOf F) 0 k 27 (S78 k) (L78 k K) cd78_1000002 (l := []) (by kernel_rfl) trivial _ N X).symm.trans (b78_1000002 k K N X v2_0 v2_1)).symm
theorem b78_1000005 (N : St → Option R) (X : Nat → St → Option R) (v5_0 : Int) (v5_1 : Bool) :
    innerS T an78 (modesOf F) 0 k 27 (S78 k) (L78 k K) (ending T Try.f78 an78 0 K) cd78_1000005 (sh sp78_1000005 [.nils, .val [] (.int .i64) v5_0, .val [] .bool v5_1] []) N X = f78_1000005d k (fun yN_0 => N (sh fi78_5 [.rw 1] [⟨0, .arr [] (.int .u8) yN_0⟩])) v5_0 v5_1 := by kernel_rfl
theorem l78_1000005 (ws : List PV) (rs : List RowS) (N : St → Option R) (X : Nat → St → Option R) : L78 k K 1000005 ws rs N X = inner T an78 (modesOf F) 0 k 27 (S78 k) (ending T Try.f78 an78 0 K) cd78_1000005 (sh sp78_1000005 ws rs) N X := by
  show L78_1000005 k K ws rs N X = _
  unfold L78_1000005
  split
  rotate_left
  · rfl
  rename_i v5_0 v5_1
  rw [f78_1000005_def]
  exact ((innerS_eq T an78 (modesOf F) 0 k 27 (S78 k) (L78 k K) cd78_1000005 (l := []) (by kernel_rfl) trivial _ N X).symm.trans (b78_1000005 k K N X v5_0 v5_1)).symm
end
theorem q78 (k : Nat) (a0 : Int) (K : List PV → List RowS → Option R) :
    execS T an78 (modesOf F) 0 k 27 (S78 k) (L78 k K) (ending T Try.f78 an78 0 K) (bodyOf Try.f78) ⟨argEnv 0 [.nils, .val [] (.int .i64) a0] (fun _ => none), rowsOf []⟩ (ending T Try.f78 an78 0 K) (fun _ _ => none) = f78d (k + 1) a0 (fun z0 => K [.rw 1] [⟨0, .arr [] (.int .u8) z0⟩]) := by kernel_rfl
theorem e78 (k : Nat) (a0 : Int) (K : List PV → List RowS → Option R) : callC T F k 78 [.nils, .val [] (.int .i64) a0] [] K = f78 k a0 (fun z0 => K [.rw 1] [⟨0, .arr [] (.int .u8) z0⟩]) := by
  rw [f78_def]
  cases k with
  | zero => rfl
  | succ k =>
    refine Eq.trans (show _ = exec T an78 (modesOf F) 0 k 27 (callC T F k) (ending T Try.f78 an78 0 K) (bodyOf Try.f78) ⟨argEnv 0 [.nils, .val [] (.int .i64) a0] (fun _ => none), rowsOf []⟩ (ending T Try.f78 an78 0 K) (fun _ _ => none) from by kernel_rfl) ?_
    rw [← S78_eq k, ← execS_eq T an78 (modesOf F) 0 k 27 (S78 k) (L78 k K) (bodyOf Try.f78) (cuts_of _ _ _ _ _ _ _ _ (bodyOf Try.f78) (l := [(1000002, sp78_1000002, cd78_1000002), (1000005, sp78_1000005, cd78_1000005)]) (by kernel_rfl) ⟨l78_1000002 k K, l78_1000005 k K, trivial⟩)]
    exact q78 k a0 K
noncomputable def s78 (k : Nat) (a : List PV) (r : List RowS) (K : List PV → List RowS → Option R) : Option R := match a, r with
  | [.nils, .val [] (.int .i64) a0], [] => f78 k a0 (fun z0 => K [.rw 1] [⟨0, .arr [] (.int .u8) z0⟩])
  | a, r => callC T F k 78 a r K
theorem s78_eq (k : Nat) (a : List PV) (r : List RowS) (K : List PV → List RowS → Option R) : s78 k a r K = callC T F k 78 a r K := by
  unfold s78
  split
  · exact (e78 k _ K).symm
  · rfl
end
section
variable {R : Type}
noncomputable def S40 (k g : Nat) (a : List PV) (r : List RowS) (K : List PV → List RowS → Option R) : Option R := bif g == 78 then s78 k a r K else callC T F k g a r K
theorem S40_eq (k : Nat) : S40 (R := R) k = callC T F k := by
  funext g a r K
  exact pick_eq (fun e => by subst e; exact s78_eq k a r K) (rfl)
section
variable {R : Type} (k : Nat) (K : List PV → List RowS → Option R)
noncomputable def L40_1000007 (ws : List PV) (rs : List RowS) (N : St → Option R) (X : Nat → St → Option R) : Option R := match ws, rs with
  | [.val [(0, 0)] (.slice (.slice (.int .u8))) v7_0, .val [] (.int .i64) v7_1, .val [(0, 0)] (.slice (.slice (.int .u8))) v7_2, .val [] (.int .i64) v7_3, .val [] (.int .i64) v7_4, .val [] .bool v7_5], [] => f40_1000007 k (N (sh fi40_7 [.val [(0, 0)] (.slice (.slice (.int .u8))) v7_0, .val [] (.int .i64) v7_1, .val [(0, 0)] (.slice (.slice (.int .u8))) v7_2, .val [] (.int .i64) v7_3, .val [] (.int .i64) v7_4] [])) v7_0 v7_1 v7_2 v7_3 v7_4 v7_5
  | ws, rs => inner T an40 (modesOf F) 0 k 36 (S40 k) (ending T Try.f40 an40 0 K) cd40_1000007 (sh sp40_1000007 ws rs) N X
noncomputable def L40_0 (ws : List PV) (rs : List RowS) (N : St → Option R) (X : Nat → St → Option R) : Option R := match ws, rs with
  | [.val [(0, 0)] (.slice (.slice (.int .u8))) v0_0, .val [] (.int .i64) v0_1, .val [(0, 0)] (.slice (.slice (.int .u8))) v0_2, .val [] (.int .i64) v0_3, .val [] (.int .i64) v0_4], [] => f40_0 k (fun y0_1 => N (sh jn40_0 [.val [(0, 0)] (.slice (.slice (.int .u8))) v0_0, .val [] (.int .i64) y0_1] [])) v0_0 v0_2 v0_3 k v0_1 v0_4
  | ws, rs => inner T an40 (modesOf F) 0 k 36 (S40 k) (ending T Try.f40 an40 0 K) cd40_0 (sh sp40_0 ws rs) N X
noncomputable def L40_2 (ws : List PV) (rs : List RowS) (N : St → Option R) (X : Nat → St → Option R) : Option R := match ws, rs with
  | [.rw 1, .val [(0, 0)] (.slice (.slice (.int .u8))) v2_0, .val [] (.int .i64) v2_1, .val [] (.int .i64) v2_2], [⟨0, .arr [] (.int .u8) v2_3⟩] => f40_2 k (fun y2_0 => N (sh jn40_2 [.rw 1] [⟨0, .arr [] (.int .u8) y2_0⟩])) v2_0 v2_1 k v2_2 v2_3
  | ws, rs => inner T an40 (modesOf F) 0 k 36 (S40 k) (ending T Try.f40 an40 0 K) cd40_2 (sh sp40_2 ws rs) N X
noncomputable def L40 (id : Nat) (ws : List PV) (rs : List RowS) (N : St → Option R) (X : Nat → St → Option R) : Option R := bif id == 1000007 then L40_1000007 k K ws rs N X else bif id == 0 then L40_0 k K ws rs N X else bif id == 2 then L40_2 k K ws rs N X else none
theorem b40_1000007 (N : St → Option R) (X : Nat → St → Option R) (v7_0 : List (List Int)) (v7_1 : Int) (v7_2 : List (List Int)) (v7_3 : Int) (v7_4 : Int) (v7_5 : Bool) :
    innerS T an40 (modesOf F) 0 k 36 (S40 k) (L40 k K) (ending T Try.f40 an40 0 K) cd40_1000007 (sh sp40_1000007 [.val [(0, 0)] (.slice (.slice (.int .u8))) v7_0, .val [] (.int .i64) v7_1, .val [(0, 0)] (.slice (.slice (.int .u8))) v7_2, .val [] (.int .i64) v7_3, .val [] (.int .i64) v7_4, .val [] .bool v7_5] []) N X = f40_1000007d k (N (sh fi40_7 [.val [(0, 0)] (.slice (.slice (.int .u8))) v7_0, .val [] (.int .i64) v7_1, .val [(0, 0)] (.slice (.slice (.int .u8))) v7_2, .val [] (.int .i64) v7_3, .val [] (.int .i64) v7_4] [])) v7_0 v7_1 v7_2 v7_3 v7_4 v7_5 := by kernel_rfl
theorem l40_1000007 (ws : List PV) (rs : List RowS) (N : St → Option R) (X : Nat → St → Option R) : L40 k K 1000007 ws rs N X = inner T an40 (modesOf F) 0 k 36 (S40 k) (ending T Try.f40 an40 0 K) cd40_1000007 (sh sp40_1000007 ws rs) N X := by
  show L40_1000007 k K ws rs N X = _
  unfold L40_1000007
  split
  rotate_left
  · rfl
  rename_i v7_0 v7_1 v7_2 v7_3 v7_4 v7_5
  rw [f40_1000007_def]
  exact ((innerS_eq T an40 (modesOf F) 0 k 36 (S40 k) (L40 k K) cd40_1000007 (l := []) (by kernel_rfl) trivial _ N X).symm.trans (b40_1000007 k K N X v7_0 v7_1 v7_2 v7_3 v7_4 v7_5)).symm
theorem b40_0 (rec : St → Option R) (N : St → Option R) (X : Nat → St → Option R) (v0_0 : List (List Int)) (v0_2 : List (List Int)) (v0_3 : Int) (v0_1 : Int) (v0_4 : Int) :
    execS T an40 (modesOf F) 0 k 36 (S40 k) (L40 k K) (ending T Try.f40 an40 0 K) bd40_0 (sh sp40_0 [.val [(0, 0)] (.slice (.slice (.int .u8))) v0_0, .val [] (.int .i64) v0_1, .val [(0, 0)] (.slice (.slice (.int .u8))) v0_2, .val [] (.int .i64) v0_3, .val [] (.int .i64) v0_4] []) (fun st => atHead an40 0 bd40_0 st rec) (outX an40 0 0 N X) =
      f40_0b k (fun v0_1 v0_4 => rec (sh sp40_0 [.val [(0, 0)] (.slice (.slice (.int .u8))) v0_0, .val [] (.int .i64) v0_1, .val [(0, 0)] (.slice (.slice (.int .u8))) v0_2, .val [] (.int .i64) v0_3, .val [] (.int .i64) v0_4] [])) (fun y0_1 => N (sh jn40_0 [.val [(0, 0)] (.slice (.slice (.int .u8))) v0_0, .val [] (.int .i64) y0_1] [])) v0_0 v0_2 v0_3 v0_1 v0_4 := by kernel_rfl
theorem i40_0 (N : St → Option R) (X : Nat → St → Option R) (v0_0 : List (List Int)) (v0_2 : List (List Int)) (v0_3 : Int) (m : Nat) : ∀ (v0_1 : Int) (v0_4 : Int),
    iter (atHead an40 0 bd40_0) m (fun st N' => exec T an40 (modesOf F) 0 k 36 (S40 k) (ending T Try.f40 an40 0 K) bd40_0 st N' (outX an40 0 0 N X)) (sh sp40_0 [.val [(0, 0)] (.slice (.slice (.int .u8))) v0_0, .val [] (.int .i64) v0_1, .val [(0, 0)] (.slice (.slice (.int .u8))) v0_2, .val [] (.int .i64) v0_3, .val [] (.int .i64) v0_4] []) = f40_0d k (fun y0_1 => N (sh jn40_0 [.val [(0, 0)] (.slice (.slice (.int .u8))) v0_0, .val [] (.int .i64) y0_1] [])) v0_0 v0_2 v0_3 m v0_1 v0_4 := by
  induction m with
  | zero => intros; rfl
  | succ m ih =>
    intro v0_1 v0_4
    simp only [iter]
    rw [← execS_eq T an40 (modesOf F) 0 k 36 (S40 k) (L40 k K) bd40_0 (cuts_of _ _ _ _ _ _ _ _ bd40_0 (l := [(1000007, sp40_1000007, cd40_1000007)]) (by kernel_rfl) ⟨l40_1000007 k K, trivial⟩)]
    refine (b40_0 k K _ N X v0_0 v0_2 v0_3 v0_1 v0_4).trans ?_
    simp only [f40_0d, ih]
theorem l40_0 (ws : List PV) (rs : List RowS) (N : St → Option R) (X : Nat → St → Option R) : L40 k K 0 ws rs N X = inner T an40 (modesOf F) 0 k 36 (S40 k) (ending T Try.f40 an40 0 K) cd40_0 (sh sp40_0 ws rs) N X := by
  show L40_0 k K ws rs N X = _
  unfold L40_0
  split
  rotate_left
  · rfl
  rename_i v0_0 v0_1 v0_2 v0_3 v0_4
  rw [f40_0_def]
  refine Eq.trans ?_ (show iter (atHead an40 0 bd40_0) k (fun st N' => exec T an40 (modesOf F) 0 k 36 (S40 k) (ending T Try.f40 an40 0 K) bd40_0 st N' (outX an40 0 0 N X)) (sh sp40_0 [.val [(0, 0)] (.slice (.slice (.int .u8))) v0_0, .val [] (.int .i64) v0_1, .val [(0, 0)] (.slice (.slice (.int .u8))) v0_2, .val [] (.int .i64) v0_3, .val [] (.int .i64) v0_4] []) = _ from by kernel_rfl)
  exact (i40_0 k K N X v0_0 v0_2 v0_3 k v0_1 v0_4).symm
theorem b40_2 (rec : St → Option R) (N : St → Option R) (X : Nat → St → Option R) (v2_0 : List (List Int)) (v2_1 : Int) (v2_2 : Int) (v2_3 : List Int) :
    execS T an40 (modesOf F) 0 k 36 (S40 k) (L40 k K) (ending T Try.f40 an40 0 K) bd40_2 (sh sp40_2 [.rw 1, .val [(0, 0)] (.slice (.slice (.int .u8))) v2_0, .val [] (.int .i64) v2_1, .val [] (.int .i64) v2_2] [⟨0, .arr [] (.int .u8) v2_3⟩]) (fun st => atHead an40 0 bd40_2 st rec) (outX an40 0 2 N X) =
      f40_2b k (fun v2_2 v2_3 => rec (sh sp40_2 [.rw 1, .val [(0, 0)] (.slice (.slice (.int .u8))) v2_0, .val [] (.int .i64) v2_1, .val [] (.int .i64) v2_2] [⟨0, .arr [] (.int .u8) v2_3⟩])) (fun y2_0 => N (sh jn40_2 [.rw 1] [⟨0, .arr [] (.int .u8) y2_0⟩])) v2_0 v2_1 v2_2 v2_3 := by kernel_rfl
theorem i40_2 (N : St → Option R) (X : Nat → St → Option R) (v2_0 : List (List Int)) (v2_1 : Int) (m : Nat) : ∀ (v2_2 : Int) (v2_3 : List Int),
    iter (atHead an40 0 bd40_2) m (fun st N' => exec T an40 (modesOf F) 0 k 36 (S40 k) (ending T Try.f40 an40 0 K) bd40_2 st N' (outX an40 0 2 N X)) (sh sp40_2 [.rw 1, .val [(0, 0)] (.slice (.slice (.int .u8))) v2_0, .val [] (.int .i64) v2_1, .val [] (.int .i64) v2_2] [⟨0, .arr [] (.int .u8) v2_3⟩]) = f40_2d k (fun y2_0 => N (sh jn40_2 [.rw 1] [⟨0, .arr [] (.int .u8) y2_0⟩])) v2_0 v2_1 m v2_2 v2_3 := by
  induction m with
  | zero => intros; rfl
  | succ m ih =>
    intro v2_2 v2_3
    simp only [iter]
    rw [← execS_eq T an40 (modesOf F) 0 k 36 (S40 k) (L40 k K) bd40_2 (cuts_of _ _ _ _ _ _ _ _ bd40_2 (l := []) (by kernel_rfl) trivial)]
    refine (b40_2 k K _ N X v2_0 v2_1 v2_2 v2_3).trans ?_
    simp only [f40_2d, ih]
theorem l40_2 (ws : List PV) (rs : List RowS) (N : St → Option R) (X : Nat → St → Option R) : L40 k K 2 ws rs N X = inner T an40 (modesOf F) 0 k 36 (S40 k) (ending T Try.f40 an40 0 K) cd40_2 (sh sp40_2 ws rs) N X := by
  show L40_2 k K ws rs N X = _
  unfold L40_2
  split
  rotate_left
  · rfl
  rename_i v2_0 v2_1 v2_2 v2_3
  rw [f40_2_def]
  refine Eq.trans ?_ (show iter (atHead an40 0 bd40_2) k (fun st N' => exec T an40 (modesOf F) 0 k 36 (S40 k) (ending T Try.f40 an40 0 K) bd40_2 st N' (outX an40 0 2 N X)) (sh sp40_2 [.rw 1, .val [(0, 0)] (.slice (.slice (.int .u8))) v2_0, .val [] (.int .i64) v2_1, .val [] (.int .i64) v2_2] [⟨0, .arr [] (.int .u8) v2_3⟩]) = _ from by kernel_rfl)
  exact (i40_2 k K N X v2_0 v2_1 k v2_2 v2_3).symm
end
theorem q40 (k : Nat) (a0 : List (List Int)) (K : List PV → List RowS → Option R) :
    execS T an40 (modesOf F) 0 k 36 (S40 k) (L40 k K) (ending T Try.f40 an40 0 K) (bodyOf Try.f40) ⟨argEnv 0 [.val [(0, 0)] (.slice (.slice (.int .u8))) a0] (fun _ => none), rowsOf []⟩ (ending T Try.f40 an40 0 K) (fun _ _ => none) = f40d (k + 1) a0 (fun z0 => K [.rw 1] [⟨0, .arr [] (.int .u8) z0⟩]) := by kernel_rfl
theorem e40 (k : Nat) (a0 : List (List Int)) (K : List PV → List RowS → Option R) : callC T F k 40 [.val [(0, 0)] (.slice (.slice (.int .u8))) a0] [] K = f40 k a0 (fun z0 => K [.rw 1] [⟨0, .arr [] (.int .u8) z0⟩]) := by
  rw [f40_def]
  cases k with
  | zero => rfl
  | succ k =>
    refine Eq.trans (show _ = exec T an40 (modesOf F) 0 k 36 (callC T F k) (ending T Try.f40 an40 0 K) (bodyOf Try.f40) ⟨argEnv 0 [.val [(0, 0)] (.slice (.slice (.int .u8))) a0] (fun _ => none), rowsOf []⟩ (ending T Try.f40 an40 0 K) (fun _ _ => none) from by kernel_rfl) ?_
    rw [← S40_eq k, ← execS_eq T an40 (modesOf F) 0 k 36 (S40 k) (L40 k K) (bodyOf Try.f40) (cuts_of _ _ _ _ _ _ _ _ (bodyOf Try.f40) (l := [(0, sp40_0, cd40_0), (2, sp40_2, cd40_2)]) (by kernel_rfl) ⟨l40_0 k K, l40_2 k K, trivial⟩)]
    exact q40 k a0 K
noncomputable def s40 (k : Nat) (a : List PV) (r : List RowS) (K : List PV → List RowS → Option R) : Option R := match a, r with
  | [.val [(0, 0)] (.slice (.slice (.int .u8))) a0], [] => f40 k a0 (fun z0 => K [.rw 1] [⟨0, .arr [] (.int .u8) z0⟩])
  | a, r => callC T F k 40 a r K
theorem s40_eq (k : Nat) (a : List PV) (r : List RowS) (K : List PV → List RowS → Option R) : s40 k a r K = callC T F k 40 a r K := by
  unfold s40
  split
  · exact (e40 k _ K).symm
  · rfl
end
section
variable {R : Type}
noncomputable def S71 (k g : Nat) (a : List PV) (r : List RowS) (K : List PV → List RowS → Option R) : Option R := bif g == 20 then s20 k a r K else bif g == 40 then s40 k a r K else bif g == 95 then s95 k a r K else callC T F k g a r K
theorem S71_eq (k : Nat) : S71 (R := R) k = callC T F k := by
  funext g a r K
  exact pick_eq (fun e => by subst e; exact s20_eq k a r K) (pick_eq (fun e => by subst e; exact s40_eq k a r K) (pick_eq (fun e => by subst e; exact s95_eq k a r K) (rfl)))
section
variable {R : Type} (k : Nat) (K : List PV → List RowS → Option R)
noncomputable def L71_1000003 (ws : List PV) (rs : List RowS) (N : St → Option R) (X : Nat → St → Option R) : Option R := match ws, rs with
  | [.ptr 1 0, .val [] (.int .i64) v3_0, .val [] .bool v3_1], [⟨0, .vars [.val [] (.int .i64) v3_2, .val [] .bool v3_3, .val [] (.int .i64) v3_4, .val [] (.int .i64) v3_5, .val [(0, 0)] (.slice (.int .u8)) v3_6]⟩] => f71_1000003 k (fun yN_0 => N (sh fi71_3 [.ptr 1 0, .val [] (.int .i64) yN_0] [⟨0, .vars [.val [] (.int .i64) v3_2, .val [] .bool v3_3, .val [] (.int .i64) v3_4, .val [] (.int .i64) v3_5, .val [(0, 0)] (.slice (.int .u8)) v3_6]⟩])) v3_0 v3_1 v3_2 v3_3 v3_4 v3_5 v3_6
  | ws, rs => inner T an71 (modesOf F) 0 k 34 (S71 k) (ending T Try.f71 an71 0 K) cd71_1000003 (sh sp71_1000003 ws rs) N X
noncomputable def L71 (id : Nat) (ws : List PV) (rs : List RowS) (N : St → Option R) (X : Nat → St → Option R) : Option R := bif id == 1000003 then L71_1000003 k K ws rs N X else none
theorem b71_1000003 (N : St → Option R) (X : Nat → St → Option R) (v3_0 : Int) (v3_1 : Bool) (v3_2 : Int) (v3_3 : Bool) (v3_4 : Int) (v3_5 : Int) (v3_6 : List Int) :
    innerS T an71 (modesOf F) 0 k 34 (S71 k) (L71 k K) (ending T Try.f71 an71 0 K) cd71_1000003 (sh sp71_1000003 [.ptr 1 0, .val [] (.int .i64) v3_0, .val [] .bool v3_1] [⟨0, .vars [.val [] (.int .i64) v3_2, .val [] .bool v3_3, .val [] (.int .i64) v3_4, .val [] (.int .i64) v3_5, .val [(0, 0)] (.slice (.int .u8)) v3_6]⟩]) N X = f71_1000003d k (fun yN_0 => N (sh fi71_3 [.ptr 1 0, .val [] (.int .i64) yN_0] [⟨0, .vars [.val [] (.int .i64) v3_2, .val [] .bool v3_3, .val [] (.int .i64) v3_4, .val [] (.int .i64) v3_5, .val [(0, 0)] (.slice (.int .u8)) v3_6]⟩])) v3_0 v3_1 v3_2 v3_3 v3_4 v3_5 v3_6 := by kernel_rfl
theorem l71_1000003 (ws : List PV) (rs : List RowS) (N : St → Option R) (X : Nat → St → Option R) : L71 k K 1000003 ws rs N X = inner T an71 (modesOf F) 0 k 34 (S71 k) (ending T Try.f71 an71 0 K) cd71_1000003 (sh sp71_1000003 ws rs) N X := by
  show L71_1000003 k K ws rs N X = _
  unfold L71_1000003
  split
  rotate_left
  · rfl
  rename_i v3_0 v3_1 v3_2 v3_3 v3_4 v3_5 v3_6
  rw [f71_1000003_def]
  exact ((innerS_eq T an71 (modesOf F) 0 k 34 (S71 k) (L71 k K) cd71_1000003 (l := []) (by kernel_rfl) trivial _ N X).symm.trans (b71_1000003 k K N X v3_0 v3_1 v3_2 v3_3 v3_4 v3_5 v3_6)).symm
end
theorem q71 (k : Nat) (a0 : Int) (a1 : Bool) (a2 : Int) (a3 : Int) (a4 : List Int) (K : List PV → List RowS → Option R) :
    execS T an71 (modesOf F) 0 k 34 (S71 k) (L71 k K) (ending T Try.f71 an71 0 K) (bodyOf Try.f71) ⟨argEnv 0 [.agg [.val [] (.int .i64) a0, .val [] .bool a1, .val [] (.int .i64) a2, .val [] (.int .i64) a3, .val [(0, 0)] (.slice (.int .u8)) a4]] (fun _ => none), rowsOf []⟩ (ending T Try.f71 an71 0 K) (fun _ _ => none) = f71d (k + 1) a0 a1 a2 a3 a4 (fun z0 => K [.rw 1] [⟨0, .arr [] (.int .u8) z0⟩]) := by kernel_rfl
theorem e71 (k : Nat) (a0 : Int) (a1 : Bool) (a2 : Int) (a3 : Int) (a4 : List Int) (K : List PV → List RowS → Option R) : callC T F k 71 [.agg [.val [] (.int .i64) a0, .val [] .bool a1, .val [] (.int .i64) a2, .val [] (.int .i64) a3, .val [(0, 0)] (.slice (.int .u8)) a4]] [] K = f71 k a0 a1 a2 a3 a4 (fun z0 => K [.rw 1] [⟨0, .arr [] (.int .u8) z0⟩]) := by
  rw [f71_def]
  cases k with
  | zero => rfl
  | succ k =>
    refine Eq.trans (show _ = exec T an71 (modesOf F) 0 k 34 (callC T F k) (ending T Try.f71 an71 0 K) (bodyOf Try.f71) ⟨argEnv 0 [.agg [.val [] (.int .i64) a0, .val [] .bool a1, .val [] (.int .i64) a2, .val [] (.int .i64) a3, .val [(0, 0)] (.slice (.int .u8)) a4]] (fun _ => none), rowsOf []⟩ (ending T Try.f71 an71 0 K) (fun _ _ => none) from by kernel_rfl) ?_
    rw [← S71_eq k, ← execS_eq T an71 (modesOf F) 0 k 34 (S71 k) (L71 k K) (bodyOf Try.f71) (cuts_of _ _ _ _ _ _ _ _ (bodyOf Try.f71) (l := [(1000003, sp71_1000003, cd71_1000003)]) (by kernel_rfl) ⟨l71_1000003 k K, trivial⟩)]
    exact q71 k a0 a1 a2 a3 a4 K
noncomputable def s71 (k : Nat) (a : List PV) (r : List RowS) (K : List PV → List RowS → Option R) : Option R := match a, r with
  | [.agg [.val [] (.int .i64) a0, .val [] .bool a1, .val [] (.int .i64) a2, .val [] (.int .i64) a3, .val [(0, 0)] (.slice (.int .u8)) a4]], [] => f71 k a0 a1 a2 a3 a4 (fun z0 => K [.rw 1] [⟨0, .arr [] (.int .u8) z0⟩])
  | a, r => callC T F k 71 a r K
theorem s71_eq (k : Nat) (a : List PV) (r : List RowS) (K : List PV → List RowS → Option R) : s71 k a r K = callC T F k 71 a r K := by
  unfold s71
  split
  · exact (e71 k _ _ _ _ _ K).symm
  · rfl
end
section
variable {R : Type}
noncomputable def S29 (k g : Nat) (a : List PV) (r : List RowS) (K : List PV → List RowS → Option R) : Option R := bif g == 31 then s31 k a r K else bif g == 71 then s71 k a r K else callC T F k g a r K
theorem S29_eq (k : Nat) : S29 (R := R) k = callC T F k := by
  funext g a r K
  exact pick_eq (fun e => by subst e; exact s31_eq k a r K) (pick_eq (fun e => by subst e; exact s71_eq k a r K) (rfl))
theorem q29 (k : Nat) (a0 : Int) (a1 : Bool) (a2 : Int) (a3 : Int) (a4 : List Int) (K : List PV → List RowS → Option R) :
    execS T an29 (modesOf F) 0 k 12 (S29 k) (fun _ _ _ _ _ => none) (ending T Try.f29 an29 0 K) (bodyOf Try.f29) ⟨argEnv 0 [.agg [.val [] (.int .i64) a0, .val [] .bool a1, .val [] (.int .i64) a2, .val [] (.int .i64) a3, .val [(0, 0)] (.slice (.int .u8)) a4]] (fun _ => none), rowsOf []⟩ (ending T Try.f29 an29 0 K) (fun _ _ => none) = f29d (k + 1) a0 a1 a2 a3 a4 (fun z0 z1 => K [.rw 1, .val [] (.int .i64) z0] [⟨0, .arr [] (.int .u8) z1⟩]) := by kernel_rfl
theorem e29 (k : Nat) (a0 : Int) (a1 : Bool) (a2 : Int) (a3 : Int) (a4 : List Int) (K : List PV → List RowS → Option R) : callC T F k 29 [.agg [.val [] (.int .i64) a0, .val [] .bool a1, .val [] (.int .i64) a2, .val [] (.int .i64) a3, .val [(0, 0)] (.slice (.int .u8)) a4]] [] K = f29 k a0 a1 a2 a3 a4 (fun z0 z1 => K [.rw 1, .val [] (.int .i64) z0] [⟨0, .arr [] (.int .u8) z1⟩]) := by
  rw [f29_def]
  cases k with
  | zero => rfl
  | succ k =>
    refine Eq.trans (show _ = exec T an29 (modesOf F) 0 k 12 (callC T F k) (ending T Try.f29 an29 0 K) (bodyOf Try.f29) ⟨argEnv 0 [.agg [.val [] (.int .i64) a0, .val [] .bool a1, .val [] (.int .i64) a2, .val [] (.int .i64) a3, .val [(0, 0)] (.slice (.int .u8)) a4]] (fun _ => none), rowsOf []⟩ (ending T Try.f29 an29 0 K) (fun _ _ => none) from by kernel_rfl) ?_
    rw [← S29_eq k, ← execS_eq T an29 (modesOf F) 0 k 12 (S29 k) (fun _ _ _ _ _ => none) (bodyOf Try.f29) (cuts_of _ _ _ _ _ _ _ _ (bodyOf Try.f29) (l := []) (by kernel_rfl) trivial)]
    exact q29 k a0 a1 a2 a3 a4 K
noncomputable def s29 (k : Nat) (a : List PV) (r : List RowS) (K : List PV → List RowS → Option R) : Option R := match a, r with
  | [.agg [.val [] (.int .i64) a0, .val [] .bool a1, .val [] (.int .i64) a2, .val [] (.int .i64) a3, .val [(0, 0)] (.slice (.int .u8)) a4]], [] => f29 k a0 a1 a2 a3 a4 (fun z0 z1 => K [.rw 1, .val [] (.int .i64) z0] [⟨0, .arr [] (.int .u8) z1⟩])
  | a, r => callC T F k 29 a r K
theorem s29_eq (k : Nat) (a : List PV) (r : List RowS) (K : List PV → List RowS → Option R) : s29 k a r K = callC T F k 29 a r K := by
  unfold s29
  split
  · exact (e29 k _ _ _ _ _ K).symm
  · rfl
end
section
variable {R : Type}
noncomputable def S6 (k g : Nat) (a : List PV) (r : List RowS) (K : List PV → List RowS → Option R) : Option R := bif g == 21 then s21 k a r K else bif g == 28 then s28 k a r K else bif g == 29 then s29 k a r K else bif g == 30 then s30 k a r K else bif g == 31 then s31 k a r K else bif g == 32 then s32 k a r K else callC T F k g a r K
theorem S6_eq (k : Nat) : S6 (R := R) k = callC T F k := by
  funext g a r K
  exact pick_eq (fun e => by subst e; exact s21_eq k a r K) (pick_eq (fun e => by subst e; exact s28_eq k a r K) (pick_eq (fun e => by subst e; exact s29_eq k a r K) (pick_eq (fun e => by subst e; exact s30_eq k a r K) (pick_eq (fun e => by subst e; exact s31_eq k a r K) (pick_eq (fun e => by subst e; exact s32_eq k a r K) (rfl))))))
theorem q6 (k : Nat) (a0 : Int) (a1 : Bool) (a2 : Int) (a3 : Int) (a4 : List Int) (K : List PV → List RowS → Option R) :
    execS T an6 (modesOf F) 0 k 35 (S6 k) (fun _ _ _ _ _ => none) (ending T Try.f6 an6 0 K) (bodyOf Try.f6) ⟨argEnv 0 [.agg [.val [] (.int .i64) a0, .val [] .bool a1, .val [] (.int .i64) a2, .val [] (.int .i64) a3, .val [(0, 0)] (.slice (.int .u8)) a4]] (fun _ => none), rowsOf []⟩ (ending T Try.f6 an6 0 K) (fun _ _ => none) = f6d (k + 1) a0 a1 a2 a3 a4 (fun z0 => K [.val [] .bool z0] []) := by kernel_rfl
theorem e6 (k : Nat) (a0 : Int) (a1 : Bool) (a2 : Int) (a3 : Int) (a4 : List Int) (K : List PV → List RowS → Option R) : callC T F k 6 [.agg [.val [] (.int .i64) a0, .val [] .bool a1, .val [] (.int .i64) a2, .val [] (.int .i64) a3, .val [(0, 0)] (.slice (.int .u8)) a4]] [] K = f6 k a0 a1 a2 a3 a4 (fun z0 => K [.val [] .bool z0] []) := by
  rw [f6_def]
  cases k with
  | zero => rfl
  | succ k =>
    refine Eq.trans (show _ = exec T an6 (modesOf F) 0 k 35 (callC T F k) (ending T Try.f6 an6 0 K) (bodyOf Try.f6) ⟨argEnv 0 [.agg [.val [] (.int .i64) a0, .val [] .bool a1, .val [] (.int .i64) a2, .val [] (.int .i64) a3, .val [(0, 0)] (.slice (.int .u8)) a4]] (fun _ => none), rowsOf []⟩ (ending T Try.f6 an6 0 K) (fun _ _ => none) from by kernel_rfl) ?_
    rw [← S6_eq k, ← execS_eq T an6 (modesOf F) 0 k 35 (S6 k) (fun _ _ _ _ _ => none) (bodyOf Try.f6) (cuts_of _ _ _ _ _ _ _ _ (bodyOf Try.f6) (l := []) (by kernel_rfl) trivial)]
    exact q6 k a0 a1 a2 a3 a4 K
noncomputable def s6 (k : Nat) (a : List PV) (r : List RowS) (K : List PV → List RowS → Option R) : Option R := match a, r with
  | [.agg [.val [] (.int .i64) a0, .val [] .bool a1, .val [] (.int .i64) a2, .val [] (.int .i64) a3, .val [(0, 0)] (.slice (.int .u8)) a4]], [] => f6 k a0 a1 a2 a3 a4 (fun z0 => K [.val [] .bool z0] [])
  | a, r => callC T F k 6 a r K
theorem s6_eq (k : Nat) (a : List PV) (r : List RowS) (K : List PV → List RowS → Option R) : s6 k a r K = callC T F k 6 a r K := by
  unfold s6
  split
  · exact (e6 k _ _ _ _ _ K).symm
  · rfl
end
section
variable {R : Type}
noncomputable def S96 (k g : Nat) (a : List PV) (r : List RowS) (K : List PV → List RowS → Option R) : Option R := bif g == 66 then s66 k a r K else callC T F k g a r K
theorem S96_eq (k : Nat) : S96 (R := R) k = callC T F k := by
  funext g a r K
  exact pick_eq (fun e => by subst e; exact s66_eq k a r K) (rfl)
theorem q96 (k : Nat) (a0 : Int) (a1 : Int) (a2 : Int) (K : List PV → List RowS → Option R) :
    execS T an96 (modesOf F) 0 k 12 (S96 k) (fun _ _ _ _ _ => none) (ending T Try.f96 an96 0 K) (bodyOf Try.f96) ⟨argEnv 0 [.val [] (.int .i64) a0, .val [] (.int .i64) a1, .val [] (.int .i64) a2] (fun _ => none), rowsOf []⟩ (ending T Try.f96 an96 0 K) (fun _ _ => none) = f96d (k + 1) a0 a1 a2 (fun z0 => K [.val [] (.int .i64) z0] []) := by kernel_rfl
theorem e96 (k : Nat) (a0 : Int) (a1 : Int) (a2 : Int) (K : List PV → List RowS → Option R) : callC T F k 96 [.val [] (.int .i64) a0, .val [] (.int .i64) a1, .val [] (.int .i64) a2] [] K = f96 k a0 a1 a2 (fun z0 => K [.val [] (.int .i64) z0] []) := by
  rw [f96_def]
  cases k with
  | zero => rfl
  | succ k =>
    refine Eq.trans (show _ = exec T an96 (modesOf F) 0 k 12 (callC T F k) (ending T Try.f96 an96 0 K) (bodyOf Try.f96) ⟨argEnv 0 [.val [] (.int .i64) a0, .val [] (.int .i64) a1, .val [] (.int .i64) a2] (fun _ => none), rowsOf []⟩ (ending T Try.f96 an96 0 K) (fun _ _ => none) from by kernel_rfl) ?_
    rw [← S96_eq k, ← execS_eq T an96 (modesOf F) 0 k 12 (S96 k) (fun _ _ _ _ _ => none) (bodyOf Try.f96) (cuts_of _ _ _ _ _ _ _ _ (bodyOf Try.f96) (l := []) (by kernel_rfl) trivial)]
    exact q96 k a0 a1 a2 K
noncomputable def s96 (k : Nat) (a : List PV) (r : List RowS) (K : List PV → List RowS → Option R) : Option R := match a, r with
  | [.val [] (.int .i64) a0, .val [] (.int .i64) a1, .val [] (.int .i64) a2], [] => f96 k a0 a1 a2 (fun z0 => K [.val [] (.int .i64) z0] [])
  | a, r => callC T F k 96 a r K
theorem s96_eq (k : Nat) (a : List PV) (r : List RowS) (K : List PV → List RowS → Option R) : s96 k a r K = callC T F k 96 a r K := by
  unfold s96
  split
  · exact (e96 k _ _ _ K).symm
  · rfl
end
section
variable {R : Type}
noncomputable def S75 (k g : Nat) (a : List PV) (r : List RowS) (K : List PV → List RowS → Option R) : Option R := bif g == 96 then s96 k a r K else callC T F k g a r K
theorem S75_eq (k : Nat) : S75 (R := R) k = callC T F k := by
  funext g a r K
  exact pick_eq (fun e => by subst e; exact s96_eq k a r K) (rfl)
theorem q75 (k : Nat) (a0 : Int) (K : List PV → List RowS → Option R) :
    execS T an75 (modesOf F) 0 k 5 (S75 k) (fun _ _ _ _ _ => none) (ending T Try.f75 an75 0 K) (bodyOf Try.f75) ⟨argEnv 0 [.val [] (.int .i64) a0] (fun _ => none), rowsOf []⟩ (ending T Try.f75 an75 0 K) (fun _ _ => none) = f75d (k + 1) a0 (fun z0 => K [.val [] (.int .i64) z0] []) := by kernel_rfl
theorem e75 (k : Nat) (a0 : Int) (K : List PV → List RowS → Option R) : callC T F k 75 [.val [] (.int .i64) a0] [] K = f75 k a0 (fun z0 => K [.val [] (.int .i64) z0] []) := by
  rw [f75_def]
  cases k with
  | zero => rfl
  | succ k =>
    refine Eq.trans (show _ = exec T an75 (modesOf F) 0 k 5 (callC T F k) (ending T Try.f75 an75 0 K) (bodyOf Try.f75) ⟨argEnv 0 [.val [] (.int .i64) a0] (fun _ => none), rowsOf []⟩ (ending T Try.f75 an75 0 K) (fun _ _ => none) from by kernel_rfl) ?_
    rw [← S75_eq k, ← execS_eq T an75 (modesOf F) 0 k 5 (S75 k) (fun _ _ _ _ _ => none) (bodyOf Try.f75) (cuts_of _ _ _ _ _ _ _ _ (bodyOf Try.f75) (l := []) (by kernel_rfl) trivial)]
    exact q75 k a0 K
noncomputable def s75 (k : Nat) (a : List PV) (r : List RowS) (K : List PV → List RowS → Option R) : Option R := match a, r with
  | [.val [] (.int .i64) a0], [] => f75 k a0 (fun z0 => K [.val [] (.int .i64) z0] [])
  | a, r => callC T F k 75 a r K
theorem s75_eq (k : Nat) (a : List PV) (r : List RowS) (K : List PV → List RowS → Option R) : s75 k a r K = callC T F k 75 a r K := by
  unfold s75
  split
  · exact (e75 k _ K).symm
  · rfl
end
section
variable {R : Type}
noncomputable def S35 (k g : Nat) (a : List PV) (r : List RowS) (K : List PV → List RowS → Option R) : Option R := bif g == 66 then s66 k a r K else bif g == 75 then s75 k a r K else callC T F k g a r K
theorem S35_eq (k : Nat) : S35 (R := R) k = callC T F k := by
  funext g a r K
  exact pick_eq (fun e => by subst e; exact s66_eq k a r K) (pick_eq (fun e => by subst e; exact s75_eq k a r K) (rfl))
theorem q35 (k : Nat) (a0 : Int) (a1 : Int) (a2 : Int) (a3 : Int) (a4 : List Int) (a5 : Int) (K : List PV → List RowS → Option R) :
    execS T an35 (modesOf F) 0 k 47 (S35 k) (fun _ _ _ _ _ => none) (ending T Try.f35 an35 0 K) (bodyOf Try.f35) ⟨argEnv 0 [.agg [.val [] (.int .i64) a0, .val [] (.int .i64) a1, .val [] (.int .i64) a2, .val [] (.int .i64) a3, .val [(0, 0)] (.slice (.int .u8)) a4], .val [] (.int .i64) a5] (fun _ => none), rowsOf []⟩ (ending T Try.f35 an35 0 K) (fun _ _ => none) = f35d (k + 1) a0 a1 a2 a3 a4 a5 (fun z0 => K [.val [] (.int .i64) z0] []) := by kernel_rfl
theorem e35 (k : Nat) (a0 : Int) (a1 : Int) (a2 : Int) (a3 : Int) (a4 : List Int) (a5 : Int) (K : List PV → List RowS → Option R) : callC T F k 35 [.agg [.val [] (.int .i64) a0, .val [] (.int .i64) a1, .val [] (.int .i64) a2, .val [] (.int .i64) a3, .val [(0, 0)] (.slice (.int .u8)) a4], .val [] (.int .i64) a5] [] K = f35 k a0 a1 a2 a3 a4 a5 (fun z0 => K [.val [] (.int .i64) z0] []) := by
  rw [f35_def]
  cases k with
  | zero => rfl
  | succ k =>
    refine Eq.trans (show _ = exec T an35 (modesOf F) 0 k 47 (callC T F k) (ending T Try.f35 an35 0 K) (bodyOf Try.f35) ⟨argEnv 0 [.agg [.val [] (.int .i64) a0, .val [] (.int .i64) a1, .val [] (.int .i64) a2, .val [] (.int .i64) a3, .val [(0, 0)] (.slice (.int .u8)) a4], .val [] (.int .i64) a5] (fun _ => none), rowsOf []⟩ (ending T Try.f35 an35 0 K) (fun _ _ => none) from by kernel_rfl) ?_
    rw [← S35_eq k, ← execS_eq T an35 (modesOf F) 0 k 47 (S35 k) (fun _ _ _ _ _ => none) (bodyOf Try.f35) (cuts_of _ _ _ _ _ _ _ _ (bodyOf Try.f35) (l := []) (by kernel_rfl) trivial)]
    exact q35 k a0 a1 a2 a3 a4 a5 K
noncomputable def s35 (k : Nat) (a : List PV) (r : List RowS) (K : List PV → List RowS → Option R) : Option R := match a, r with
  | [.agg [.val [] (.int .i64) a0, .val [] (.int .i64) a1, .val [] (.int .i64) a2, .val [] (.int .i64) a3, .val [(0, 0)] (.slice (.int .u8)) a4], .val [] (.int .i64) a5], [] => f35 k a0 a1 a2 a3 a4 a5 (fun z0 => K [.val [] (.int .i64) z0] [])
  | a, r => callC T F k 35 a r K
theorem s35_eq (k : Nat) (a : List PV) (r : List RowS) (K : List PV → List RowS → Option R) : s35 k a r K = callC T F k 35 a r K := by
  unfold s35
  split
  · exact (e35 k _ _ _ _ _ _ K).symm
  · rfl
end
section
variable {R : Type}
noncomputable def S33 (k g : Nat) (a : List PV) (r : List RowS) (K : List PV → List RowS → Option R) : Option R := bif g == 35 then s35 k a r K else bif g == 72 then s72 k a r K else bif g == 73 then s73 k a r K else callC T F k g a r K
theorem S33_eq (k : Nat) : S33 (R := R) k = callC T F k := by
  funext g a r K
  exact pick_eq (fun e => by subst e; exact s35_eq k a r K) (pick_eq (fun e => by subst e; exact s72_eq k a r K) (pick_eq (fun e => by subst e; exact s73_eq k a r K) (rfl)))
theorem q33 (k : Nat) (a0 : Int) (a1 : Int) (a2 : Int) (a3 : Int) (a4 : List Int) (a5 : Int) (K : List PV → List RowS → Option R) :
    execS T an33 (modesOf F) 0 k 35 (S33 k) (fun _ _ _ _ _ => none) (ending T Try.f33 an33 0 K) (bodyOf Try.f33) ⟨argEnv 0 [.agg [.val [] (.int .i64) a0, .val [] (.int .i64) a1, .val [] (.int .i64) a2, .val [] (.int .i64) a3, .val [(0, 0)] (.slice (.int .u8)) a4], .val [] (.int .i64) a5] (fun _ => none), rowsOf []⟩ (ending T Try.f33 an33 0 K) (fun _ _ => none) = f33d (k + 1) a0 a1 a2 a3 a4 a5 (fun z0 z1 => K [.rw 1, .val [] (.int .i64) z0] [⟨0, .arr [] (.int .u8) z1⟩]) := by kernel_rfl
theorem e33 (k : Nat) (a0 : Int) (a1 : Int) (a2 : Int) (a3 : Int) (a4 : List Int) (a5 : Int) (K : List PV → List RowS → Option R) : callC T F k 33 [.agg [.val [] (.int .i64) a0, .val [] (.int .i64) a1, .val [] (.int .i64) a2, .val [] (.int .i64) a3, .val [(0, 0)] (.slice (.int .u8)) a4], .val [] (.int .i64) a5] [] K = f33 k a0 a1 a2 a3 a4 a5 (fun z0 z1 => K [.rw 1, .val [] (.int .i64) z0] [⟨0, .arr [] (.int .u8) z1⟩]) := by
  rw [f33_def]
  cases k with
  | zero => rfl
  | succ k =>
    refine Eq.trans (show _ = exec T an33 (modesOf F) 0 k 35 (callC T F k) (ending T Try.f33 an33 0 K) (bodyOf Try.f33) ⟨argEnv 0 [.agg [.val [] (.int .i64) a0, .val [] (.int .i64) a1, .val [] (.int .i64) a2, .val [] (.int .i64) a3, .val [(0, 0)] (.slice (.int .u8)) a4], .val [] (.int .i64) a5] (fun _ => none), rowsOf []⟩ (ending T Try.f33 an33 0 K) (fun _ _ => none) from by kernel_rfl) ?_
    rw [← S33_eq k, ← execS_eq T an33 (modesOf F) 0 k 35 (S33 k) (fun _ _ _ _ _ => none) (bodyOf Try.f33) (cuts_of _ _ _ _ _ _ _ _ (bodyOf Try.f33) (l := []) (by kernel_rfl) trivial)]
    exact q33 k a0 a1 a2 a3 a4 a5 K
noncomputable def s33 (k : Nat) (a : List PV) (r : List RowS) (K : List PV → List RowS → Option R) : Option R := match a, r with
  | [.agg [.val [] (.int .i64) a0, .val [] (.int .i64) a1, .val [] (.int .i64) a2, .val [] (.int .i64) a3, .val [(0, 0)] (.slice (.int .u8)) a4], .val [] (.int .i64) a5], [] => f33 k a0 a1 a2 a3 a4 a5 (fun z0 z1 => K [.rw 1, .val [] (.int .i64) z0] [⟨0, .arr [] (.int .u8) z1⟩])
  | a, r => callC T F k 33 a r K
theorem s33_eq (k : Nat) (a : List PV) (r : List RowS) (K : List PV → List RowS → Option R) : s33 k a r K = callC T F k 33 a r K := by
  unfold s33
  split
  · exact (e33 k _ _ _ _ _ _ K).symm
  · rfl
end
end Go.Proofs.Ytahdmfboidjkoaa.PM
