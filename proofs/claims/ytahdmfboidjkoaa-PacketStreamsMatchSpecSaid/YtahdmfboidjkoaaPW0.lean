/- The small machine's run is the typed form (printed by a program of this work). -/
import Derived.Test.YtahdmfboidjkoaaPA0
set_option linter.unusedVariables false
set_option linter.unusedSimpArgs false
set_option maxRecDepth 100000
namespace Go.Proofs.Ytahdmfboidjkoaa.PM
open Go
noncomputable def F : Nat → Option PFn := findN [(19, .code Try.f19 an19), (20, .code Try.f20 an20), (21, .code Try.f21 an21), (3, .code Try.f3 an3), (65, .code Try.f65 an65), (66, .code Try.f66 an66), (67, .code Try.f67 an67), (41, .ext [.lend (.int .u8)] (cloneSpec (.int .u8) 1)), (22, .code Try.f22 an22), (68, .code Try.f68 an68), (69, .code Try.f69 an69), (23, .code Try.f23 an23), (32, .code Try.f32 an32), (24, .code Try.f24 an24), (4, .code Try.f4 an4), (30, .code Try.f30 an30), (25, .code Try.f25 an25), (31, .code Try.f31 an31), (26, .code Try.f26 an26), (27, .code Try.f27 an27), (5, .code Try.f5 an5), (72, .code Try.f72 an72), (73, .code Try.f73 an73), (70, .code Try.f70 an70), (28, .code Try.f28 an28), (95, .code Try.f95 an95), (78, .code Try.f78 an78), (40, .code Try.f40 an40), (71, .code Try.f71 an71), (29, .code Try.f29 an29), (6, .code Try.f6 an6), (96, .code Try.f96 an96), (75, .code Try.f75 an75), (35, .code Try.f35 an35), (33, .code Try.f33 an33), (76, .code Try.f76 an76), (77, .code Try.f77 an77), (36, .code Try.f36 an36), (74, .code Try.f74 an74), (34, .code Try.f34 an34), (37, .code Try.f37 an37), (38, .code Try.f38 an38), (39, .code Try.f39 an39), (7, .code Try.f7 an7), (42, .code Try.f42 an42), (8, .code Try.f8 an8), (79, .code Try.f79 an79), (97, .code Try.f97 an97), (80, .code Try.f80 an80), (43, .code Try.f43 an43), (105, .code Try.f105 an105), (98, .code Try.f98 an98), (81, .code Try.f81 an81), (82, .code Try.f82 an82), (44, .code Try.f44 an44), (45, .code Try.f45 an45), (9, .code Try.f9 an9), (46, .code Try.f46 an46), (47, .ext [.lend (.int .i64)] (cloneSpec (.int .i64) 8)), (10, .code Try.f10 an10), (83, .code Try.f83 an83), (48, .code Try.f48 an48), (84, .code Try.f84 an84), (49, .code Try.f49 an49), (11, .code Try.f11 an11), (52, .code Try.f52 an52), (53, .code Try.f53 an53), (54, .code Try.f54 an54), (55, .code Try.f55 an55), (13, .code Try.f13 an13)]
section
variable {R : Type}
noncomputable def S19 (k g : Nat) (a : List PV) (r : List RowS) (K : List PV → List RowS → Option R) : Option R := callC T F k g a r K
theorem S19_eq (k : Nat) : S19 (R := R) k = callC T F k := by
  funext g a r K
  exact rfl
section
variable {R : Type} (k : Nat) (K : List PV → List RowS → Option R)
noncomputable def L19_1000010 (ws : List PV) (rs : List RowS) (N : St → Option R) (X : Nat → St → Option R) : Option R := match ws, rs with
  | [.val [] (.int .i64) v10_0, .val [(0, 0)] (.slice (.int .u8)) v10_1, .val [] (.int .i64) v10_2, .val [] (.int .i64) v10_3, .val [] (.int .i64) v10_4, .val [] .bool v10_5], [] => f19_1000010 k (fun yN_0 => N (sh fi19_10 [.val [] (.int .i64) yN_0, .val [(0, 0)] (.slice (.int .u8)) v10_1, .val [] (.int .i64) v10_2, .val [] (.int .i64) v10_3, .val [] (.int .i64) v10_4] [])) v10_0 v10_1 v10_2 v10_3 v10_4 v10_5
  | ws, rs => inner T an19 (modesOf F) 0 k 29 (S19 k) (ending T Try.f19 an19 0 K) cd19_1000010 (sh sp19_1000010 ws rs) N X
noncomputable def L19_2 (ws : List PV) (rs : List RowS) (N : St → Option R) (X : Nat → St → Option R) : Option R := match ws, rs with
  | [.val [] (.int .i64) v2_0, .val [(0, 0)] (.slice (.int .u8)) v2_1, .val [] (.int .i64) v2_2, .val [] (.int .i64) v2_3, .val [] (.int .i64) v2_4], [] => f19_2 k (fun y2_0 => N (sh jn19_2 [.val [] (.int .i64) y2_0, .val [(0, 0)] (.slice (.int .u8)) v2_1, .val [] (.int .i64) v2_2, .val [] (.int .i64) v2_3] [])) v2_1 v2_2 v2_3 k v2_0 v2_4
  | ws, rs => inner T an19 (modesOf F) 0 k 29 (S19 k) (ending T Try.f19 an19 0 K) cd19_2 (sh sp19_2 ws rs) N X
noncomputable def L19_0 (ws : List PV) (rs : List RowS) (N : St → Option R) (X : Nat → St → Option R) : Option R := match ws, rs with
  | [.val [] (.int .i64) v0_0, .val [(0, 0)] (.slice (.int .u8)) v0_1, .val [] (.int .i64) v0_2, .val [] (.int .i64) v0_3], [] => f19_0 k (fun y0_0 => N (sh jn19_0 [.val [] (.int .i64) y0_0] [])) v0_1 v0_2 k v0_0 v0_3
  | ws, rs => inner T an19 (modesOf F) 0 k 29 (S19 k) (ending T Try.f19 an19 0 K) cd19_0 (sh sp19_0 ws rs) N X
noncomputable def L19 (id : Nat) (ws : List PV) (rs : List RowS) (N : St → Option R) (X : Nat → St → Option R) : Option R := bif id == 1000010 then L19_1000010 k K ws rs N X else bif id == 2 then L19_2 k K ws rs N X else bif id == 0 then L19_0 k K ws rs N X else none
theorem b19_1000010 (N : St → Option R) (X : Nat → St → Option R) (v10_0 : Int) (v10_1 : List Int) (v10_2 : Int) (v10_3 : Int) (v10_4 : Int) (v10_5 : Bool) :
    innerS T an19 (modesOf F) 0 k 29 (S19 k) (L19 k K) (ending T Try.f19 an19 0 K) cd19_1000010 (sh sp19_1000010 [.val [] (.int .i64) v10_0, .val [(0, 0)] (.slice (.int .u8)) v10_1, .val [] (.int .i64) v10_2, .val [] (.int .i64) v10_3, .val [] (.int .i64) v10_4, .val [] .bool v10_5] []) N X = f19_1000010d k (fun yN_0 => N (sh fi19_10 [.val [] (.int .i64) yN_0, .val [(0, 0)] (.slice (.int .u8)) v10_1, .val [] (.int .i64) v10_2, .val [] (.int .i64) v10_3, .val [] (.int .i64) v10_4] [])) v10_0 v10_1 v10_2 v10_3 v10_4 v10_5 := by kernel_rfl
theorem l19_1000010 (ws : List PV) (rs : List RowS) (N : St → Option R) (X : Nat → St → Option R) : L19 k K 1000010 ws rs N X = inner T an19 (modesOf F) 0 k 29 (S19 k) (ending T Try.f19 an19 0 K) cd19_1000010 (sh sp19_1000010 ws rs) N X := by
  show L19_1000010 k K ws rs N X = _
  unfold L19_1000010
  split
  rotate_left
  · rfl
  rename_i v10_0 v10_1 v10_2 v10_3 v10_4 v10_5
  rw [f19_1000010_def]
  exact ((innerS_eq T an19 (modesOf F) 0 k 29 (S19 k) (L19 k K) cd19_1000010 (l := []) (by kernel_rfl) trivial _ N X).symm.trans (b19_1000010 k K N X v10_0 v10_1 v10_2 v10_3 v10_4 v10_5)).symm
theorem b19_2 (rec : St → Option R) (N : St → Option R) (X : Nat → St → Option R) (v2_1 : List Int) (v2_2 : Int) (v2_3 : Int) (v2_0 : Int) (v2_4 : Int) :
    execS T an19 (modesOf F) 0 k 29 (S19 k) (L19 k K) (ending T Try.f19 an19 0 K) bd19_2 (sh sp19_2 [.val [] (.int .i64) v2_0, .val [(0, 0)] (.slice (.int .u8)) v2_1, .val [] (.int .i64) v2_2, .val [] (.int .i64) v2_3, .val [] (.int .i64) v2_4] []) (fun st => atHead an19 0 bd19_2 st rec) (outX an19 0 2 N X) =
      f19_2b k (fun v2_0 v2_4 => rec (sh sp19_2 [.val [] (.int .i64) v2_0, .val [(0, 0)] (.slice (.int .u8)) v2_1, .val [] (.int .i64) v2_2, .val [] (.int .i64) v2_3, .val [] (.int .i64) v2_4] [])) (fun y2_0 => N (sh jn19_2 [.val [] (.int .i64) y2_0, .val [(0, 0)] (.slice (.int .u8)) v2_1, .val [] (.int .i64) v2_2, .val [] (.int .i64) v2_3] [])) v2_1 v2_2 v2_3 v2_0 v2_4 := by kernel_rfl
theorem i19_2 (N : St → Option R) (X : Nat → St → Option R) (v2_1 : List Int) (v2_2 : Int) (v2_3 : Int) (m : Nat) : ∀ (v2_0 : Int) (v2_4 : Int),
    iter (atHead an19 0 bd19_2) m (fun st N' => exec T an19 (modesOf F) 0 k 29 (S19 k) (ending T Try.f19 an19 0 K) bd19_2 st N' (outX an19 0 2 N X)) (sh sp19_2 [.val [] (.int .i64) v2_0, .val [(0, 0)] (.slice (.int .u8)) v2_1, .val [] (.int .i64) v2_2, .val [] (.int .i64) v2_3, .val [] (.int .i64) v2_4] []) = f19_2d k (fun y2_0 => N (sh jn19_2 [.val [] (.int .i64) y2_0, .val [(0, 0)] (.slice (.int .u8)) v2_1, .val [] (.int .i64) v2_2, .val [] (.int .i64) v2_3] [])) v2_1 v2_2 v2_3 m v2_0 v2_4 := by
  induction m with
  | zero => intros; rfl
  | succ m ih =>
    intro v2_0 v2_4
    simp only [iter]
    rw [← execS_eq T an19 (modesOf F) 0 k 29 (S19 k) (L19 k K) bd19_2 (cuts_of _ _ _ _ _ _ _ _ bd19_2 (l := [(1000010, sp19_1000010, cd19_1000010)]) (by kernel_rfl) ⟨l19_1000010 k K, trivial⟩)]
    refine (b19_2 k K _ N X v2_1 v2_2 v2_3 v2_0 v2_4).trans ?_
    simp only [f19_2d, ih]
theorem l19_2 (ws : List PV) (rs : List RowS) (N : St → Option R) (X : Nat → St → Option R) : L19 k K 2 ws rs N X = inner T an19 (modesOf F) 0 k 29 (S19 k) (ending T Try.f19 an19 0 K) cd19_2 (sh sp19_2 ws rs) N X := by
  show L19_2 k K ws rs N X = _
  unfold L19_2
  split
  rotate_left
  · rfl
  rename_i v2_0 v2_1 v2_2 v2_3 v2_4
  rw [f19_2_def]
  refine Eq.trans ?_ (show iter (atHead an19 0 bd19_2) k (fun st N' => exec T an19 (modesOf F) 0 k 29 (S19 k) (ending T Try.f19 an19 0 K) bd19_2 st N' (outX an19 0 2 N X)) (sh sp19_2 [.val [] (.int .i64) v2_0, .val [(0, 0)] (.slice (.int .u8)) v2_1, .val [] (.int .i64) v2_2, .val [] (.int .i64) v2_3, .val [] (.int .i64) v2_4] []) = _ from by kernel_rfl)
  exact (i19_2 k K N X v2_1 v2_2 v2_3 k v2_0 v2_4).symm
theorem b19_0 (rec : St → Option R) (N : St → Option R) (X : Nat → St → Option R) (v0_1 : List Int) (v0_2 : Int) (v0_0 : Int) (v0_3 : Int) :
    execS T an19 (modesOf F) 0 k 29 (S19 k) (L19 k K) (ending T Try.f19 an19 0 K) bd19_0 (sh sp19_0 [.val [] (.int .i64) v0_0, .val [(0, 0)] (.slice (.int .u8)) v0_1, .val [] (.int .i64) v0_2, .val [] (.int .i64) v0_3] []) (fun st => atHead an19 0 bd19_0 st rec) (outX an19 0 0 N X) =
      f19_0b k (fun v0_0 v0_3 => rec (sh sp19_0 [.val [] (.int .i64) v0_0, .val [(0, 0)] (.slice (.int .u8)) v0_1, .val [] (.int .i64) v0_2, .val [] (.int .i64) v0_3] [])) (fun y0_0 => N (sh jn19_0 [.val [] (.int .i64) y0_0] [])) v0_1 v0_2 v0_0 v0_3 := by kernel_rfl
theorem i19_0 (N : St → Option R) (X : Nat → St → Option R) (v0_1 : List Int) (v0_2 : Int) (m : Nat) : ∀ (v0_0 : Int) (v0_3 : Int),
    iter (atHead an19 0 bd19_0) m (fun st N' => exec T an19 (modesOf F) 0 k 29 (S19 k) (ending T Try.f19 an19 0 K) bd19_0 st N' (outX an19 0 0 N X)) (sh sp19_0 [.val [] (.int .i64) v0_0, .val [(0, 0)] (.slice (.int .u8)) v0_1, .val [] (.int .i64) v0_2, .val [] (.int .i64) v0_3] []) = f19_0d k (fun y0_0 => N (sh jn19_0 [.val [] (.int .i64) y0_0] [])) v0_1 v0_2 m v0_0 v0_3 := by
  induction m with
  | zero => intros; rfl
  | succ m ih =>
    intro v0_0 v0_3
    simp only [iter]
    rw [← execS_eq T an19 (modesOf F) 0 k 29 (S19 k) (L19 k K) bd19_0 (cuts_of _ _ _ _ _ _ _ _ bd19_0 (l := [(2, sp19_2, cd19_2)]) (by kernel_rfl) ⟨l19_2 k K, trivial⟩)]
    refine (b19_0 k K _ N X v0_1 v0_2 v0_0 v0_3).trans ?_
    simp only [f19_0d, ih]
theorem l19_0 (ws : List PV) (rs : List RowS) (N : St → Option R) (X : Nat → St → Option R) : L19 k K 0 ws rs N X = inner T an19 (modesOf F) 0 k 29 (S19 k) (ending T Try.f19 an19 0 K) cd19_0 (sh sp19_0 ws rs) N X := by
  show L19_0 k K ws rs N X = _
  unfold L19_0
  split
  rotate_left
  · rfl
  rename_i v0_0 v0_1 v0_2 v0_3
  rw [f19_0_def]
  refine Eq.trans ?_ (show iter (atHead an19 0 bd19_0) k (fun st N' => exec T an19 (modesOf F) 0 k 29 (S19 k) (ending T Try.f19 an19 0 K) bd19_0 st N' (outX an19 0 0 N X)) (sh sp19_0 [.val [] (.int .i64) v0_0, .val [(0, 0)] (.slice (.int .u8)) v0_1, .val [] (.int .i64) v0_2, .val [] (.int .i64) v0_3] []) = _ from by kernel_rfl)
  exact (i19_0 k K N X v0_1 v0_2 k v0_0 v0_3).symm
end
theorem q19 (k : Nat) (a0 : List Int) (K : List PV → List RowS → Option R) :
    execS T an19 (modesOf F) 0 k 29 (S19 k) (L19 k K) (ending T Try.f19 an19 0 K) (bodyOf Try.f19) ⟨argEnv 0 [.val [(0, 0)] (.slice (.int .u8)) a0] (fun _ => none), rowsOf []⟩ (ending T Try.f19 an19 0 K) (fun _ _ => none) = f19d (k + 1) a0 (fun z0 => K [.val [] (.int .i64) z0] []) := by kernel_rfl
theorem e19 (k : Nat) (a0 : List Int) (K : List PV → List RowS → Option R) : callC T F k 19 [.val [(0, 0)] (.slice (.int .u8)) a0] [] K = f19 k a0 (fun z0 => K [.val [] (.int .i64) z0] []) := by
  rw [f19_def]
  cases k with
  | zero => rfl
  | succ k =>
    refine Eq.trans (show _ = exec T an19 (modesOf F) 0 k 29 (callC T F k) (ending T Try.f19 an19 0 K) (bodyOf Try.f19) ⟨argEnv 0 [.val [(0, 0)] (.slice (.int .u8)) a0] (fun _ => none), rowsOf []⟩ (ending T Try.f19 an19 0 K) (fun _ _ => none) from by kernel_rfl) ?_
    rw [← S19_eq k, ← execS_eq T an19 (modesOf F) 0 k 29 (S19 k) (L19 k K) (bodyOf Try.f19) (cuts_of _ _ _ _ _ _ _ _ (bodyOf Try.f19) (l := [(0, sp19_0, cd19_0)]) (by kernel_rfl) ⟨l19_0 k K, trivial⟩)]
    exact q19 k a0 K
noncomputable def s19 (k : Nat) (a : List PV) (r : List RowS) (K : List PV → List RowS → Option R) : Option R := match a, r with
  | [.val [(0, 0)] (.slice (.int .u8)) a0], [] => f19 k a0 (fun z0 => K [.val [] (.int .i64) z0] [])
  | a, r => callC T F k 19 a r K
theorem s19_eq (k : Nat) (a : List PV) (r : List RowS) (K : List PV → List RowS → Option R) : s19 k a r K = callC T F k 19 a r K := by
  unfold s19
  split
  · exact (e19 k _ K).symm
  · rfl
end
section
variable {R : Type}
noncomputable def S20 (k g : Nat) (a : List PV) (r : List RowS) (K : List PV → List RowS → Option R) : Option R := callC T F k g a r K
theorem S20_eq (k : Nat) : S20 (R := R) k = callC T F k := by
  funext g a r K
  exact rfl
section
variable {R : Type} (k : Nat) (K : List PV → List RowS → Option R)
noncomputable def L20_1000011 (ws : List PV) (rs : List RowS) (N : St → Option R) (X : Nat → St → Option R) : Option R := match ws, rs with
  | [.val [] (.int .i64) v11_0, .val [(0, 0)] (.slice (.int .u8)) v11_1, .val [] (.int .i64) v11_2, .val [] (.int .i64) v11_3, .val [] (.int .i64) v11_4, .val [] .bool v11_5], [] => f20_1000011 k (fun yN_0 => N (sh fi20_11 [.val [] (.int .i64) yN_0, .val [(0, 0)] (.slice (.int .u8)) v11_1, .val [] (.int .i64) v11_2, .val [] (.int .i64) v11_3, .val [] (.int .i64) v11_4] [])) v11_0 v11_1 v11_2 v11_3 v11_4 v11_5
  | ws, rs => inner T an20 (modesOf F) 0 k 32 (S20 k) (ending T Try.f20 an20 0 K) cd20_1000011 (sh sp20_1000011 ws rs) N X
noncomputable def L20_2 (ws : List PV) (rs : List RowS) (N : St → Option R) (X : Nat → St → Option R) : Option R := match ws, rs with
  | [.val [] (.int .i64) v2_0, .val [(0, 0)] (.slice (.int .u8)) v2_1, .val [] (.int .i64) v2_2, .val [] (.int .i64) v2_3, .val [] (.int .i64) v2_4], [] => f20_2 k (fun y2_0 => N (sh jn20_2 [.val [] (.int .i64) y2_0, .val [(0, 0)] (.slice (.int .u8)) v2_1, .val [] (.int .i64) v2_2, .val [] (.int .i64) v2_3] [])) v2_1 v2_2 v2_3 k v2_0 v2_4
  | ws, rs => inner T an20 (modesOf F) 0 k 32 (S20 k) (ending T Try.f20 an20 0 K) cd20_2 (sh sp20_2 ws rs) N X
noncomputable def L20_0 (ws : List PV) (rs : List RowS) (N : St → Option R) (X : Nat → St → Option R) : Option R := match ws, rs with
  | [.val [] (.int .i64) v0_0, .val [(0, 0)] (.slice (.int .u8)) v0_1, .val [] (.int .i64) v0_2, .val [] (.int .i64) v0_3], [] => f20_0 k (fun y0_0 => N (sh jn20_0 [.val [] (.int .i64) y0_0] [])) v0_1 v0_2 k v0_0 v0_3
  | ws, rs => inner T an20 (modesOf F) 0 k 32 (S20 k) (ending T Try.f20 an20 0 K) cd20_0 (sh sp20_0 ws rs) N X
noncomputable def L20 (id : Nat) (ws : List PV) (rs : List RowS) (N : St → Option R) (X : Nat → St → Option R) : Option R := bif id == 1000011 then L20_1000011 k K ws rs N X else bif id == 2 then L20_2 k K ws rs N X else bif id == 0 then L20_0 k K ws rs N X else none
theorem b20_1000011 (N : St → Option R) (X : Nat → St → Option R) (v11_0 : Int) (v11_1 : List Int) (v11_2 : Int) (v11_3 : Int) (v11_4 : Int) (v11_5 : Bool) :
    innerS T an20 (modesOf F) 0 k 32 (S20 k) (L20 k K) (ending T Try.f20 an20 0 K) cd20_1000011 (sh sp20_1000011 [.val [] (.int .i64) v11_0, .val [(0, 0)] (.slice (.int .u8)) v11_1, .val [] (.int .i64) v11_2, .val [] (.int .i64) v11_3, .val [] (.int .i64) v11_4, .val [] .bool v11_5] []) N X = f20_1000011d k (fun yN_0 => N (sh fi20_11 [.val [] (.int .i64) yN_0, .val [(0, 0)] (.slice (.int .u8)) v11_1, .val [] (.int .i64) v11_2, .val [] (.int .i64) v11_3, .val [] (.int .i64) v11_4] [])) v11_0 v11_1 v11_2 v11_3 v11_4 v11_5 := by kernel_rfl
theorem l20_1000011 (ws : List PV) (rs : List RowS) (N : St → Option R) (X : Nat → St → Option R) : L20 k K 1000011 ws rs N X = inner T an20 (modesOf F) 0 k 32 (S20 k) (ending T Try.f20 an20 0 K) cd20_1000011 (sh sp20_1000011 ws rs) N X := by
  show L20_1000011 k K ws rs N X = _
  unfold L20_1000011
  split
  rotate_left
  · rfl
  rename_i v11_0 v11_1 v11_2 v11_3 v11_4 v11_5
  rw [f20_1000011_def]
  exact ((innerS_eq T an20 (modesOf F) 0 k 32 (S20 k) (L20 k K) cd20_1000011 (l := []) (by kernel_rfl) trivial _ N X).symm.trans (b20_1000011 k K N X v11_0 v11_1 v11_2 v11_3 v11_4 v11_5)).symm
theorem b20_2 (rec : St → Option R) (N : St → Option R) (X : Nat → St → Option R) (v2_1 : List Int) (v2_2 : Int) (v2_3 : Int) (v2_0 : Int) (v2_4 : Int) :
    execS T an20 (modesOf F) 0 k 32 (S20 k) (L20 k K) (ending T Try.f20 an20 0 K) bd20_2 (sh sp20_2 [.val [] (.int .i64) v2_0, .val [(0, 0)] (.slice (.int .u8)) v2_1, .val [] (.int .i64) v2_2, .val [] (.int .i64) v2_3, .val [] (.int .i64) v2_4] []) (fun st => atHead an20 0 bd20_2 st rec) (outX an20 0 2 N X) =
      f20_2b k (fun v2_0 v2_4 => rec (sh sp20_2 [.val [] (.int .i64) v2_0, .val [(0, 0)] (.slice (.int .u8)) v2_1, .val [] (.int .i64) v2_2, .val [] (.int .i64) v2_3, .val [] (.int .i64) v2_4] [])) (fun y2_0 => N (sh jn20_2 [.val [] (.int .i64) y2_0, .val [(0, 0)] (.slice (.int .u8)) v2_1, .val [] (.int .i64) v2_2, .val [] (.int .i64) v2_3] [])) v2_1 v2_2 v2_3 v2_0 v2_4 := by kernel_rfl
theorem i20_2 (N : St → Option R) (X : Nat → St → Option R) (v2_1 : List Int) (v2_2 : Int) (v2_3 : Int) (m : Nat) : ∀ (v2_0 : Int) (v2_4 : Int),
    iter (atHead an20 0 bd20_2) m (fun st N' => exec T an20 (modesOf F) 0 k 32 (S20 k) (ending T Try.f20 an20 0 K) bd20_2 st N' (outX an20 0 2 N X)) (sh sp20_2 [.val [] (.int .i64) v2_0, .val [(0, 0)] (.slice (.int .u8)) v2_1, .val [] (.int .i64) v2_2, .val [] (.int .i64) v2_3, .val [] (.int .i64) v2_4] []) = f20_2d k (fun y2_0 => N (sh jn20_2 [.val [] (.int .i64) y2_0, .val [(0, 0)] (.slice (.int .u8)) v2_1, .val [] (.int .i64) v2_2, .val [] (.int .i64) v2_3] [])) v2_1 v2_2 v2_3 m v2_0 v2_4 := by
  induction m with
  | zero => intros; rfl
  | succ m ih =>
    intro v2_0 v2_4
    simp only [iter]
    rw [← execS_eq T an20 (modesOf F) 0 k 32 (S20 k) (L20 k K) bd20_2 (cuts_of _ _ _ _ _ _ _ _ bd20_2 (l := [(1000011, sp20_1000011, cd20_1000011)]) (by kernel_rfl) ⟨l20_1000011 k K, trivial⟩)]
    refine (b20_2 k K _ N X v2_1 v2_2 v2_3 v2_0 v2_4).trans ?_
    simp only [f20_2d, ih]
theorem l20_2 (ws : List PV) (rs : List RowS) (N : St → Option R) (X : Nat → St → Option R) : L20 k K 2 ws rs N X = inner T an20 (modesOf F) 0 k 32 (S20 k) (ending T Try.f20 an20 0 K) cd20_2 (sh sp20_2 ws rs) N X := by
  show L20_2 k K ws rs N X = _
  unfold L20_2
  split
  rotate_left
  · rfl
  rename_i v2_0 v2_1 v2_2 v2_3 v2_4
  rw [f20_2_def]
  refine Eq.trans ?_ (show iter (atHead an20 0 bd20_2) k (fun st N' => exec T an20 (modesOf F) 0 k 32 (S20 k) (ending T Try.f20 an20 0 K) bd20_2 st N' (outX an20 0 2 N X)) (sh sp20_2 [.val [] (.int .i64) v2_0, .val [(0, 0)] (.slice (.int .u8)) v2_1, .val [] (.int .i64) v2_2, .val [] (.int .i64) v2_3, .val [] (.int .i64) v2_4] []) = _ from by kernel_rfl)
  exact (i20_2 k K N X v2_1 v2_2 v2_3 k v2_0 v2_4).symm
theorem b20_0 (rec : St → Option R) (N : St → Option R) (X : Nat → St → Option R) (v0_1 : List Int) (v0_2 : Int) (v0_0 : Int) (v0_3 : Int) :
    execS T an20 (modesOf F) 0 k 32 (S20 k) (L20 k K) (ending T Try.f20 an20 0 K) bd20_0 (sh sp20_0 [.val [] (.int .i64) v0_0, .val [(0, 0)] (.slice (.int .u8)) v0_1, .val [] (.int .i64) v0_2, .val [] (.int .i64) v0_3] []) (fun st => atHead an20 0 bd20_0 st rec) (outX an20 0 0 N X) =
      f20_0b k (fun v0_0 v0_3 => rec (sh sp20_0 [.val [] (.int .i64) v0_0, .val [(0, 0)] (.slice (.int .u8)) v0_1, .val [] (.int .i64) v0_2, .val [] (.int .i64) v0_3] [])) (fun y0_0 => N (sh jn20_0 [.val [] (.int .i64) y0_0] [])) v0_1 v0_2 v0_0 v0_3 := by kernel_rfl
theorem i20_0 (N : St → Option R) (X : Nat → St → Option R) (v0_1 : List Int) (v0_2 : Int) (m : Nat) : ∀ (v0_0 : Int) (v0_3 : Int),
    iter (atHead an20 0 bd20_0) m (fun st N' => exec T an20 (modesOf F) 0 k 32 (S20 k) (ending T Try.f20 an20 0 K) bd20_0 st N' (outX an20 0 0 N X)) (sh sp20_0 [.val [] (.int .i64) v0_0, .val [(0, 0)] (.slice (.int .u8)) v0_1, .val [] (.int .i64) v0_2, .val [] (.int .i64) v0_3] []) = f20_0d k (fun y0_0 => N (sh jn20_0 [.val [] (.int .i64) y0_0] [])) v0_1 v0_2 m v0_0 v0_3 := by
  induction m with
  | zero => intros; rfl
  | succ m ih =>
    intro v0_0 v0_3
    simp only [iter]
    rw [← execS_eq T an20 (modesOf F) 0 k 32 (S20 k) (L20 k K) bd20_0 (cuts_of _ _ _ _ _ _ _ _ bd20_0 (l := [(2, sp20_2, cd20_2)]) (by kernel_rfl) ⟨l20_2 k K, trivial⟩)]
    refine (b20_0 k K _ N X v0_1 v0_2 v0_0 v0_3).trans ?_
    simp only [f20_0d, ih]
theorem l20_0 (ws : List PV) (rs : List RowS) (N : St → Option R) (X : Nat → St → Option R) : L20 k K 0 ws rs N X = inner T an20 (modesOf F) 0 k 32 (S20 k) (ending T Try.f20 an20 0 K) cd20_0 (sh sp20_0 ws rs) N X := by
  show L20_0 k K ws rs N X = _
  unfold L20_0
  split
  rotate_left
  · rfl
  rename_i v0_0 v0_1 v0_2 v0_3
  rw [f20_0_def]
  refine Eq.trans ?_ (show iter (atHead an20 0 bd20_0) k (fun st N' => exec T an20 (modesOf F) 0 k 32 (S20 k) (ending T Try.f20 an20 0 K) bd20_0 st N' (outX an20 0 0 N X)) (sh sp20_0 [.val [] (.int .i64) v0_0, .val [(0, 0)] (.slice (.int .u8)) v0_1, .val [] (.int .i64) v0_2, .val [] (.int .i64) v0_3] []) = _ from by kernel_rfl)
  exact (i20_0 k K N X v0_1 v0_2 k v0_0 v0_3).symm
end
theorem q20 (k : Nat) (a0 : List Int) (K : List PV → List RowS → Option R) :
    execS T an20 (modesOf F) 0 k 32 (S20 k) (L20 k K) (ending T Try.f20 an20 0 K) (bodyOf Try.f20) ⟨argEnv 0 [.val [(0, 0)] (.slice (.int .u8)) a0] (fun _ => none), rowsOf []⟩ (ending T Try.f20 an20 0 K) (fun _ _ => none) = f20d (k + 1) a0 (fun z0 => K [.val [] (.int .i64) z0] []) := by kernel_rfl
theorem e20 (k : Nat) (a0 : List Int) (K : List PV → List RowS → Option R) : callC T F k 20 [.val [(0, 0)] (.slice (.int .u8)) a0] [] K = f20 k a0 (fun z0 => K [.val [] (.int .i64) z0] []) := by
  rw [f20_def]
  cases k with
  | zero => rfl
  | succ k =>
    refine Eq.trans (show _ = exec T an20 (modesOf F) 0 k 32 (callC T F k) (ending T Try.f20 an20 0 K) (bodyOf Try.f20) ⟨argEnv 0 [.val [(0, 0)] (.slice (.int .u8)) a0] (fun _ => none), rowsOf []⟩ (ending T Try.f20 an20 0 K) (fun _ _ => none) from by kernel_rfl) ?_
    rw [← S20_eq k, ← execS_eq T an20 (modesOf F) 0 k 32 (S20 k) (L20 k K) (bodyOf Try.f20) (cuts_of _ _ _ _ _ _ _ _ (bodyOf Try.f20) (l := [(0, sp20_0, cd20_0)]) (by kernel_rfl) ⟨l20_0 k K, trivial⟩)]
    exact q20 k a0 K
noncomputable def s20 (k : Nat) (a : List PV) (r : List RowS) (K : List PV → List RowS → Option R) : Option R := match a, r with
  | [.val [(0, 0)] (.slice (.int .u8)) a0], [] => f20 k a0 (fun z0 => K [.val [] (.int .i64) z0] [])
  | a, r => callC T F k 20 a r K
theorem s20_eq (k : Nat) (a : List PV) (r : List RowS) (K : List PV → List RowS → Option R) : s20 k a r K = callC T F k 20 a r K := by
  unfold s20
  split
  · exact (e20 k _ K).symm
  · rfl
end
section
variable {R : Type}
noncomputable def S21 (k g : Nat) (a : List PV) (r : List RowS) (K : List PV → List RowS → Option R) : Option R := bif g == 19 then s19 k a r K else callC T F k g a r K
theorem S21_eq (k : Nat) : S21 (R := R) k = callC T F k := by
  funext g a r K
  exact pick_eq (fun e => by subst e; exact s19_eq k a r K) (rfl)
theorem q21 (k : Nat) (K : List PV → List RowS → Option R) :
    execS T an21 (modesOf F) 0 k 5 (S21 k) (fun _ _ _ _ _ => none) (ending T Try.f21 an21 0 K) (bodyOf Try.f21) ⟨argEnv 0 [] (fun _ => none), rowsOf []⟩ (ending T Try.f21 an21 0 K) (fun _ _ => none) = f21d (k + 1) (fun z0 => K [.val [] .bool z0] []) := by kernel_rfl
theorem e21 (k : Nat) (K : List PV → List RowS → Option R) : callC T F k 21 [] [] K = f21 k (fun z0 => K [.val [] .bool z0] []) := by
  rw [f21_def]
  cases k with
  | zero => rfl
  | succ k =>
    refine Eq.trans (show _ = exec T an21 (modesOf F) 0 k 5 (callC T F k) (ending T Try.f21 an21 0 K) (bodyOf Try.f21) ⟨argEnv 0 [] (fun _ => none), rowsOf []⟩ (ending T Try.f21 an21 0 K) (fun _ _ => none) from by kernel_rfl) ?_
    rw [← S21_eq k, ← execS_eq T an21 (modesOf F) 0 k 5 (S21 k) (fun _ _ _ _ _ => none) (bodyOf Try.f21) (cuts_of _ _ _ _ _ _ _ _ (bodyOf Try.f21) (l := []) (by kernel_rfl) trivial)]
    exact q21 k K
noncomputable def s21 (k : Nat) (a : List PV) (r : List RowS) (K : List PV → List RowS → Option R) : Option R := match a, r with
  | [], [] => f21 k (fun z0 => K [.val [] .bool z0] [])
  | a, r => callC T F k 21 a r K
theorem s21_eq (k : Nat) (a : List PV) (r : List RowS) (K : List PV → List RowS → Option R) : s21 k a r K = callC T F k 21 a r K := by
  unfold s21
  split
  · exact (e21 k K).symm
  · rfl
end
section
variable {R : Type}
noncomputable def S3 (k g : Nat) (a : List PV) (r : List RowS) (K : List PV → List RowS → Option R) : Option R := bif g == 19 then s19 k a r K else bif g == 20 then s20 k a r K else bif g == 21 then s21 k a r K else callC T F k g a r K
theorem S3_eq (k : Nat) : S3 (R := R) k = callC T F k := by
  funext g a r K
  exact pick_eq (fun e => by subst e; exact s19_eq k a r K) (pick_eq (fun e => by subst e; exact s20_eq k a r K) (pick_eq (fun e => by subst e; exact s21_eq k a r K) (rfl)))
theorem q3 (k : Nat) (a0 : List Int) (K : List PV → List RowS → Option R) :
    execS T an3 (modesOf F) 0 k 11 (S3 k) (fun _ _ _ _ _ => none) (ending T Try.f3 an3 0 K) (bodyOf Try.f3) ⟨argEnv 0 [.val [(0, 0)] (.slice (.int .u8)) a0] (fun _ => none), rowsOf []⟩ (ending T Try.f3 an3 0 K) (fun _ _ => none) = f3d (k + 1) a0 (fun z0 => K [.val [] .bool z0] []) := by kernel_rfl
theorem e3 (k : Nat) (a0 : List Int) (K : List PV → List RowS → Option R) : callC T F k 3 [.val [(0, 0)] (.slice (.int .u8)) a0] [] K = f3 k a0 (fun z0 => K [.val [] .bool z0] []) := by
  rw [f3_def]
  cases k with
  | zero => rfl
  | succ k =>
    refine Eq.trans (show _ = exec T an3 (modesOf F) 0 k 11 (callC T F k) (ending T Try.f3 an3 0 K) (bodyOf Try.f3) ⟨argEnv 0 [.val [(0, 0)] (.slice (.int .u8)) a0] (fun _ => none), rowsOf []⟩ (ending T Try.f3 an3 0 K) (fun _ _ => none) from by kernel_rfl) ?_
    rw [← S3_eq k, ← execS_eq T an3 (modesOf F) 0 k 11 (S3 k) (fun _ _ _ _ _ => none) (bodyOf Try.f3) (cuts_of _ _ _ _ _ _ _ _ (bodyOf Try.f3) (l := []) (by kernel_rfl) trivial)]
    exact q3 k a0 K
noncomputable def s3 (k : Nat) (a : List PV) (r : List RowS) (K : List PV → List RowS → Option R) : Option R := match a, r with
  | [.val [(0, 0)] (.slice (.int .u8)) a0], [] => f3 k a0 (fun z0 => K [.val [] .bool z0] [])
  | a, r => callC T F k 3 a r K
theorem s3_eq (k : Nat) (a : List PV) (r : List RowS) (K : List PV → List RowS → Option R) : s3 k a r K = callC T F k 3 a r K := by
  unfold s3
  split
  · exact (e3 k _ K).symm
  · rfl
end
section
variable {R : Type}
noncomputable def S65 (k g : Nat) (a : List PV) (r : List RowS) (K : List PV → List RowS → Option R) : Option R := callC T F k g a r K
theorem S65_eq (k : Nat) : S65 (R := R) k = callC T F k := by
  funext g a r K
  exact rfl
theorem q65 (k : Nat) (a0 : List Int) (K : List PV → List RowS → Option R) :
    execS T an65 (modesOf F) 0 k 13 (S65 k) (fun _ _ _ _ _ => none) (ending T Try.f65 an65 0 K) (bodyOf Try.f65) ⟨argEnv 0 [.val [(0, 0)] (.slice (.int .u8)) a0] (fun _ => none), rowsOf []⟩ (ending T Try.f65 an65 0 K) (fun _ _ => none) = f65d (k + 1) a0 (fun z0 => K [.val [] (.int .i64) z0] []) := by kernel_rfl
theorem e65 (k : Nat) (a0 : List Int) (K : List PV → List RowS → Option R) : callC T F k 65 [.val [(0, 0)] (.slice (.int .u8)) a0] [] K = f65 k a0 (fun z0 => K [.val [] (.int .i64) z0] []) := by
  rw [f65_def]
  cases k with
  | zero => rfl
  | succ k =>
    refine Eq.trans (show _ = exec T an65 (modesOf F) 0 k 13 (callC T F k) (ending T Try.f65 an65 0 K) (bodyOf Try.f65) ⟨argEnv 0 [.val [(0, 0)] (.slice (.int .u8)) a0] (fun _ => none), rowsOf []⟩ (ending T Try.f65 an65 0 K) (fun _ _ => none) from by kernel_rfl) ?_
    rw [← S65_eq k, ← execS_eq T an65 (modesOf F) 0 k 13 (S65 k) (fun _ _ _ _ _ => none) (bodyOf Try.f65) (cuts_of _ _ _ _ _ _ _ _ (bodyOf Try.f65) (l := []) (by kernel_rfl) trivial)]
    exact q65 k a0 K
noncomputable def s65 (k : Nat) (a : List PV) (r : List RowS) (K : List PV → List RowS → Option R) : Option R := match a, r with
  | [.val [(0, 0)] (.slice (.int .u8)) a0], [] => f65 k a0 (fun z0 => K [.val [] (.int .i64) z0] [])
  | a, r => callC T F k 65 a r K
theorem s65_eq (k : Nat) (a : List PV) (r : List RowS) (K : List PV → List RowS → Option R) : s65 k a r K = callC T F k 65 a r K := by
  unfold s65
  split
  · exact (e65 k _ K).symm
  · rfl
end
section
variable {R : Type}
noncomputable def S66 (k g : Nat) (a : List PV) (r : List RowS) (K : List PV → List RowS → Option R) : Option R := callC T F k g a r K
theorem S66_eq (k : Nat) : S66 (R := R) k = callC T F k := by
  funext g a r K
  exact rfl
theorem q66 (k : Nat) (a0 : Int) (a1 : Int) (a2 : Int) (K : List PV → List RowS → Option R) :
    execS T an66 (modesOf F) 0 k 15 (S66 k) (fun _ _ _ _ _ => none) (ending T Try.f66 an66 0 K) (bodyOf Try.f66) ⟨argEnv 0 [.val [] (.int .i64) a0, .val [] (.int .i64) a1, .val [] (.int .i64) a2] (fun _ => none), rowsOf []⟩ (ending T Try.f66 an66 0 K) (fun _ _ => none) = f66d (k + 1) a0 a1 a2 (fun z0 => K [.val [] .bool z0] []) := by kernel_rfl
theorem e66 (k : Nat) (a0 : Int) (a1 : Int) (a2 : Int) (K : List PV → List RowS → Option R) : callC T F k 66 [.val [] (.int .i64) a0, .val [] (.int .i64) a1, .val [] (.int .i64) a2] [] K = f66 k a0 a1 a2 (fun z0 => K [.val [] .bool z0] []) := by
  rw [f66_def]
  cases k with
  | zero => rfl
  | succ k =>
    refine Eq.trans (show _ = exec T an66 (modesOf F) 0 k 15 (callC T F k) (ending T Try.f66 an66 0 K) (bodyOf Try.f66) ⟨argEnv 0 [.val [] (.int .i64) a0, .val [] (.int .i64) a1, .val [] (.int .i64) a2] (fun _ => none), rowsOf []⟩ (ending T Try.f66 an66 0 K) (fun _ _ => none) from by kernel_rfl) ?_
    rw [← S66_eq k, ← execS_eq T an66 (modesOf F) 0 k 15 (S66 k) (fun _ _ _ _ _ => none) (bodyOf Try.f66) (cuts_of _ _ _ _ _ _ _ _ (bodyOf Try.f66) (l := []) (by kernel_rfl) trivial)]
    exact q66 k a0 a1 a2 K
noncomputable def s66 (k : Nat) (a : List PV) (r : List RowS) (K : List PV → List RowS → Option R) : Option R := match a, r with
  | [.val [] (.int .i64) a0, .val [] (.int .i64) a1, .val [] (.int .i64) a2], [] => f66 k a0 a1 a2 (fun z0 => K [.val [] .bool z0] [])
  | a, r => callC T F k 66 a r K
theorem s66_eq (k : Nat) (a : List PV) (r : List RowS) (K : List PV → List RowS → Option R) : s66 k a r K = callC T F k 66 a r K := by
  unfold s66
  split
  · exact (e66 k _ _ _ K).symm
  · rfl
end
section
variable {R : Type}
noncomputable def S67 (k g : Nat) (a : List PV) (r : List RowS) (K : List PV → List RowS → Option R) : Option R := bif g == 19 then s19 k a r K else bif g == 65 then s65 k a r K else callC T F k g a r K
theorem S67_eq (k : Nat) : S67 (R := R) k = callC T F k := by
  funext g a r K
  exact pick_eq (fun e => by subst e; exact s19_eq k a r K) (pick_eq (fun e => by subst e; exact s65_eq k a r K) (rfl))
theorem q67 (k : Nat) (a0 : List Int) (K : List PV → List RowS → Option R) :
    execS T an67 (modesOf F) 0 k 16 (S67 k) (fun _ _ _ _ _ => none) (ending T Try.f67 an67 0 K) (bodyOf Try.f67) ⟨argEnv 0 [.val [(0, 0)] (.slice (.int .u8)) a0] (fun _ => none), rowsOf []⟩ (ending T Try.f67 an67 0 K) (fun _ _ => none) = f67d (k + 1) a0 (fun z0 => K [.val [] .bool z0] []) := by kernel_rfl
theorem e67 (k : Nat) (a0 : List Int) (K : List PV → List RowS → Option R) : callC T F k 67 [.val [(0, 0)] (.slice (.int .u8)) a0] [] K = f67 k a0 (fun z0 => K [.val [] .bool z0] []) := by
  rw [f67_def]
  cases k with
  | zero => rfl
  | succ k =>
    refine Eq.trans (show _ = exec T an67 (modesOf F) 0 k 16 (callC T F k) (ending T Try.f67 an67 0 K) (bodyOf Try.f67) ⟨argEnv 0 [.val [(0, 0)] (.slice (.int .u8)) a0] (fun _ => none), rowsOf []⟩ (ending T Try.f67 an67 0 K) (fun _ _ => none) from by kernel_rfl) ?_
    rw [← S67_eq k, ← execS_eq T an67 (modesOf F) 0 k 16 (S67 k) (fun _ _ _ _ _ => none) (bodyOf Try.f67) (cuts_of _ _ _ _ _ _ _ _ (bodyOf Try.f67) (l := []) (by kernel_rfl) trivial)]
    exact q67 k a0 K
noncomputable def s67 (k : Nat) (a : List PV) (r : List RowS) (K : List PV → List RowS → Option R) : Option R := match a, r with
  | [.val [(0, 0)] (.slice (.int .u8)) a0], [] => f67 k a0 (fun z0 => K [.val [] .bool z0] [])
  | a, r => callC T F k 67 a r K
theorem s67_eq (k : Nat) (a : List PV) (r : List RowS) (K : List PV → List RowS → Option R) : s67 k a r K = callC T F k 67 a r K := by
  unfold s67
  split
  · exact (e67 k _ K).symm
  · rfl
end
section
variable {R : Type}
theorem e41 (k : Nat) (a0 : List Int) (K : List PV → List RowS → Option R) : callC T F k 41 [.val [(0, 0)] (.slice (.int .u8)) a0] [] K = f41 k a0 (fun z0 => K [.rw 1] [⟨0, .arr [] (.int .u8) z0⟩]) := by
  rw [f41_def]
  cases k with
  | zero => rfl
  | succ k => exact clone_call (m := [.lend (.int .u8)]) (ty := (.int .u8)) (bytes := 1) (by kernel_rfl) a0 K
noncomputable def s41 (k : Nat) (a : List PV) (r : List RowS) (K : List PV → List RowS → Option R) : Option R := match a, r with
  | [.val [(0, 0)] (.slice (.int .u8)) a0], [] => f41 k a0 (fun z0 => K [.rw 1] [⟨0, .arr [] (.int .u8) z0⟩])
  | a, r => callC T F k 41 a r K
theorem s41_eq (k : Nat) (a : List PV) (r : List RowS) (K : List PV → List RowS → Option R) : s41 k a r K = callC T F k 41 a r K := by
  unfold s41
  split
  · exact (e41 k _ K).symm
  · rfl
end
section
variable {R : Type}
noncomputable def S22 (k g : Nat) (a : List PV) (r : List RowS) (K : List PV → List RowS → Option R) : Option R := bif g == 41 then s41 k a r K else bif g == 65 then s65 k a r K else bif g == 66 then s66 k a r K else bif g == 67 then s67 k a r K else callC T F k g a r K
theorem S22_eq (k : Nat) : S22 (R := R) k = callC T F k := by
  funext g a r K
  exact pick_eq (fun e => by subst e; exact s41_eq k a r K) (pick_eq (fun e => by subst e; exact s65_eq k a r K) (pick_eq (fun e => by subst e; exact s66_eq k a r K) (pick_eq (fun e => by subst e; exact s67_eq k a r K) (rfl))))
theorem q22 (k : Nat) (a0 : List Int) (K : List PV → List RowS → Option R) :
    execS T an22 (modesOf F) 0 k 61 (S22 k) (fun _ _ _ _ _ => none) (ending T Try.f22 an22 0 K) (bodyOf Try.f22) ⟨argEnv 0 [.val [(0, 0)] (.slice (.int .u8)) a0] (fun _ => none), rowsOf []⟩ (ending T Try.f22 an22 0 K) (fun _ _ => none) = f22d (k + 1) a0 (fun z0 z1 z2 z3 z4 z5 z6 => K [.agg [.val [] (.int .i64) z0, .val [] .bool z1, .val [] (.int .i64) z2, .val [] (.int .i64) z3, .rw 1], .val [] (.int .i64) z4, .val [] (.int .i64) z5] [⟨0, .arr [] (.int .u8) z6⟩]) := by kernel_rfl
theorem e22 (k : Nat) (a0 : List Int) (K : List PV → List RowS → Option R) : callC T F k 22 [.val [(0, 0)] (.slice (.int .u8)) a0] [] K = f22 k a0 (fun z0 z1 z2 z3 z4 z5 z6 => K [.agg [.val [] (.int .i64) z0, .val [] .bool z1, .val [] (.int .i64) z2, .val [] (.int .i64) z3, .rw 1], .val [] (.int .i64) z4, .val [] (.int .i64) z5] [⟨0, .arr [] (.int .u8) z6⟩]) := by
  rw [f22_def]
  cases k with
  | zero => rfl
  | succ k =>
    refine Eq.trans (show _ = exec T an22 (modesOf F) 0 k 61 (callC T F k) (ending T Try.f22 an22 0 K) (bodyOf Try.f22) ⟨argEnv 0 [.val [(0, 0)] (.slice (.int .u8)) a0] (fun _ => none), rowsOf []⟩ (ending T Try.f22 an22 0 K) (fun _ _ => none) from by kernel_rfl) ?_
    rw [← S22_eq k, ← execS_eq T an22 (modesOf F) 0 k 61 (S22 k) (fun _ _ _ _ _ => none) (bodyOf Try.f22) (cuts_of _ _ _ _ _ _ _ _ (bodyOf Try.f22) (l := []) (by kernel_rfl) trivial)]
    exact q22 k a0 K
noncomputable def s22 (k : Nat) (a : List PV) (r : List RowS) (K : List PV → List RowS → Option R) : Option R := match a, r with
  | [.val [(0, 0)] (.slice (.int .u8)) a0], [] => f22 k a0 (fun z0 z1 z2 z3 z4 z5 z6 => K [.agg [.val [] (.int .i64) z0, .val [] .bool z1, .val [] (.int .i64) z2, .val [] (.int .i64) z3, .rw 1], .val [] (.int .i64) z4, .val [] (.int .i64) z5] [⟨0, .arr [] (.int .u8) z6⟩])
  | a, r => callC T F k 22 a r K
theorem s22_eq (k : Nat) (a : List PV) (r : List RowS) (K : List PV → List RowS → Option R) : s22 k a r K = callC T F k 22 a r K := by
  unfold s22
  split
  · exact (e22 k _ K).symm
  · rfl
end
section
variable {R : Type}
noncomputable def S68 (k g : Nat) (a : List PV) (r : List RowS) (K : List PV → List RowS → Option R) : Option R := callC T F k g a r K
theorem S68_eq (k : Nat) : S68 (R := R) k = callC T F k := by
  funext g a r K
  exact rfl
theorem q68 (k : Nat) (a0 : List Int) (K : List PV → List RowS → Option R) :
    execS T an68 (modesOf F) 0 k 13 (S68 k) (fun _ _ _ _ _ => none) (ending T Try.f68 an68 0 K) (bodyOf Try.f68) ⟨argEnv 0 [.val [(0, 0)] (.slice (.int .u8)) a0] (fun _ => none), rowsOf []⟩ (ending T Try.f68 an68 0 K) (fun _ _ => none) = f68d (k + 1) a0 (fun z0 => K [.val [] (.int .i64) z0] []) := by kernel_rfl
theorem e68 (k : Nat) (a0 : List Int) (K : List PV → List RowS → Option R) : callC T F k 68 [.val [(0, 0)] (.slice (.int .u8)) a0] [] K = f68 k a0 (fun z0 => K [.val [] (.int .i64) z0] []) := by
  rw [f68_def]
  cases k with
  | zero => rfl
  | succ k =>
    refine Eq.trans (show _ = exec T an68 (modesOf F) 0 k 13 (callC T F k) (ending T Try.f68 an68 0 K) (bodyOf Try.f68) ⟨argEnv 0 [.val [(0, 0)] (.slice (.int .u8)) a0] (fun _ => none), rowsOf []⟩ (ending T Try.f68 an68 0 K) (fun _ _ => none) from by kernel_rfl) ?_
    rw [← S68_eq k, ← execS_eq T an68 (modesOf F) 0 k 13 (S68 k) (fun _ _ _ _ _ => none) (bodyOf Try.f68) (cuts_of _ _ _ _ _ _ _ _ (bodyOf Try.f68) (l := []) (by kernel_rfl) trivial)]
    exact q68 k a0 K
noncomputable def s68 (k : Nat) (a : List PV) (r : List RowS) (K : List PV → List RowS → Option R) : Option R := match a, r with
  | [.val [(0, 0)] (.slice (.int .u8)) a0], [] => f68 k a0 (fun z0 => K [.val [] (.int .i64) z0] [])
  | a, r => callC T F k 68 a r K
theorem s68_eq (k : Nat) (a : List PV) (r : List RowS) (K : List PV → List RowS → Option R) : s68 k a r K = callC T F k 68 a r K := by
  unfold s68
  split
  · exact (e68 k _ K).symm
  · rfl
end
section
variable {R : Type}
noncomputable def S69 (k g : Nat) (a : List PV) (r : List RowS) (K : List PV → List RowS → Option R) : Option R := callC T F k g a r K
theorem S69_eq (k : Nat) : S69 (R := R) k = callC T F k := by
  funext g a r K
  exact rfl
theorem q69 (k : Nat) (a0 : Int) (a1 : Int) (a2 : Int) (K : List PV → List RowS → Option R) :
    execS T an69 (modesOf F) 0 k 15 (S69 k) (fun _ _ _ _ _ => none) (ending T Try.f69 an69 0 K) (bodyOf Try.f69) ⟨argEnv 0 [.val [] (.int .i64) a0, .val [] (.int .i64) a1, .val [] (.int .i64) a2] (fun _ => none), rowsOf []⟩ (ending T Try.f69 an69 0 K) (fun _ _ => none) = f69d (k + 1) a0 a1 a2 (fun z0 => K [.val [] .bool z0] []) := by kernel_rfl
theorem e69 (k : Nat) (a0 : Int) (a1 : Int) (a2 : Int) (K : List PV → List RowS → Option R) : callC T F k 69 [.val [] (.int .i64) a0, .val [] (.int .i64) a1, .val [] (.int .i64) a2] [] K = f69 k a0 a1 a2 (fun z0 => K [.val [] .bool z0] []) := by
  rw [f69_def]
  cases k with
  | zero => rfl
  | succ k =>
    refine Eq.trans (show _ = exec T an69 (modesOf F) 0 k 15 (callC T F k) (ending T Try.f69 an69 0 K) (bodyOf Try.f69) ⟨argEnv 0 [.val [] (.int .i64) a0, .val [] (.int .i64) a1, .val [] (.int .i64) a2] (fun _ => none), rowsOf []⟩ (ending T Try.f69 an69 0 K) (fun _ _ => none) from by kernel_rfl) ?_
    rw [← S69_eq k, ← execS_eq T an69 (modesOf F) 0 k 15 (S69 k) (fun _ _ _ _ _ => none) (bodyOf Try.f69) (cuts_of _ _ _ _ _ _ _ _ (bodyOf Try.f69) (l := []) (by kernel_rfl) trivial)]
    exact q69 k a0 a1 a2 K
noncomputable def s69 (k : Nat) (a : List PV) (r : List RowS) (K : List PV → List RowS → Option R) : Option R := match a, r with
  | [.val [] (.int .i64) a0, .val [] (.int .i64) a1, .val [] (.int .i64) a2], [] => f69 k a0 a1 a2 (fun z0 => K [.val [] .bool z0] [])
  | a, r => callC T F k 69 a r K
theorem s69_eq (k : Nat) (a : List PV) (r : List RowS) (K : List PV → List RowS → Option R) : s69 k a r K = callC T F k 69 a r K := by
  unfold s69
  split
  · exact (e69 k _ _ _ K).symm
  · rfl
end
section
variable {R : Type}
noncomputable def S23 (k g : Nat) (a : List PV) (r : List RowS) (K : List PV → List RowS → Option R) : Option R := bif g == 20 then s20 k a r K else bif g == 41 then s41 k a r K else bif g == 68 then s68 k a r K else bif g == 69 then s69 k a r K else callC T F k g a r K
theorem S23_eq (k : Nat) : S23 (R := R) k = callC T F k := by
  funext g a r K
  exact pick_eq (fun e => by subst e; exact s20_eq k a r K) (pick_eq (fun e => by subst e; exact s41_eq k a r K) (pick_eq (fun e => by subst e; exact s68_eq k a r K) (pick_eq (fun e => by subst e; exact s69_eq k a r K) (rfl))))
theorem q23 (k : Nat) (a0 : List Int) (K : List PV → List RowS → Option R) :
    execS T an23 (modesOf F) 0 k 67 (S23 k) (fun _ _ _ _ _ => none) (ending T Try.f23 an23 0 K) (bodyOf Try.f23) ⟨argEnv 0 [.val [(0, 0)] (.slice (.int .u8)) a0] (fun _ => none), rowsOf []⟩ (ending T Try.f23 an23 0 K) (fun _ _ => none) = f23d (k + 1) a0 (fun z0 z1 z2 z3 z4 z5 z6 => K [.agg [.val [] (.int .i64) z0, .val [] .bool z1, .val [] (.int .i64) z2, .val [] (.int .i64) z3, .rw 1], .val [] (.int .i64) z4, .val [] (.int .i64) z5] [⟨0, .arr [] (.int .u8) z6⟩]) := by kernel_rfl
theorem e23 (k : Nat) (a0 : List Int) (K : List PV → List RowS → Option R) : callC T F k 23 [.val [(0, 0)] (.slice (.int .u8)) a0] [] K = f23 k a0 (fun z0 z1 z2 z3 z4 z5 z6 => K [.agg [.val [] (.int .i64) z0, .val [] .bool z1, .val [] (.int .i64) z2, .val [] (.int .i64) z3, .rw 1], .val [] (.int .i64) z4, .val [] (.int .i64) z5] [⟨0, .arr [] (.int .u8) z6⟩]) := by
  rw [f23_def]
  cases k with
  | zero => rfl
  | succ k =>
    refine Eq.trans (show _ = exec T an23 (modesOf F) 0 k 67 (callC T F k) (ending T Try.f23 an23 0 K) (bodyOf Try.f23) ⟨argEnv 0 [.val [(0, 0)] (.slice (.int .u8)) a0] (fun _ => none), rowsOf []⟩ (ending T Try.f23 an23 0 K) (fun _ _ => none) from by kernel_rfl) ?_
    rw [← S23_eq k, ← execS_eq T an23 (modesOf F) 0 k 67 (S23 k) (fun _ _ _ _ _ => none) (bodyOf Try.f23) (cuts_of _ _ _ _ _ _ _ _ (bodyOf Try.f23) (l := []) (by kernel_rfl) trivial)]
    exact q23 k a0 K
noncomputable def s23 (k : Nat) (a : List PV) (r : List RowS) (K : List PV → List RowS → Option R) : Option R := match a, r with
  | [.val [(0, 0)] (.slice (.int .u8)) a0], [] => f23 k a0 (fun z0 z1 z2 z3 z4 z5 z6 => K [.agg [.val [] (.int .i64) z0, .val [] .bool z1, .val [] (.int .i64) z2, .val [] (.int .i64) z3, .rw 1], .val [] (.int .i64) z4, .val [] (.int .i64) z5] [⟨0, .arr [] (.int .u8) z6⟩])
  | a, r => callC T F k 23 a r K
theorem s23_eq (k : Nat) (a : List PV) (r : List RowS) (K : List PV → List RowS → Option R) : s23 k a r K = callC T F k 23 a r K := by
  unfold s23
  split
  · exact (e23 k _ K).symm
  · rfl
end
section
variable {R : Type}
noncomputable def S32 (k g : Nat) (a : List PV) (r : List RowS) (K : List PV → List RowS → Option R) : Option R := callC T F k g a r K
theorem S32_eq (k : Nat) : S32 (R := R) k = callC T F k := by
  funext g a r K
  exact rfl
section
variable {R : Type} (k : Nat) (K : List PV → List RowS → Option R)
noncomputable def L32_0 (ws : List PV) (rs : List RowS) (N : St → Option R) (X : Nat → St → Option R) : Option R := match ws, rs with
  | [.val [(0, 0)] (.slice (.int .u8)) v0_0, .val [(0, 0)] (.slice (.int .u8)) v0_1, .val [] (.int .i64) v0_2, .val [] (.int .i64) v0_3], [] => f32_0 k (fun z0 => K [.val [] .bool z0] []) (N (sh jn32_0 [] [])) v0_0 v0_1 v0_2 k v0_3
  | ws, rs => inner T an32 (modesOf F) 0 k 26 (S32 k) (ending T Try.f32 an32 0 K) cd32_0 (sh sp32_0 ws rs) N X
noncomputable def L32 (id : Nat) (ws : List PV) (rs : List RowS) (N : St → Option R) (X : Nat → St → Option R) : Option R := bif id == 0 then L32_0 k K ws rs N X else none
theorem b32_0 (rec : St → Option R) (N : St → Option R) (X : Nat → St → Option R) (v0_0 : List Int) (v0_1 : List Int) (v0_2 : Int) (v0_3 : Int) :
    execS T an32 (modesOf F) 0 k 26 (S32 k) (L32 k K) (ending T Try.f32 an32 0 K) bd32_0 (sh sp32_0 [.val [(0, 0)] (.slice (.int .u8)) v0_0, .val [(0, 0)] (.slice (.int .u8)) v0_1, .val [] (.int .i64) v0_2, .val [] (.int .i64) v0_3] []) (fun st => atHead an32 0 bd32_0 st rec) (outX an32 0 0 N X) =
      f32_0b k (fun v0_3 => rec (sh sp32_0 [.val [(0, 0)] (.slice (.int .u8)) v0_0, .val [(0, 0)] (.slice (.int .u8)) v0_1, .val [] (.int .i64) v0_2, .val [] (.int .i64) v0_3] [])) (fun z0 => K [.val [] .bool z0] []) (N (sh jn32_0 [] [])) v0_0 v0_1 v0_2 v0_3 := by kernel_rfl
theorem i32_0 (N : St → Option R) (X : Nat → St → Option R) (v0_0 : List Int) (v0_1 : List Int) (v0_2 : Int) (m : Nat) : ∀ (v0_3 : Int),
    iter (atHead an32 0 bd32_0) m (fun st N' => exec T an32 (modesOf F) 0 k 26 (S32 k) (ending T Try.f32 an32 0 K) bd32_0 st N' (outX an32 0 0 N X)) (sh sp32_0 [.val [(0, 0)] (.slice (.int .u8)) v0_0, .val [(0, 0)] (.slice (.int .u8)) v0_1, .val [] (.int .i64) v0_2, .val [] (.int .i64) v0_3] []) = f32_0d k (fun z0 => K [.val [] .bool z0] []) (N (sh jn32_0 [] [])) v0_0 v0_1 v0_2 m v0_3 := by
  induction m with
  | zero => intros; rfl
  | succ m ih =>
    intro v0_3
    simp only [iter]
    rw [← execS_eq T an32 (modesOf F) 0 k 26 (S32 k) (L32 k K) bd32_0 (cuts_of _ _ _ _ _ _ _ _ bd32_0 (l := []) (by kernel_rfl) trivial)]
    refine (b32_0 k K _ N X v0_0 v0_1 v0_2 v0_3).trans ?_
    simp only [f32_0d, ih]
theorem l32_0 (ws : List PV) (rs : List RowS) (N : St → Option R) (X : Nat → St → Option R) : L32 k K 0 ws rs N X = inner T an32 (modesOf F) 0 k 26 (S32 k) (ending T Try.f32 an32 0 K) cd32_0 (sh sp32_0 ws rs) N X := by
  show L32_0 k K ws rs N X = _
  unfold L32_0
  split
  rotate_left
  · rfl
  rename_i v0_0 v0_1 v0_2 v0_3
  rw [f32_0_def]
  refine Eq.trans ?_ (show iter (atHead an32 0 bd32_0) k (fun st N' => exec T an32 (modesOf F) 0 k 26 (S32 k) (ending T Try.f32 an32 0 K) bd32_0 st N' (outX an32 0 0 N X)) (sh sp32_0 [.val [(0, 0)] (.slice (.int .u8)) v0_0, .val [(0, 0)] (.slice (.int .u8)) v0_1, .val [] (.int .i64) v0_2, .val [] (.int .i64) v0_3] []) = _ from by kernel_rfl)
  exact (i32_0 k K N X v0_0 v0_1 v0_2 k v0_3).symm
end
theorem q32 (k : Nat) (a0 : List Int) (a1 : List Int) (K : List PV → List RowS → Option R) :
    execS T an32 (modesOf F) 0 k 26 (S32 k) (L32 k K) (ending T Try.f32 an32 0 K) (bodyOf Try.f32) ⟨argEnv 0 [.val [(0, 0)] (.slice (.int .u8)) a0, .val [(0, 0)] (.slice (.int .u8)) a1] (fun _ => none), rowsOf []⟩ (ending T Try.f32 an32 0 K) (fun _ _ => none) = f32d (k + 1) a0 a1 (fun z0 => K [.val [] .bool z0] []) := by kernel_rfl
theorem e32 (k : Nat) (a0 : List Int) (a1 : List Int) (K : List PV → List RowS → Option R) : callC T F k 32 [.val [(0, 0)] (.slice (.int .u8)) a0, .val [(0, 0)] (.slice (.int .u8)) a1] [] K = f32 k a0 a1 (fun z0 => K [.val [] .bool z0] []) := by
  rw [f32_def]
  cases k with
  | zero => rfl
  | succ k =>
    refine Eq.trans (show _ = exec T an32 (modesOf F) 0 k 26 (callC T F k) (ending T Try.f32 an32 0 K) (bodyOf Try.f32) ⟨argEnv 0 [.val [(0, 0)] (.slice (.int .u8)) a0, .val [(0, 0)] (.slice (.int .u8)) a1] (fun _ => none), rowsOf []⟩ (ending T Try.f32 an32 0 K) (fun _ _ => none) from by kernel_rfl) ?_
    rw [← S32_eq k, ← execS_eq T an32 (modesOf F) 0 k 26 (S32 k) (L32 k K) (bodyOf Try.f32) (cuts_of _ _ _ _ _ _ _ _ (bodyOf Try.f32) (l := [(0, sp32_0, cd32_0)]) (by kernel_rfl) ⟨l32_0 k K, trivial⟩)]
    exact q32 k a0 a1 K
noncomputable def s32 (k : Nat) (a : List PV) (r : List RowS) (K : List PV → List RowS → Option R) : Option R := match a, r with
  | [.val [(0, 0)] (.slice (.int .u8)) a0, .val [(0, 0)] (.slice (.int .u8)) a1], [] => f32 k a0 a1 (fun z0 => K [.val [] .bool z0] [])
  | a, r => callC T F k 32 a r K
theorem s32_eq (k : Nat) (a : List PV) (r : List RowS) (K : List PV → List RowS → Option R) : s32 k a r K = callC T F k 32 a r K := by
  unfold s32
  split
  · exact (e32 k _ _ K).symm
  · rfl
end
section
variable {R : Type}
noncomputable def S24 (k g : Nat) (a : List PV) (r : List RowS) (K : List PV → List RowS → Option R) : Option R := bif g == 32 then s32 k a r K else callC T F k g a r K
theorem S24_eq (k : Nat) : S24 (R := R) k = callC T F k := by
  funext g a r K
  exact pick_eq (fun e => by subst e; exact s32_eq k a r K) (rfl)
theorem q24 (k : Nat) (a0 : Int) (a1 : Bool) (a2 : Int) (a3 : Int) (a4 : List Int) (a5 : Int) (a6 : Bool) (a7 : Int) (a8 : Int) (a9 : List Int) (K : List PV → List RowS → Option R) :
    execS T an24 (modesOf F) 0 k 38 (S24 k) (fun _ _ _ _ _ => none) (ending T Try.f24 an24 0 K) (bodyOf Try.f24) ⟨argEnv 0 [.agg [.val [] (.int .i64) a0, .val [] .bool a1, .val [] (.int .i64) a2, .val [] (.int .i64) a3, .val [(0, 0)] (.slice (.int .u8)) a4], .agg [.val [] (.int .i64) a5, .val [] .bool a6, .val [] (.int .i64) a7, .val [] (.int .i64) a8, .val [(0, 0)] (.slice (.int .u8)) a9]] (fun _ => none), rowsOf []⟩ (ending T Try.f24 an24 0 K) (fun _ _ => none) = f24d (k + 1) a0 a1 a2 a3 a4 a5 a6 a7 a8 a9 (fun z0 => K [.val [] .bool z0] []) := by kernel_rfl
theorem e24 (k : Nat) (a0 : Int) (a1 : Bool) (a2 : Int) (a3 : Int) (a4 : List Int) (a5 : Int) (a6 : Bool) (a7 : Int) (a8 : Int) (a9 : List Int) (K : List PV → List RowS → Option R) : callC T F k 24 [.agg [.val [] (.int .i64) a0, .val [] .bool a1, .val [] (.int .i64) a2, .val [] (.int .i64) a3, .val [(0, 0)] (.slice (.int .u8)) a4], .agg [.val [] (.int .i64) a5, .val [] .bool a6, .val [] (.int .i64) a7, .val [] (.int .i64) a8, .val [(0, 0)] (.slice (.int .u8)) a9]] [] K = f24 k a0 a1 a2 a3 a4 a5 a6 a7 a8 a9 (fun z0 => K [.val [] .bool z0] []) := by
  rw [f24_def]
  cases k with
  | zero => rfl
  | succ k =>
    refine Eq.trans (show _ = exec T an24 (modesOf F) 0 k 38 (callC T F k) (ending T Try.f24 an24 0 K) (bodyOf Try.f24) ⟨argEnv 0 [.agg [.val [] (.int .i64) a0, .val [] .bool a1, .val [] (.int .i64) a2, .val [] (.int .i64) a3, .val [(0, 0)] (.slice (.int .u8)) a4], .agg [.val [] (.int .i64) a5, .val [] .bool a6, .val [] (.int .i64) a7, .val [] (.int .i64) a8, .val [(0, 0)] (.slice (.int .u8)) a9]] (fun _ => none), rowsOf []⟩ (ending T Try.f24 an24 0 K) (fun _ _ => none) from by kernel_rfl) ?_
    rw [← S24_eq k, ← execS_eq T an24 (modesOf F) 0 k 38 (S24 k) (fun _ _ _ _ _ => none) (bodyOf Try.f24) (cuts_of _ _ _ _ _ _ _ _ (bodyOf Try.f24) (l := []) (by kernel_rfl) trivial)]
    exact q24 k a0 a1 a2 a3 a4 a5 a6 a7 a8 a9 K
noncomputable def s24 (k : Nat) (a : List PV) (r : List RowS) (K : List PV → List RowS → Option R) : Option R := match a, r with
  | [.agg [.val [] (.int .i64) a0, .val [] .bool a1, .val [] (.int .i64) a2, .val [] (.int .i64) a3, .val [(0, 0)] (.slice (.int .u8)) a4], .agg [.val [] (.int .i64) a5, .val [] .bool a6, .val [] (.int .i64) a7, .val [] (.int .i64) a8, .val [(0, 0)] (.slice (.int .u8)) a9]], [] => f24 k a0 a1 a2 a3 a4 a5 a6 a7 a8 a9 (fun z0 => K [.val [] .bool z0] [])
  | a, r => callC T F k 24 a r K
theorem s24_eq (k : Nat) (a : List PV) (r : List RowS) (K : List PV → List RowS → Option R) : s24 k a r K = callC T F k 24 a r K := by
  unfold s24
  split
  · exact (e24 k _ _ _ _ _ _ _ _ _ _ K).symm
  · rfl
end
section
variable {R : Type}
noncomputable def S4 (k g : Nat) (a : List PV) (r : List RowS) (K : List PV → List RowS → Option R) : Option R := bif g == 21 then s21 k a r K else bif g == 22 then s22 k a r K else bif g == 23 then s23 k a r K else bif g == 24 then s24 k a r K else callC T F k g a r K
theorem S4_eq (k : Nat) : S4 (R := R) k = callC T F k := by
  funext g a r K
  exact pick_eq (fun e => by subst e; exact s21_eq k a r K) (pick_eq (fun e => by subst e; exact s22_eq k a r K) (pick_eq (fun e => by subst e; exact s23_eq k a r K) (pick_eq (fun e => by subst e; exact s24_eq k a r K) (rfl))))
theorem q4 (k : Nat) (a0 : List Int) (K : List PV → List RowS → Option R) :
    execS T an4 (modesOf F) 0 k 37 (S4 k) (fun _ _ _ _ _ => none) (ending T Try.f4 an4 0 K) (bodyOf Try.f4) ⟨argEnv 0 [.val [(0, 0)] (.slice (.int .u8)) a0] (fun _ => none), rowsOf []⟩ (ending T Try.f4 an4 0 K) (fun _ _ => none) = f4d (k + 1) a0 (fun z0 => K [.val [] .bool z0] []) := by kernel_rfl
theorem e4 (k : Nat) (a0 : List Int) (K : List PV → List RowS → Option R) : callC T F k 4 [.val [(0, 0)] (.slice (.int .u8)) a0] [] K = f4 k a0 (fun z0 => K [.val [] .bool z0] []) := by
  rw [f4_def]
  cases k with
  | zero => rfl
  | succ k =>
    refine Eq.trans (show _ = exec T an4 (modesOf F) 0 k 37 (callC T F k) (ending T Try.f4 an4 0 K) (bodyOf Try.f4) ⟨argEnv 0 [.val [(0, 0)] (.slice (.int .u8)) a0] (fun _ => none), rowsOf []⟩ (ending T Try.f4 an4 0 K) (fun _ _ => none) from by kernel_rfl) ?_
    rw [← S4_eq k, ← execS_eq T an4 (modesOf F) 0 k 37 (S4 k) (fun _ _ _ _ _ => none) (bodyOf Try.f4) (cuts_of _ _ _ _ _ _ _ _ (bodyOf Try.f4) (l := []) (by kernel_rfl) trivial)]
    exact q4 k a0 K
noncomputable def s4 (k : Nat) (a : List PV) (r : List RowS) (K : List PV → List RowS → Option R) : Option R := match a, r with
  | [.val [(0, 0)] (.slice (.int .u8)) a0], [] => f4 k a0 (fun z0 => K [.val [] .bool z0] [])
  | a, r => callC T F k 4 a r K
theorem s4_eq (k : Nat) (a : List PV) (r : List RowS) (K : List PV → List RowS → Option R) : s4 k a r K = callC T F k 4 a r K := by
  unfold s4
  split
  · exact (e4 k _ K).symm
  · rfl
end
section
variable {R : Type}
noncomputable def S30 (k g : Nat) (a : List PV) (r : List RowS) (K : List PV → List RowS → Option R) : Option R := bif g == 66 then s66 k a r K else callC T F k g a r K
theorem S30_eq (k : Nat) : S30 (R := R) k = callC T F k := by
  funext g a r K
  exact pick_eq (fun e => by subst e; exact s66_eq k a r K) (rfl)
theorem q30 (k : Nat) (a0 : Int) (a1 : Bool) (a2 : Int) (a3 : Int) (a4 : List Int) (K : List PV → List RowS → Option R) :
    execS T an30 (modesOf F) 0 k 28 (S30 k) (fun _ _ _ _ _ => none) (ending T Try.f30 an30 0 K) (bodyOf Try.f30) ⟨argEnv 0 [.agg [.val [] (.int .i64) a0, .val [] .bool a1, .val [] (.int .i64) a2, .val [] (.int .i64) a3, .val [(0, 0)] (.slice (.int .u8)) a4]] (fun _ => none), rowsOf []⟩ (ending T Try.f30 an30 0 K) (fun _ _ => none) = f30d (k + 1) a0 a1 a2 a3 a4 (fun z0 => K [.val [] (.int .i64) z0] []) := by kernel_rfl
theorem e30 (k : Nat) (a0 : Int) (a1 : Bool) (a2 : Int) (a3 : Int) (a4 : List Int) (K : List PV → List RowS → Option R) : callC T F k 30 [.agg [.val [] (.int .i64) a0, .val [] .bool a1, .val [] (.int .i64) a2, .val [] (.int .i64) a3, .val [(0, 0)] (.slice (.int .u8)) a4]] [] K = f30 k a0 a1 a2 a3 a4 (fun z0 => K [.val [] (.int .i64) z0] []) := by
  rw [f30_def]
  cases k with
  | zero => rfl
  | succ k =>
    refine Eq.trans (show _ = exec T an30 (modesOf F) 0 k 28 (callC T F k) (ending T Try.f30 an30 0 K) (bodyOf Try.f30) ⟨argEnv 0 [.agg [.val [] (.int .i64) a0, .val [] .bool a1, .val [] (.int .i64) a2, .val [] (.int .i64) a3, .val [(0, 0)] (.slice (.int .u8)) a4]] (fun _ => none), rowsOf []⟩ (ending T Try.f30 an30 0 K) (fun _ _ => none) from by kernel_rfl) ?_
    rw [← S30_eq k, ← execS_eq T an30 (modesOf F) 0 k 28 (S30 k) (fun _ _ _ _ _ => none) (bodyOf Try.f30) (cuts_of _ _ _ _ _ _ _ _ (bodyOf Try.f30) (l := []) (by kernel_rfl) trivial)]
    exact q30 k a0 a1 a2 a3 a4 K
noncomputable def s30 (k : Nat) (a : List PV) (r : List RowS) (K : List PV → List RowS → Option R) : Option R := match a, r with
  | [.agg [.val [] (.int .i64) a0, .val [] .bool a1, .val [] (.int .i64) a2, .val [] (.int .i64) a3, .val [(0, 0)] (.slice (.int .u8)) a4]], [] => f30 k a0 a1 a2 a3 a4 (fun z0 => K [.val [] (.int .i64) z0] [])
  | a, r => callC T F k 30 a r K
theorem s30_eq (k : Nat) (a : List PV) (r : List RowS) (K : List PV → List RowS → Option R) : s30 k a r K = callC T F k 30 a r K := by
  unfold s30
  split
  · exact (e30 k _ _ _ _ _ K).symm
  · rfl
end
end Go.Proofs.Ytahdmfboidjkoaa.PM
