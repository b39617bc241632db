/- The small machine's run is the typed form (printed by a program of this work). -/
import Derived.Test.YtahdmfboidjkoaaPW1
set_option linter.unusedVariables false
set_option linter.unusedSimpArgs false
set_option maxRecDepth 100000
namespace Go.Proofs.Ytahdmfboidjkoaa.PM
open Go
section
variable {R : Type}
noncomputable def S78 (k g : Nat) (a : List PV) (r : List RowS) (K : List PV → List RowS → Option R) : Option R := callC T F k g a r K
theorem S78_eq (k : Nat) : S78 (R := R) k = callC T F k := by
  funext g a r K
  exact rfl
section
variable {R : Type} (k : Nat) (K : List PV → List RowS → Option R)
noncomputable def L78_1000002 (ws : List PV) (rs : List RowS) (N : St → Option R) (X : Nat → St → Option R) : Option R := match ws, rs with
  | [.nils, .val [] (.int .i64) v2_0, .val [] .bool v2_1], [] => f78_1000002 k (N (sh fi78_2 [.nils, .val [] (.int .i64) v2_0] [])) v2_0 v2_1
  | ws, rs => inner T an78 (modesOf F) 0 k 27 (S78 k) (ending T Try.f78 an78 0 K) cd78_1000002 (sh sp78_1000002 ws rs) N X
noncomputable def L78_1000005 (ws : List PV) (rs : List RowS) (N : St → Option R) (X : Nat → St → Option R) : Option R := match ws, rs with
  | [.nils, .val [] (.int .i64) v5_0, .val [] .bool v5_1], [] => f78_1000005 k (fun yN_0 => N (sh fi78_5 [.rw 1] [⟨0, .arr [] (.int .u8) yN_0⟩])) v5_0 v5_1
  | ws, rs => inner T an78 (modesOf F) 0 k 27 (S78 k) (ending T Try.f78 an78 0 K) cd78_1000005 (sh sp78_1000005 ws rs) N X
noncomputable def L78 (id : Nat) (ws : List PV) (rs : List RowS) (N : St → Option R) (X : Nat → St → Option R) : Option R := bif id == 1000002 then L78_1000002 k K ws rs N X else bif id == 1000005 then L78_1000005 k K ws rs N X else none
theorem b78_1000002 (N : St → Option R) (X : Nat → St → Option R) (v2_0 : Int) (v2_1 : Bool) :
    innerS T an78 (modesOf F) 0 k 27 (S78 k) (L78 k K) (ending T Try.f78 an78 0 K) cd78_1000002 (sh sp78_1000002 [.nils, .val [] (.int .i64) v2_0, .val [] .bool v2_1] []) N X = f78_1000002d k (N (sh fi78_2 [.nils, .val [] (.int .i64) v2_0] [])) v2_0 v2_1 := by kernel_rfl
theorem l78_1000002 (ws : List PV) (rs : List RowS) (N : St → Option R) (X : Nat → St → Option R) : L78 k K 1000002 ws rs N X = inner T an78 (modesOf F) 0 k 27 (S78 k) (ending T Try.f78 an78 0 K) cd78_1000002 (sh sp78_1000002 ws rs) N X := by
  show L78_1000002 k K ws rs N X = _
  unfold L78_1000002
  split
  rotate_left
  · rfl
  rename_i v2_0 v2_1
  rw [f78_1000002_def]
  exact ((innerS_eq T an78 (modesOf F) 0 k 27 (S78 k) (L78 k K) cd78_1000002 (l := []) (by kernel_rfl) trivial _ N X).symm.trans (b78_1000002 k K N X v2_0 v2_1)).symm
theorem b78_1000005 (N : St → Option R) (X : Nat → St → Option R) (v5_0 : Int) (v5_1 : Bool) :
    innerS T an78 (modesOf F) 0 k 27 (S78 k) (L78 k K) (ending T Try.f78 an78 0 K) cd78_1000005 (sh sp78_1000005 [.nils, .val [] (.int .i64) v5_0, .val [] .bool v5_1] []) N X = f78_1000005d k (fun yN_0 => N (sh fi78_5 [.rw 1] [⟨0, .arr [] (.int .u8) yN_0⟩])) v5_0 v5_1 := by kernel_rfl
theorem l78_1000005 (ws : List PV) (rs : List RowS) (N : St → Option R) (X : Nat → St → Option R) : L78 k K 1000005 ws rs N X = inner T an78 (modesOf F) 0 k 27 (S78 k) (ending T Try.f78 an78 0 K) cd78_1000005 (sh sp78_1000005 ws rs) N X := by
  show L78_1000005 k K ws rs N X = _
  unfold L78_1000005
  split
  rotate_left
  · rfl
  rename_i v5_0 v5_1
  rw [f78_1000005_def]
  exact ((innerS_eq T an78 (modesOf F) 0 k 27 (S78 k) (L78 k K) cd78_1000005 (l := []) (by kernel_rfl) trivial _ N X).symm.trans (b78_1000005 k K N X v5_0 v5_1)).symm
end
theorem q78 (k : Nat) (a0 : Int) (K : List PV → List RowS → Option R) :
    execS T an78 (modesOf F) 0 k 27 (S78 k) (L78 k K) (ending T Try.f78 an78 0 K) (bodyOf Try.f78) ⟨argEnv 0 [.nils, .val [] (.int .i64) a0] (fun _ => none), rowsOf []⟩ (ending T Try.f78 an78 0 K) (fun _ _ => none) = f78d (k + 1) a0 (fun z0 => K [.rw 1] [⟨0, .arr [] (.int .u8) z0⟩]) := by kernel_rfl
theorem e78 (k : Nat) (a0 : Int) (K : List PV → List RowS → Option R) : callC T F k 78 [.nils, .val [] (.int .i64) a0] [] K = f78 k a0 (fun z0 => K [.rw 1] [⟨0, .arr [] (.int .u8) z0⟩]) := by
  rw [f78_def]
  cases k with
  | zero => rfl
  | succ k =>
    refine Eq.trans (show _ = exec T an78 (modesOf F) 0 k 27 (callC T F k) (ending T Try.f78 an78 0 K) (bodyOf Try.f78) ⟨argEnv 0 [.nils, .val [] (.int .i64) a0] (fun _ => none), rowsOf []⟩ (ending T Try.f78 an78 0 K) (fun _ _ => none) from by kernel_rfl) ?_
    rw [← S78_eq k, ← execS_eq T an78 (modesOf F) 0 k 27 (S78 k) (L78 k K) (bodyOf Try.f78) (cuts_of _ _ _ _ _ _ _ _ (bodyOf Try.f78) (l := [(1000002, sp78_1000002, cd78_1000002), (1000005, sp78_1000005, cd78_1000005)]) (by kernel_rfl) ⟨l78_1000002 k K, l78_1000005 k K, trivial⟩)]
    exact q78 k a0 K
noncomputable def s78 (k : Nat) (a : List PV) (r : List RowS) (K : List PV → List RowS → Option R) : Option R := match a, r with
  | [.nils, .val [] (.int .i64) a0], [] => f78 k a0 (fun z0 => K [.rw 1] [⟨0, .arr [] (.int .u8) z0⟩])
  | a, r => callC T F k 78 a r K
theorem s78_eq (k : Nat) (a : List PV) (r : List RowS) (K : List PV → List RowS → Option R) : s78 k a r K = callC T F k 78 a r K := by
  unfold s78
  split
  · exact (e78 k _ K).symm
  · rfl
end
section
variable {R : Type}
noncomputable def S40 (k g : Nat) (a : List PV) (r : List RowS) (K : List PV → List RowS → Option R) : Option R := bif g == 78 then s78 k a r K else callC T F k g a r K
theorem S40_eq (k : Nat) : S40 (R := R) k = callC T F k := by
  funext g a r K
  exact pick_eq (fun e => by subst e; exact s78_eq k a r K) (rfl)
section
variable {R : Type} (k : Nat) (K : List PV → List RowS → Option R)
noncomputable def L40_1000007 (ws : List PV) (rs : List RowS) (N : St → Option R) (X : Nat → St → Option R) : Option R := match ws, rs with
  | [.val [(0, 0)] (.slice (.slice (.int .u8))) v7_0, .val [] (.int .i64) v7_1, .val [(0, 0)] (.slice (.slice (.int .u8))) v7_2, .val [] (.int .i64) v7_3, .val [] (.int .i64) v7_4, .val [] .bool v7_5], [] => f40_1000007 k (N (sh fi40_7 [.val [(0, 0)] (.slice (.slice (.int .u8))) v7_0, .val [] (.int .i64) v7_1, .val [(0, 0)] (.slice (.slice (.int .u8))) v7_2, .val [] (.int .i64) v7_3, .val [] (.int .i64) v7_4] [])) v7_0 v7_1 v7_2 v7_3 v7_4 v7_5
  | ws, rs => inner T an40 (modesOf F) 0 k 36 (S40 k) (ending T Try.f40 an40 0 K) cd40_1000007 (sh sp40_1000007 ws rs) N X
noncomputable def L40_0 (ws : List PV) (rs : List RowS) (N : St → Option R) (X : Nat → St → Option R) : Option R := match ws, rs with
  | [.val [(0, 0)] (.slice (.slice (.int .u8))) v0_0, .val [] (.int .i64) v0_1, .val [(0, 0)] (.slice (.slice (.int .u8))) v0_2, .val [] (.int .i64) v0_3, .val [] (.int .i64) v0_4], [] => f40_0 k (fun y0_1 => N (sh jn40_0 [.val [(0, 0)] (.slice (.slice (.int .u8))) v0_0, .val [] (.int .i64) y0_1] [])) v0_0 v0_2 v0_3 k v0_1 v0_4
  | ws, rs => inner T an40 (modesOf F) 0 k 36 (S40 k) (ending T Try.f40 an40 0 K) cd40_0 (sh sp40_0 ws rs) N X
noncomputable def L40_2 (ws : List PV) (rs : List RowS) (N : St → Option R) (X : Nat → St → Option R) : Option R := match ws, rs with
  | [.rw 1, .val [(0, 0)] (.slice (.slice (.int .u8))) v2_0, .val [] (.int .i64) v2_1, .val [] (.int .i64) v2_2], [⟨0, .arr [] (.int .u8) v2_3⟩] => f40_2 k (fun y2_0 => N (sh jn40_2 [.rw 1] [⟨0, .arr [] (.int .u8) y2_0⟩])) v2_0 v2_1 k v2_2 v2_3
  | ws, rs => inner T an40 (modesOf F) 0 k 36 (S40 k) (ending T Try.f40 an40 0 K) cd40_2 (sh sp40_2 ws rs) N X
noncomputable def L40 (id : Nat) (ws : List PV) (rs : List RowS) (N : St → Option R) (X : Nat → St → Option R) : Option R := bif id == 1000007 then L40_1000007 k K ws rs N X else bif id == 0 then L40_0 k K ws rs N X else bif id == 2 then L40_2 k K ws rs N X else none
theorem b40_1000007 (N : St → Option R) (X : Nat → St → Option R) (v7_0 : List (List Int)) (v7_1 : Int) (v7_2 : List (List Int)) (v7_3 : Int) (v7_4 : Int) (v7_5 : Bool) :
    innerS T an40 (modesOf F) 0 k 36 (S40 k) (L40 k K) (ending T Try.f40 an40 0 K) cd40_1000007 (sh sp40_1000007 [.val [(0, 0)] (.slice (.slice (.int .u8))) v7_0, .val [] (.int .i64) v7_1, .val [(0, 0)] (.slice (.slice (.int .u8))) v7_2, .val [] (.int .i64) v7_3, .val [] (.int .i64) v7_4, .val [] .bool v7_5] []) N X = f40_1000007d k (N (sh fi40_7 [.val [(0, 0)] (.slice (.slice (.int .u8))) v7_0, .val [] (.int .i64) v7_1, .val [(0, 0)] (.slice (.slice (.int .u8))) v7_2, .val [] (.int .i64) v7_3, .val [] (.int .i64) v7_4] [])) v7_0 v7_1 v7_2 v7_3 v7_4 v7_5 := by kernel_rfl
theorem l40_1000007 (ws : List PV) (rs : List RowS) (N : St → Option R) (X : Nat → St → Option R) : L40 k K 1000007 ws rs N X = inner T an40 (modesOf F) 0 k 36 (S40 k) (ending T Try.f40 an40 0 K) cd40_1000007 (sh sp40_1000007 ws rs) N X := by
  show L40_1000007 k K ws rs N X = _
  unfold L40_1000007
  split
  rotate_left
  · rfl
  rename_i v7_0 v7_1 v7_2 v7_3 v7_4 v7_5
  rw [f40_1000007_def]
  exact ((innerS_eq T an40 (modesOf F) 0 k 36 (S40 k) (L40 k K) cd40_1000007 (l := []) (by kernel_rfl) trivial _ N X).symm.trans (b40_1000007 k K N X v7_0 v7_1 v7_2 v7_3 v7_4 v7_5)).symm
theorem b40_0 (rec : St → Option R) (N : St → Option R) (X : Nat → St → Option R) (v0_0 : List (List Int)) (v0_2 : List (List Int)) (v0_3 : Int) (v0_1 : Int) (v0_4 : Int) :
    execS T an40 (modesOf F) 0 k 36 (S40 k) (L40 k K) (ending T Try.f40 an40 0 K) bd40_0 (sh sp40_0 [.val [(0, 0)] (.slice (.slice (.int .u8))) v0_0, .val [] (.int .i64) v0_1, .val [(0, 0)] (.slice (.slice (.int .u8))) v0_2, .val [] (.int .i64) v0_3, .val [] (.int .i64) v0_4] []) (fun st => atHead an40 0 bd40_0 st rec) (outX an40 0 0 N X) =
      f40_0b k (fun v0_1 v0_4 => rec (sh sp40_0 [.val [(0, 0)] (.slice (.slice (.int .u8))) v0_0, .val [] (.int .i64) v0_1, .val [(0, 0)] (.slice (.slice (.int .u8))) v0_2, .val [] (.int .i64) v0_3, .val [] (.int .i64) v0_4] [])) (fun y0_1 => N (sh jn40_0 [.val [(0, 0)] (.slice (.slice (.int .u8))) v0_0, .val [] (.int .i64) y0_1] [])) v0_0 v0_2 v0_3 v0_1 v0_4 := by kernel_rfl
theorem i40_0 (N : St → Option R) (X : Nat → St → Option R) (v0_0 : List (List Int)) (v0_2 : List (List Int)) (v0_3 : Int) (m : Nat) : ∀ (v0_1 : Int) (v0_4 : Int),
    iter (atHead an40 0 bd40_0) m (fun st N' => exec T an40 (modesOf F) 0 k 36 (S40 k) (ending T Try.f40 an40 0 K) bd40_0 st N' (outX an40 0 0 N X)) (sh sp40_0 [.val [(0, 0)] (.slice (.slice (.int .u8))) v0_0, .val [] (.int .i64) v0_1, .val [(0, 0)] (.slice (.slice (.int .u8))) v0_2, .val [] (.int .i64) v0_3, .val [] (.int .i64) v0_4] []) = f40_0d k (fun y0_1 => N (sh jn40_0 [.val [(0, 0)] (.slice (.slice (.int .u8))) v0_0, .val [] (.int .i64) y0_1] [])) v0_0 v0_2 v0_3 m v0_1 v0_4 := by
  induction m with
  | zero => intros; rfl
  | succ m ih =>
    intro v0_1 v0_4
    simp only [iter]
    rw [← execS_eq T an40 (modesOf F) 0 k 36 (S40 k) (L40 k K) bd40_0 (cuts_of _ _ _ _ _ _ _ _ bd40_0 (l := [(1000007, sp40_1000007, cd40_1000007)]) (by kernel_rfl) ⟨l40_1000007 k K, trivial⟩)]
    refine (b40_0 k K _ N X v0_0 v0_2 v0_3 v0_1 v0_4).trans ?_
    simp only [f40_0d, ih]
theorem l40_0 (ws : List PV) (rs : List RowS) (N : St → Option R) (X : Nat → St → Option R) : L40 k K 0 ws rs N X = inner T an40 (modesOf F) 0 k 36 (S40 k) (ending T Try.f40 an40 0 K) cd40_0 (sh sp40_0 ws rs) N X := by
  show L40_0 k K ws rs N X = _
  unfold L40_0
  split
  rotate_left
  · rfl
  rename_i v0_0 v0_1 v0_2 v0_3 v0_4
  rw [f40_0_def]
  refine Eq.trans ?_ (show iter (atHead an40 0 bd40_0) k (fun st N' => exec T an40 (modesOf F) 0 k 36 (S40 k) (ending T Try.f40 an40 0 K) bd40_0 st N' (outX an40 0 0 N X)) (sh sp40_0 [.val [(0, 0)] (.slice (.slice (.int .u8))) v0_0, .val [] (.int .i64) v0_1, .val [(0, 0)] (.slice (.slice (.int .u8))) v0_2, .val [] (.int .i64) v0_3, .val [] (.int .i64) v0_4] []) = _ from by kernel_rfl)
  exact (i40_0 k K N X v0_0 v0_2 v0_3 k v0_1 v0_4).symm
theorem b40_2 (rec : St → Option R) (N : St → Option R) (X : Nat → St → Option R) (v2_0 : List (List Int)) (v2_1 : Int) (v2_2 : Int) (v2_3 : List Int) :
    execS T an40 (modesOf F) 0 k 36 (S40 k) (L40 k K) (ending T Try.f40 an40 0 K) bd40_2 (sh sp40_2 [.rw 1, .val [(0, 0)] (.slice (.slice (.int .u8))) v2_0, .val [] (.int .i64) v2_1, .val [] (.int .i64) v2_2] [⟨0, .arr [] (.int .u8) v2_3⟩]) (fun st => atHead an40 0 bd40_2 st rec) (outX an40 0 2 N X) =
      f40_2b k (fun v2_2 v2_3 => rec (sh sp40_2 [.rw 1, .val [(0, 0)] (.slice (.slice (.int .u8))) v2_0, .val [] (.int .i64) v2_1, .val [] (.int .i64) v2_2] [⟨0, .arr [] (.int .u8) v2_3⟩])) (fun y2_0 => N (sh jn40_2 [.rw 1] [⟨0, .arr [] (.int .u8) y2_0⟩])) v2_0 v2_1 v2_2 v2_3 := by kernel_rfl
theorem i40_2 (N : St → Option R) (X : Nat → St → Option R) (v2_0 : List (List Int)) (v2_1 : Int) (m : Nat) : ∀ (v2_2 : Int) (v2_3 : List Int),
    iter (atHead an40 0 bd40_2) m (fun st N' => exec T an40 (modesOf F) 0 k 36 (S40 k) (ending T Try.f40 an40 0 K) bd40_2 st N' (outX an40 0 2 N X)) (sh sp40_2 [.rw 1, .val [(0, 0)] (.slice (.slice (.int .u8))) v2_0, .val [] (.int .i64) v2_1, .val [] (.int .i64) v2_2] [⟨0, .arr [] (.int .u8) v2_3⟩]) = f40_2d k (fun y2_0 => N (sh jn40_2 [.rw 1] [⟨0, .arr [] (.int .u8) y2_0⟩])) v2_0 v2_1 m v2_2 v2_3 := by
  induction m with
  | zero => intros; rfl
  | succ m ih =>
    intro v2_2 v2_3
    simp only [iter]
    rw [← execS_eq T an40 (modesOf F) 0 k 36 (S40 k) (L40 k K) bd40_2 (cuts_of _ _ _ _ _ _ _ _ bd40_2 (l := []) (by kernel_rfl) trivial)]
    refine (b40_2 k K _ N X v2_0 v2_1 v2_2 v2_3).trans ?_
    simp only [f40_2d, ih]
theorem l40_2 (ws : List PV) (rs : List RowS) (N : St → Option R) (X : Nat → St → Option R) : L40 k K 2 ws rs N X = inner T an40 (modesOf F) 0 k 36 (S40 k) (ending T Try.f40 an40 0 K) cd40_2 (sh sp40_2 ws rs) N X := by
  show L40_2 k K ws rs N X = _
  unfold L40_2
  split
  rotate_left
  · rfl
  rename_i v2_0 v2_1 v2_2 v2_3
  rw [f40_2_def]
  refine Eq.trans ?_ (show iter (atHead an40 0 bd40_2) k (fun st N' => exec T an40 (modesOf F) 0 k 36 (S40 k) (ending T Try.f40 an40 0 K) bd40_2 st N' (outX an40 0 2 N X)) (sh sp40_2 [.rw 1, .val [(0, 0)] (.slice (.slice (.int .u8))) v2_0, .val [] (.int .i64) v2_1, .val [] (.int .i64) v2_2] [⟨0, .arr [] (.int .u8) v2_3⟩]) = _ from by kernel_rfl)
  exact (i40_2 k K N X v2_0 v2_1 k v2_2 v2_3).symm
end
theorem q40 (k : Nat) (a0 : List (List Int)) (K : List PV → List RowS → Option R) :
    execS T an40 (modesOf F) 0 k 36 (S40 k) (L40 k K) (ending T Try.f40 an40 0 K) (bodyOf Try.f40) ⟨argEnv 0 [.val [(0, 0)] (.slice (.slice (.int .u8))) a0] (fun _ => none), rowsOf []⟩ (ending T Try.f40 an40 0 K) (fun _ _ => none) = f40d (k + 1) a0 (fun z0 => K [.rw 1] [⟨0, .arr [] (.int .u8) z0⟩]) := by kernel_rfl
theorem e40 (k : Nat) (a0 : List (List Int)) (K : List PV → List RowS → Option R) : callC T F k 40 [.val [(0, 0)] (.slice (.slice (.int .u8))) a0] [] K = f40 k a0 (fun z0 => K [.rw 1] [⟨0, .arr [] (.int .u8) z0⟩]) := by
  rw [f40_def]
  cases k with
  | zero => rfl
  | succ k =>
    refine Eq.trans (show _ = exec T an40 (modesOf F) 0 k 36 (callC T F k) (ending T Try.f40 an40 0 K) (bodyOf Try.f40) ⟨argEnv 0 [.val [(0, 0)] (.slice (.slice (.int .u8))) a0] (fun _ => none), rowsOf []⟩ (ending T Try.f40 an40 0 K) (fun _ _ => none) from by kernel_rfl) ?_
    rw [← S40_eq k, ← execS_eq T an40 (modesOf F) 0 k 36 (S40 k) (L40 k K) (bodyOf Try.f40) (cuts_of _ _ _ _ _ _ _ _ (bodyOf Try.f40) (l := [(0, sp40_0, cd40_0), (2, sp40_2, cd40_2)]) (by kernel_rfl) ⟨l40_0 k K, l40_2 k K, trivial⟩)]
    exact q40 k a0 K
noncomputable def s40 (k : Nat) (a : List PV) (r : List RowS) (K : List PV → List RowS → Option R) : Option R := match a, r with
  | [.val [(0, 0)] (.slice (.slice (.int .u8))) a0], [] => f40 k a0 (fun z0 => K [.rw 1] [⟨0, .arr [] (.int .u8) z0⟩])
  | a, r => callC T F k 40 a r K
theorem s40_eq (k : Nat) (a : List PV) (r : List RowS) (K : List PV → List RowS → Option R) : s40 k a r K = callC T F k 40 a r K := by
  unfold s40
  split
  · exact (e40 k _ K).symm
  · rfl
end
section
variable {R : Type}
noncomputable def S71 (k g : Nat) (a : List PV) (r : List RowS) (K : List PV → List RowS → Option R) : Option R := bif g == 20 then s20 k a r K else bif g == 40 then s40 k a r K else bif g == 95 then s95 k a r K else callC T F k g a r K
theorem S71_eq (k : Nat) : S71 (R := R) k = callC T F k := by
  funext g a r K
  exact pick_eq (fun e => by subst e; exact s20_eq k a r K) (pick_eq (fun e => by subst e; exact s40_eq k a r K) (pick_eq (fun e => by subst e; exact s95_eq k a r K) (rfl)))
section
variable {R : Type} (k : Nat) (K : List PV → List RowS → Option R)
noncomputable def L71_1000003 (ws : List PV) (rs : List RowS) (N : St → Option R) (X : Nat → St → Option R) : Option R := match ws, rs with
  | [.ptr 1 0, .val [] (.int .i64) v3_0, .val [] .bool v3_1], [⟨0, .vars [.val [] (.int .i64) v3_2, .val [] .bool v3_3, .val [] (.int .i64) v3_4, .val [] (.int .i64) v3_5, .val [(0, 0)] (.slice (.int .u8)) v3_6]⟩] => f71_1000003 k (fun yN_0 => N (sh fi71_3 [.ptr 1 0, .val [] (.int .i64) yN_0] [⟨0, .vars [.val [] (.int .i64) v3_2, .val [] .bool v3_3, .val [] (.int .i64) v3_4, .val [] (.int .i64) v3_5, .val [(0, 0)] (.slice (.int .u8)) v3_6]⟩])) v3_0 v3_1 v3_2 v3_3 v3_4 v3_5 v3_6
  | ws, rs => inner T an71 (modesOf F) 0 k 34 (S71 k) (ending T Try.f71 an71 0 K) cd71_1000003 (sh sp71_1000003 ws rs) N X
noncomputable def L71 (id : Nat) (ws : List PV) (rs : List RowS) (N : St → Option R) (X : Nat → St → Option R) : Option R := bif id == 1000003 then L71_1000003 k K ws rs N X else none
theorem b71_1000003 (N : St → Option R) (X : Nat → St → Option R) (v3_0 : Int) (v3_1 : Bool) (v3_2 : Int) (v3_3 : Bool) (v3_4 : Int) (v3_5 : Int) (v3_6 : List Int) :
    innerS T an71 (modesOf F) 0 k 34 (S71 k) (L71 k K) (ending T Try.f71 an71 0 K) cd71_1000003 (sh sp71_1000003 [.ptr 1 0, .val [] (.int .i64) v3_0, .val [] .bool v3_1] [⟨0, .vars [.val [] (.int .i64) v3_2, .val [] .bool v3_3, .val [] (.int .i64) v3_4, .val [] (.int .i64) v3_5, .val [(0, 0)] (.slice (.int .u8)) v3_6]⟩]) N X = f71_1000003d k (fun yN_0 => N (sh fi71_3 [.ptr 1 0, .val [] (.int .i64) yN_0] [⟨0, .vars [.val [] (.int .i64) v3_2, .val [] .bool v3_3, .val [] (.int .i64) v3_4, .val [] (.int .i64) v3_5, .val [(0, 0)] (.slice (.int .u8)) v3_6]⟩])) v3_0 v3_1 v3_2 v3_3 v3_4 v3_5 v3_6 := by kernel_rfl
theorem l71_1000003 (ws : List PV) (rs : List RowS) (N : St → Option R) (X : Nat → St → Option R) : L71 k K 1000003 ws rs N X = inner T an71 (modesOf F) 0 k 34 (S71 k) (ending T Try.f71 an71 0 K) cd71_1000003 (sh sp71_1000003 ws rs) N X := by
  show L71_1000003 k K ws rs N X = _
  unfold L71_1000003
  split
  rotate_left
  · rfl
  rename_i v3_0 v3_1 v3_2 v3_3 v3_4 v3_5 v3_6
  rw [f71_1000003_def]
  exact ((innerS_eq T an71 (modesOf F) 0 k 34 (S71 k) (L71 k K) cd71_1000003 (l := []) (by kernel_rfl) trivial _ N X).symm.trans (b71_1000003 k K N X v3_0 v3_1 v3_2 v3_3 v3_4 v3_5 v3_6)).symm
end
theorem q71 (k : Nat) (a0 : Int) (a1 : Bool) (a2 : Int) (a3 : Int) (a4 : List Int) (K : List PV → List RowS → Option R) :
    execS T an71 (modesOf F) 0 k 34 (S71 k) (L71 k K) (ending T Try.f71 an71 0 K) (bodyOf Try.f71) ⟨argEnv 0 [.agg [.val [] (.int .i64) a0, .val [] .bool a1, .val [] (.int .i64) a2, .val [] (.int .i64) a3, .val [(0, 0)] (.slice (.int .u8)) a4]] (fun _ => none), rowsOf []⟩ (ending T Try.f71 an71 0 K) (fun _ _ => none) = f71d (k + 1) a0 a1 a2 a3 a4 (fun z0 => K [.rw 1] [⟨0, .arr [] (.int .u8) z0⟩]) := by kernel_rfl
theorem e71 (k : Nat) (a0 : Int) (a1 : Bool) (a2 : Int) (a3 : Int) (a4 : List Int) (K : List PV → List RowS → Option R) : callC T F k 71 [.agg [.val [] (.int .i64) a0, .val [] .bool a1, .val [] (.int .i64) a2, .val [] (.int .i64) a3, .val [(0, 0)] (.slice (.int .u8)) a4]] [] K = f71 k a0 a1 a2 a3 a4 (fun z0 => K [.rw 1] [⟨0, .arr [] (.int .u8) z0⟩]) := by
  rw [f71_def]
  cases k with
  | zero => rfl
  | succ k =>
    refine Eq.trans (show _ = exec T an71 (modesOf F) 0 k 34 (callC T F k) (ending T Try.f71 an71 0 K) (bodyOf Try.f71) ⟨argEnv 0 [.agg [.val [] (.int .i64) a0, .val [] .bool a1, .val [] (.int .i64) a2, .val [] (.int .i64) a3, .val [(0, 0)] (.slice (.int .u8)) a4]] (fun _ => none), rowsOf []⟩ (ending T Try.f71 an71 0 K) (fun _ _ => none) from by kernel_rfl) ?_
    rw [← S71_eq k, ← execS_eq T an71 (modesOf F) 0 k 34 (S71 k) (L71 k K) (bodyOf Try.f71) (cuts_of _ _ _ _ _ _ _ _ (bodyOf Try.f71) (l := [(1000003, sp71_1000003, cd71_1000003)]) (by kernel_rfl) ⟨l71_1000003 k K, trivial⟩)]
    exact q71 k a0 a1 a2 a3 a4 K
noncomputable def s71 (k : Nat) (a : List PV) (r : List RowS) (K : List PV → List RowS → Option R) : Option R := match a, r with
  | [.agg [.val [] (.int .i64) a0, .val [] .bool a1, .val [] (.int .i64) a2, .val [] (.int .i64) a3, .val [(0, 0)] (.slice (.int .u8)) a4]], [] => f71 k a0 a1 a2 a3 a4 (fun z0 => K [.rw 1] [⟨0, .arr [] (.int .u8) z0⟩])
  | a, r => callC T F k 71 a r K
theorem s71_eq (k : Nat) (a : List PV) (r : List RowS) (K : List PV → List RowS → Option R) : s71 k a r K = callC T F k 71 a r K := by
  unfold s71
  split
  · exact (e71 k _ _ _ _ _ K).symm
  · rfl
end
section
variable {R : Type}
noncomputable def S29 (k g : Nat) (a : List PV) (r : List RowS) (K : List PV → List RowS → Option R) : Option R := bif g == 31 then s31 k a r K else bif g == 71 then s71 k a r K else callC T F k g a r K
theorem S29_eq (k : Nat) : S29 (R := R) k = callC T F k := by
  funext g a r K
  exact pick_eq (fun e => by subst e; exact s31_eq k a r K) (pick_eq (fun e => by subst e; exact s71_eq k a r K) (rfl))
theorem q29 (k : Nat) (a0 : Int) (a1 : Bool) (a2 : Int) (a3 : Int) (a4 : List Int) (K : List PV → List RowS → Option R) :
    execS T an29 (modesOf F) 0 k 12 (S29 k) (fun _ _ _ _ _ => none) (ending T Try.f29 an29 0 K) (bodyOf Try.f29) ⟨argEnv 0 [.agg [.val [] (.int .i64) a0, .val [] .bool a1, .val [] (.int .i64) a2, .val [] (.int .i64) a3, .val [(0, 0)] (.slice (.int .u8)) a4]] (fun _ => none), rowsOf []⟩ (ending T Try.f29 an29 0 K) (fun _ _ => none) = f29d (k + 1) a0 a1 a2 a3 a4 (fun z0 z1 => K [.rw 1, .val [] (.int .i64) z0] [⟨0, .arr [] (.int .u8) z1⟩]) := by kernel_rfl
theorem e29 (k : Nat) (a0 : Int) (a1 : Bool) (a2 : Int) (a3 : Int) (a4 : List Int) (K : List PV → List RowS → Option R) : callC T F k 29 [.agg [.val [] (.int .i64) a0, .val [] .bool a1, .val [] (.int .i64) a2, .val [] (.int .i64) a3, .val [(0, 0)] (.slice (.int .u8)) a4]] [] K = f29 k a0 a1 a2 a3 a4 (fun z0 z1 => K [.rw 1, .val [] (.int .i64) z0] [⟨0, .arr [] (.int .u8) z1⟩]) := by
  rw [f29_def]
  cases k with
  | zero => rfl
  | succ k =>
    refine Eq.trans (show _ = exec T an29 (modesOf F) 0 k 12 (callC T F k) (ending T Try.f29 an29 0 K) (bodyOf Try.f29) ⟨argEnv 0 [.agg [.val [] (.int .i64) a0, .val [] .bool a1, .val [] (.int .i64) a2, .val [] (.int .i64) a3, .val [(0, 0)] (.slice (.int .u8)) a4]] (fun _ => none), rowsOf []⟩ (ending T Try.f29 an29 0 K) (fun _ _ => none) from by kernel_rfl) ?_
    rw [← S29_eq k, ← execS_eq T an29 (modesOf F) 0 k 12 (S29 k) (fun _ _ _ _ _ => none) (bodyOf Try.f29) (cuts_of _ _ _ _ _ _ _ _ (bodyOf Try.f29) (l := []) (by kernel_rfl) trivial)]
    exact q29 k a0 a1 a2 a3 a4 K
noncomputable def s29 (k : Nat) (a : List PV) (r : List RowS) (K : List PV → List RowS → Option R) : Option R := match a, r with
  | [.agg [.val [] (.int .i64) a0, .val [] .bool a1, .val [] (.int .i64) a2, .val [] (.int .i64) a3, .val [(0, 0)] (.slice (.int .u8)) a4]], [] => f29 k a0 a1 a2 a3 a4 (fun z0 z1 => K [.rw 1, .val [] (.int .i64) z0] [⟨0, .arr [] (.int .u8) z1⟩])
  | a, r => callC T F k 29 a r K
theorem s29_eq (k : Nat) (a : List PV) (r : List RowS) (K : List PV → List RowS → Option R) : s29 k a r K = callC T F k 29 a r K := by
  unfold s29
  split
  · exact (e29 k _ _ _ _ _ K).symm
  · rfl
end
section
variable {R : Type}
noncomputable def S6 (k g : Nat) (a : List PV) (r : List RowS) (K : List PV → List RowS → Option R) : Option R := bif g == 21 then s21 k a r K else bif g == 28 then s28 k a r K else bif g == 29 then s29 k a r K else bif g == 30 then s30 k a r K else bif g == 31 then s31 k a r K else bif g == 32 then s32 k a r K else callC T F k g a r K
theorem S6_eq (k : Nat) : S6 (R := R) k = callC T F k := by
  funext g a r K
  exact pick_eq (fun e => by subst e; exact s21_eq k a r K) (pick_eq (fun e => by subst e; exact s28_eq k a r K) (pick_eq (fun e => by subst e; exact s29_eq k a r K) (pick_eq (fun e => by subst e; exact s30_eq k a r K) (pick_eq (fun e => by subst e; exact s31_eq k a r K) (pick_eq (fun e => by subst e; exact s32_eq k a r K) (rfl))))))
theorem q6 (k : Nat) (a0 : Int) (a1 : Bool) (a2 : Int) (a3 : Int) (a4 : List Int) (K : List PV → List RowS → Option R) :
    execS T an6 (modesOf F) 0 k 35 (S6 k) (fun _ _ _ _ _ => none) (ending T Try.f6 an6 0 K) (bodyOf Try.f6) ⟨argEnv 0 [.agg [.val [] (.int .i64) a0, .val [] .bool a1, .val [] (.int .i64) a2, .val [] (.int .i64) a3, .val [(0, 0)] (.slice (.int .u8)) a4]] (fun _ => none), rowsOf []⟩ (ending T Try.f6 an6 0 K) (fun _ _ => none) = f6d (k + 1) a0 a1 a2 a3 a4 (fun z0 => K [.val [] .bool z0] []) := by kernel_rfl
theorem e6 (k : Nat) (a0 : Int) (a1 : Bool) (a2 : Int) (a3 : Int) (a4 : List Int) (K : List PV → List RowS → Option R) : callC T F k 6 [.agg [.val [] (.int .i64) a0, .val [] .bool a1, .val [] (.int .i64) a2, .val [] (.int .i64) a3, .val [(0, 0)] (.slice (.int .u8)) a4]] [] K = f6 k a0 a1 a2 a3 a4 (fun z0 => K [.val [] .bool z0] []) := by
  rw [f6_def]
  cases k with
  | zero => rfl
  | succ k =>
    refine Eq.trans (show _ = exec T an6 (modesOf F) 0 k 35 (callC T F k) (ending T Try.f6 an6 0 K) (bodyOf Try.f6) ⟨argEnv 0 [.agg [.val [] (.int .i64) a0, .val [] .bool a1, .val [] (.int .i64) a2, .val [] (.int .i64) a3, .val [(0, 0)] (.slice (.int .u8)) a4]] (fun _ => none), rowsOf []⟩ (ending T Try.f6 an6 0 K) (fun _ _ => none) from by kernel_rfl) ?_
    rw [← S6_eq k, ← execS_eq T an6 (modesOf F) 0 k 35 (S6 k) (fun _ _ _ _ _ => none) (bodyOf Try.f6) (cuts_of _ _ _ _ _ _ _ _ (bodyOf Try.f6) (l := []) (by kernel_rfl) trivial)]
    exact q6 k a0 a1 a2 a3 a4 K
noncomputable def s6 (k : Nat) (a : List PV) (r : List RowS) (K : List PV → List RowS → Option R) : Option R := match a, r with
  | [.agg [.val [] (.int .i64) a0, .val [] .bool a1, .val [] (.int .i64) a2, .val [] (.int .i64) a3, .val [(0, 0)] (.slice (.int .u8)) a4]], [] => f6 k a0 a1 a2 a3 a4 (fun z0 => K [.val [] .bool z0] [])
  | a, r => callC T F k 6 a r K
theorem s6_eq (k : Nat) (a : List PV) (r : List RowS) (K : List PV → List RowS → Option R) : s6 k a r K = callC T F k 6 a r K := by
  unfold s6
  split
  · exact (e6 k _ _ _ _ _ K).symm
  · rfl
end
section
variable {R : Type}
noncomputable def S96 (k g : Nat) (a : List PV) (r : List RowS) (K : List PV → List RowS → Option R) : Option R := bif g == 66 then s66 k a r K else callC T F k g a r K
theorem S96_eq (k : Nat) : S96 (R := R) k = callC T F k := by
  funext g a r K
  exact pick_eq (fun e => by subst e; exact s66_eq k a r K) (rfl)
theorem q96 (k : Nat) (a0 : Int) (a1 : Int) (a2 : Int) (K : List PV → List RowS → Option R) :
    execS T an96 (modesOf F) 0 k 12 (S96 k) (fun _ _ _ _ _ => none) (ending T Try.f96 an96 0 K) (bodyOf Try.f96) ⟨argEnv 0 [.val [] (.int .i64) a0, .val [] (.int .i64) a1, .val [] (.int .i64) a2] (fun _ => none), rowsOf []⟩ (ending T Try.f96 an96 0 K) (fun _ _ => none) = f96d (k + 1) a0 a1 a2 (fun z0 => K [.val [] (.int .i64) z0] []) := by kernel_rfl
theorem e96 (k : Nat) (a0 : Int) (a1 : Int) (a2 : Int) (K : List PV → List RowS → Option R) : callC T F k 96 [.val [] (.int .i64) a0, .val [] (.int .i64) a1, .val [] (.int .i64) a2] [] K = f96 k a0 a1 a2 (fun z0 => K [.val [] (.int .i64) z0] []) := by
  rw [f96_def]
  cases k with
  | zero => rfl
  | succ k =>
    refine Eq.trans (show _ = exec T an96 (modesOf F) 0 k 12 (callC T F k) (ending T Try.f96 an96 0 K) (bodyOf Try.f96) ⟨argEnv 0 [.val [] (.int .i64) a0, .val [] (.int .i64) a1, .val [] (.int .i64) a2] (fun _ => none), rowsOf []⟩ (ending T Try.f96 an96 0 K) (fun _ _ => none) from by kernel_rfl) ?_
    rw [← S96_eq k, ← execS_eq T an96 (modesOf F) 0 k 12 (S96 k) (fun _ _ _ _ _ => none) (bodyOf Try.f96) (cuts_of _ _ _ _ _ _ _ _ (bodyOf Try.f96) (l := []) (by kernel_rfl) trivial)]
    exact q96 k a0 a1 a2 K
noncomputable def s96 (k : Nat) (a : List PV) (r : List RowS) (K : List PV → List RowS → Option R) : Option R := match a, r with
  | [.val [] (.int .i64) a0, .val [] (.int .i64) a1, .val [] (.int .i64) a2], [] => f96 k a0 a1 a2 (fun z0 => K [.val [] (.int .i64) z0] [])
  | a, r => callC T F k 96 a r K
theorem s96_eq (k : Nat) (a : List PV) (r : List RowS) (K : List PV → List RowS → Option R) : s96 k a r K = callC T F k 96 a r K := by
  unfold s96
  split
  · exact (e96 k _ _ _ K).symm
  · rfl
end
section
variable {R : Type}
noncomputable def S75 (k g : Nat) (a : List PV) (r : List RowS) (K : List PV → List RowS → Option R) : Option R := bif g == 96 then s96 k a r K else callC T F k g a r K
theorem S75_eq (k : Nat) : S75 (R := R) k = callC T F k := by
  funext g a r K
  exact pick_eq (fun e => by subst e; exact s96_eq k a r K) (rfl)
theorem q75 (k : Nat) (a0 : Int) (K : List PV → List RowS → Option R) :
    execS T an75 (modesOf F) 0 k 5 (S75 k) (fun _ _ _ _ _ => none) (ending T Try.f75 an75 0 K) (bodyOf Try.f75) ⟨argEnv 0 [.val [] (.int .i64) a0] (fun _ => none), rowsOf []⟩ (ending T Try.f75 an75 0 K) (fun _ _ => none) = f75d (k + 1) a0 (fun z0 => K [.val [] (.int .i64) z0] []) := by kernel_rfl
theorem e75 (k : Nat) (a0 : Int) (K : List PV → List RowS → Option R) : callC T F k 75 [.val [] (.int .i64) a0] [] K = f75 k a0 (fun z0 => K [.val [] (.int .i64) z0] []) := by
  rw [f75_def]
  cases k with
  | zero => rfl
  | succ k =>
    refine Eq.trans (show _ = exec T an75 (modesOf F) 0 k 5 (callC T F k) (ending T Try.f75 an75 0 K) (bodyOf Try.f75) ⟨argEnv 0 [.val [] (.int .i64) a0] (fun _ => none), rowsOf []⟩ (ending T Try.f75 an75 0 K) (fun _ _ => none) from by kernel_rfl) ?_
    rw [← S75_eq k, ← execS_eq T an75 (modesOf F) 0 k 5 (S75 k) (fun _ _ _ _ _ => none) (bodyOf Try.f75) (cuts_of _ _ _ _ _ _ _ _ (bodyOf Try.f75) (l := []) (by kernel_rfl) trivial)]
    exact q75 k a0 K
noncomputable def s75 (k : Nat) (a : List PV) (r : List RowS) (K : List PV → List RowS → Option R) : Option R := match a, r with
  | [.val [] (.int .i64) a0], [] => f75 k a0 (fun z0 => K [.val [] (.int .i64) z0] [])
  | a, r => callC T F k 75 a r K
theorem s75_eq (k : Nat) (a : List PV) (r : List RowS) (K : List PV → List RowS → Option R) : s75 k a r K = callC T F k 75 a r K := by
  unfold s75
  split
  · exact (e75 k _ K).symm
  · rfl
end
section
variable {R : Type}
noncomputable def S35 (k g : Nat) (a : List PV) (r : List RowS) (K : List PV → List RowS → Option R) : Option R := bif g == 66 then s66 k a r K else bif g == 75 then s75 k a r K else callC T F k g a r K
theorem S35_eq (k : Nat) : S35 (R := R) k = callC T F k := by
  funext g a r K
  exact pick_eq (fun e => by subst e; exact s66_eq k a r K) (pick_eq (fun e => by subst e; exact s75_eq k a r K) (rfl))
theorem q35 (k : Nat) (a0 : Int) (a1 : Int) (a2 : Int) (a3 : Int) (a4 : List Int) (a5 : Int) (K : List PV → List RowS → Option R) :
    execS T an35 (modesOf F) 0 k 47 (S35 k) (fun _ _ _ _ _ => none) (ending T Try.f35 an35 0 K) (bodyOf Try.f35) ⟨argEnv 0 [.agg [.val [] (.int .i64) a0, .val [] (.int .i64) a1, .val [] (.int .i64) a2, .val [] (.int .i64) a3, .val [(0, 0)] (.slice (.int .u8)) a4], .val [] (.int .i64) a5] (fun _ => none), rowsOf []⟩ (ending T Try.f35 an35 0 K) (fun _ _ => none) = f35d (k + 1) a0 a1 a2 a3 a4 a5 (fun z0 => K [.val [] (.int .i64) z0] []) := by kernel_rfl
theorem e35 (k : Nat) (a0 : Int) (a1 : Int) (a2 : Int) (a3 : Int) (a4 : List Int) (a5 : Int) (K : List PV → List RowS → Option R) : callC T F k 35 [.agg [.val [] (.int .i64) a0, .val [] (.int .i64) a1, .val [] (.int .i64) a2, .val [] (.int .i64) a3, .val [(0, 0)] (.slice (.int .u8)) a4], .val [] (.int .i64) a5] [] K = f35 k a0 a1 a2 a3 a4 a5 (fun z0 => K [.val [] (.int .i64) z0] []) := by
  rw [f35_def]
  cases k with
  | zero => rfl
  | succ k =>
    refine Eq.trans (show _ = exec T an35 (modesOf F) 0 k 47 (callC T F k) (ending T Try.f35 an35 0 K) (bodyOf Try.f35) ⟨argEnv 0 [.agg [.val [] (.int .i64) a0, .val [] (.int .i64) a1, .val [] (.int .i64) a2, .val [] (.int .i64) a3, .val [(0, 0)] (.slice (.int .u8)) a4], .val [] (.int .i64) a5] (fun _ => none), rowsOf []⟩ (ending T Try.f35 an35 0 K) (fun _ _ => none) from by kernel_rfl) ?_
    rw [← S35_eq k, ← execS_eq T an35 (modesOf F) 0 k 47 (S35 k) (fun _ _ _ _ _ => none) (bodyOf Try.f35) (cuts_of _ _ _ _ _ _ _ _ (bodyOf Try.f35) (l := []) (by kernel_rfl) trivial)]
    exact q35 k a0 a1 a2 a3 a4 a5 K
noncomputable def s35 (k : Nat) (a : List PV) (r : List RowS) (K : List PV → List RowS → Option R) : Option R := match a, r with
  | [.agg [.val [] (.int .i64) a0, .val [] (.int .i64) a1, .val [] (.int .i64) a2, .val [] (.int .i64) a3, .val [(0, 0)] (.slice (.int .u8)) a4], .val [] (.int .i64) a5], [] => f35 k a0 a1 a2 a3 a4 a5 (fun z0 => K [.val [] (.int .i64) z0] [])
  | a, r => callC T F k 35 a r K
theorem s35_eq (k : Nat) (a : List PV) (r : List RowS) (K : List PV → List RowS → Option R) : s35 k a r K = callC T F k 35 a r K := by
  unfold s35
  split
  · exact (e35 k _ _ _ _ _ _ K).symm
  · rfl
end
section
variable {R : Type}
noncomputable def S33 (k g : Nat) (a : List PV) (r : List RowS) (K : List PV → List RowS → Option R) : Option R := bif g == 35 then s35 k a r K else bif g == 72 then s72 k a r K else bif g == 73 then s73 k a r K else callC T F k g a r K
theorem S33_eq (k : Nat) : S33 (R := R) k = callC T F k := by
  funext g a r K
  exact pick_eq (fun e => by subst e; exact s35_eq k a r K) (pick_eq (fun e => by subst e; exact s72_eq k a r K) (pick_eq (fun e => by subst e; exact s73_eq k a r K) (rfl)))
theorem q33 (k : Nat) (a0 : Int) (a1 : Int) (a2 : Int) (a3 : Int) (a4 : List Int) (a5 : Int) (K : List PV → List RowS → Option R) :
    execS T an33 (modesOf F) 0 k 35 (S33 k) (fun _ _ _ _ _ => none) (ending T Try.f33 an33 0 K) (bodyOf Try.f33) ⟨argEnv 0 [.agg [.val [] (.int .i64) a0, .val [] (.int .i64) a1, .val [] (.int .i64) a2, .val [] (.int .i64) a3, .val [(0, 0)] (.slice (.int .u8)) a4], .val [] (.int .i64) a5] (fun _ => none), rowsOf []⟩ (ending T Try.f33 an33 0 K) (fun _ _ => none) = f33d (k + 1) a0 a1 a2 a3 a4 a5 (fun z0 z1 => K [.rw 1, .val [] (.int .i64) z0] [⟨0, .arr [] (.int .u8) z1⟩]) := by kernel_rfl
theorem e33 (k : Nat) (a0 : Int) (a1 : Int) (a2 : Int) (a3 : Int) (a4 : List Int) (a5 : Int) (K : List PV → List RowS → Option R) : callC T F k 33 [.agg [.val [] (.int .i64) a0, .val [] (.int .i64) a1, .val [] (.int .i64) a2, .val [] (.int .i64) a3, .val [(0, 0)] (.slice (.int .u8)) a4], .val [] (.int .i64) a5] [] K = f33 k a0 a1 a2 a3 a4 a5 (fun z0 z1 => K [.rw 1, .val [] (.int .i64) z0] [⟨0, .arr [] (.int .u8) z1⟩]) := by
  rw [f33_def]
  cases k with
  | zero => rfl
  | succ k =>
    refine Eq.trans (show _ = exec T an33 (modesOf F) 0 k 35 (callC T F k) (ending T Try.f33 an33 0 K) (bodyOf Try.f33) ⟨argEnv 0 [.agg [.val [] (.int .i64) a0, .val [] (.int .i64) a1, .val [] (.int .i64) a2, .val [] (.int .i64) a3, .val [(0, 0)] (.slice (.int .u8)) a4], .val [] (.int .i64) a5] (fun _ => none), rowsOf []⟩ (ending T Try.f33 an33 0 K) (fun _ _ => none) from by kernel_rfl) ?_
    rw [← S33_eq k, ← execS_eq T an33 (modesOf F) 0 k 35 (S33 k) (fun _ _ _ _ _ => none) (bodyOf Try.f33) (cuts_of _ _ _ _ _ _ _ _ (bodyOf Try.f33) (l := []) (by kernel_rfl) trivial)]
    exact q33 k a0 a1 a2 a3 a4 a5 K
noncomputable def s33 (k : Nat) (a : List PV) (r : List RowS) (K : List PV → List RowS → Option R) : Option R := match a, r with
  | [.agg [.val [] (.int .i64) a0, .val [] (.int .i64) a1, .val [] (.int .i64) a2, .val [] (.int .i64) a3, .val [(0, 0)] (.slice (.int .u8)) a4], .val [] (.int .i64) a5], [] => f33 k a0 a1 a2 a3 a4 a5 (fun z0 z1 => K [.rw 1, .val [] (.int .i64) z0] [⟨0, .arr [] (.int .u8) z1⟩])
  | a, r => callC T F k 33 a r K
theorem s33_eq (k : Nat) (a : List PV) (r : List RowS) (K : List PV → List RowS → Option R) : s33 k a r K = callC T F k 33 a r K := by
  unfold s33
  split
  · exact (e33 k _ _ _ _ _ _ K).symm
  · rfl
end
section
variable {R : Type}
noncomputable def S76 (k g : Nat) (a : List PV) (r : List RowS) (K : List PV → List RowS → Option R) : Option R := bif g == 69 then s69 k a r K else callC T F k g a r K
theorem S76_eq (k : Nat) : S76 (R := R) k = callC T F k := by
  funext g a r K
  exact pick_eq (fun e => by subst e; exact s69_eq k a r K) (rfl)
theorem q76 (k : Nat) (a0 : Int) (K : List PV → List RowS → Option R) :
    execS T an76 (modesOf F) 0 k 6 (S76 k) (fun _ _ _ _ _ => none) (ending T Try.f76 an76 0 K) (bodyOf Try.f76) ⟨argEnv 0 [.val [] (.int .i64) a0] (fun _ => none), rowsOf []⟩ (ending T Try.f76 an76 0 K) (fun _ _ => none) = f76d (k + 1) a0 (fun z0 => K [.val [] (.int .i64) z0] []) := by kernel_rfl
theorem e76 (k : Nat) (a0 : Int) (K : List PV → List RowS → Option R) : callC T F k 76 [.val [] (.int .i64) a0] [] K = f76 k a0 (fun z0 => K [.val [] (.int .i64) z0] []) := by
  rw [f76_def]
  cases k with
  | zero => rfl
  | succ k =>
    refine Eq.trans (show _ = exec T an76 (modesOf F) 0 k 6 (callC T F k) (ending T Try.f76 an76 0 K) (bodyOf Try.f76) ⟨argEnv 0 [.val [] (.int .i64) a0] (fun _ => none), rowsOf []⟩ (ending T Try.f76 an76 0 K) (fun _ _ => none) from by kernel_rfl) ?_
    rw [← S76_eq k, ← execS_eq T an76 (modesOf F) 0 k 6 (S76 k) (fun _ _ _ _ _ => none) (bodyOf Try.f76) (cuts_of _ _ _ _ _ _ _ _ (bodyOf Try.f76) (l := []) (by kernel_rfl) trivial)]
    exact q76 k a0 K
noncomputable def s76 (k : Nat) (a : List PV) (r : List RowS) (K : List PV → List RowS → Option R) : Option R := match a, r with
  | [.val [] (.int .i64) a0], [] => f76 k a0 (fun z0 => K [.val [] (.int .i64) z0] [])
  | a, r => callC T F k 76 a r K
theorem s76_eq (k : Nat) (a : List PV) (r : List RowS) (K : List PV → List RowS → Option R) : s76 k a r K = callC T F k 76 a r K := by
  unfold s76
  split
  · exact (e76 k _ K).symm
  · rfl
end
section
variable {R : Type}
noncomputable def S77 (k g : Nat) (a : List PV) (r : List RowS) (K : List PV → List RowS → Option R) : Option R := bif g == 69 then s69 k a r K else callC T F k g a r K
theorem S77_eq (k : Nat) : S77 (R := R) k = callC T F k := by
  funext g a r K
  exact pick_eq (fun e => by subst e; exact s69_eq k a r K) (rfl)
theorem q77 (k : Nat) (a0 : Int) (a1 : Int) (a2 : Int) (K : List PV → List RowS → Option R) :
    execS T an77 (modesOf F) 0 k 20 (S77 k) (fun _ _ _ _ _ => none) (ending T Try.f77 an77 0 K) (bodyOf Try.f77) ⟨argEnv 0 [.val [] (.int .i64) a0, .val [] (.int .i64) a1, .val [] (.int .i64) a2] (fun _ => none), rowsOf []⟩ (ending T Try.f77 an77 0 K) (fun _ _ => none) = f77d (k + 1) a0 a1 a2 (fun z0 => K [.val [] (.int .i64) z0] []) := by kernel_rfl
theorem e77 (k : Nat) (a0 : Int) (a1 : Int) (a2 : Int) (K : List PV → List RowS → Option R) : callC T F k 77 [.val [] (.int .i64) a0, .val [] (.int .i64) a1, .val [] (.int .i64) a2] [] K = f77 k a0 a1 a2 (fun z0 => K [.val [] (.int .i64) z0] []) := by
  rw [f77_def]
  cases k with
  | zero => rfl
  | succ k =>
    refine Eq.trans (show _ = exec T an77 (modesOf F) 0 k 20 (callC T F k) (ending T Try.f77 an77 0 K) (bodyOf Try.f77) ⟨argEnv 0 [.val [] (.int .i64) a0, .val [] (.int .i64) a1, .val [] (.int .i64) a2] (fun _ => none), rowsOf []⟩ (ending T Try.f77 an77 0 K) (fun _ _ => none) from by kernel_rfl) ?_
    rw [← S77_eq k, ← execS_eq T an77 (modesOf F) 0 k 20 (S77 k) (fun _ _ _ _ _ => none) (bodyOf Try.f77) (cuts_of _ _ _ _ _ _ _ _ (bodyOf Try.f77) (l := []) (by kernel_rfl) trivial)]
    exact q77 k a0 a1 a2 K
noncomputable def s77 (k : Nat) (a : List PV) (r : List RowS) (K : List PV → List RowS → Option R) : Option R := match a, r with
  | [.val [] (.int .i64) a0, .val [] (.int .i64) a1, .val [] (.int .i64) a2], [] => f77 k a0 a1 a2 (fun z0 => K [.val [] (.int .i64) z0] [])
  | a, r => callC T F k 77 a r K
theorem s77_eq (k : Nat) (a : List PV) (r : List RowS) (K : List PV → List RowS → Option R) : s77 k a r K = callC T F k 77 a r K := by
  unfold s77
  split
  · exact (e77 k _ _ _ K).symm
  · rfl
end
section
variable {R : Type}
noncomputable def S36 (k g : Nat) (a : List PV) (r : List RowS) (K : List PV → List RowS → Option R) : Option R := bif g == 69 then s69 k a r K else bif g == 76 then s76 k a r K else bif g == 77 then s77 k a r K else callC T F k g a r K
theorem S36_eq (k : Nat) : S36 (R := R) k = callC T F k := by
  funext g a r K
  exact pick_eq (fun e => by subst e; exact s69_eq k a r K) (pick_eq (fun e => by subst e; exact s76_eq k a r K) (pick_eq (fun e => by subst e; exact s77_eq k a r K) (rfl)))
theorem q36 (k : Nat) (a0 : Int) (a1 : Int) (a2 : Int) (a3 : Int) (a4 : List Int) (a5 : Int) (K : List PV → List RowS → Option R) :
    execS T an36 (modesOf F) 0 k 41 (S36 k) (fun _ _ _ _ _ => none) (ending T Try.f36 an36 0 K) (bodyOf Try.f36) ⟨argEnv 0 [.agg [.val [] (.int .i64) a0, .val [] (.int .i64) a1, .val [] (.int .i64) a2, .val [] (.int .i64) a3, .val [(0, 0)] (.slice (.int .u8)) a4], .val [] (.int .i64) a5] (fun _ => none), rowsOf []⟩ (ending T Try.f36 an36 0 K) (fun _ _ => none) = f36d (k + 1) a0 a1 a2 a3 a4 a5 (fun z0 => K [.val [] (.int .i64) z0] []) := by kernel_rfl
theorem e36 (k : Nat) (a0 : Int) (a1 : Int) (a2 : Int) (a3 : Int) (a4 : List Int) (a5 : Int) (K : List PV → List RowS → Option R) : callC T F k 36 [.agg [.val [] (.int .i64) a0, .val [] (.int .i64) a1, .val [] (.int .i64) a2, .val [] (.int .i64) a3, .val [(0, 0)] (.slice (.int .u8)) a4], .val [] (.int .i64) a5] [] K = f36 k a0 a1 a2 a3 a4 a5 (fun z0 => K [.val [] (.int .i64) z0] []) := by
  rw [f36_def]
  cases k with
  | zero => rfl
  | succ k =>
    refine Eq.trans (show _ = exec T an36 (modesOf F) 0 k 41 (callC T F k) (ending T Try.f36 an36 0 K) (bodyOf Try.f36) ⟨argEnv 0 [.agg [.val [] (.int .i64) a0, .val [] (.int .i64) a1, .val [] (.int .i64) a2, .val [] (.int .i64) a3, .val [(0, 0)] (.slice (.int .u8)) a4], .val [] (.int .i64) a5] (fun _ => none), rowsOf []⟩ (ending T Try.f36 an36 0 K) (fun _ _ => none) from by kernel_rfl) ?_
    rw [← S36_eq k, ← execS_eq T an36 (modesOf F) 0 k 41 (S36 k) (fun _ _ _ _ _ => none) (bodyOf Try.f36) (cuts_of _ _ _ _ _ _ _ _ (bodyOf Try.f36) (l := []) (by kernel_rfl) trivial)]
    exact q36 k a0 a1 a2 a3 a4 a5 K
noncomputable def s36 (k : Nat) (a : List PV) (r : List RowS) (K : List PV → List RowS → Option R) : Option R := match a, r with
  | [.agg [.val [] (.int .i64) a0, .val [] (.int .i64) a1, .val [] (.int .i64) a2, .val [] (.int .i64) a3, .val [(0, 0)] (.slice (.int .u8)) a4], .val [] (.int .i64) a5], [] => f36 k a0 a1 a2 a3 a4 a5 (fun z0 => K [.val [] (.int .i64) z0] [])
  | a, r => callC T F k 36 a r K
theorem s36_eq (k : Nat) (a : List PV) (r : List RowS) (K : List PV → List RowS → Option R) : s36 k a r K = callC T F k 36 a r K := by
  unfold s36
  split
  · exact (e36 k _ _ _ _ _ _ K).symm
  · rfl
end
section
variable {R : Type}
noncomputable def S74 (k g : Nat) (a : List PV) (r : List RowS) (K : List PV → List RowS → Option R) : Option R := bif g == 20 then s20 k a r K else bif g == 40 then s40 k a r K else bif g == 95 then s95 k a r K else callC T F k g a r K
theorem S74_eq (k : Nat) : S74 (R := R) k = callC T F k := by
  funext g a r K
  exact pick_eq (fun e => by subst e; exact s20_eq k a r K) (pick_eq (fun e => by subst e; exact s40_eq k a r K) (pick_eq (fun e => by subst e; exact s95_eq k a r K) (rfl)))
theorem q74 (k : Nat) (a0 : Int) (a1 : Int) (a2 : Int) (a3 : Int) (a4 : List Int) (K : List PV → List RowS → Option R) :
    execS T an74 (modesOf F) 0 k 26 (S74 k) (fun _ _ _ _ _ => none) (ending T Try.f74 an74 0 K) (bodyOf Try.f74) ⟨argEnv 0 [.agg [.val [] (.int .i64) a0, .val [] (.int .i64) a1, .val [] (.int .i64) a2, .val [] (.int .i64) a3, .val [(0, 0)] (.slice (.int .u8)) a4]] (fun _ => none), rowsOf []⟩ (ending T Try.f74 an74 0 K) (fun _ _ => none) = f74d (k + 1) a0 a1 a2 a3 a4 (fun z0 => K [.rw 1] [⟨0, .arr [] (.int .u8) z0⟩]) := by kernel_rfl
theorem e74 (k : Nat) (a0 : Int) (a1 : Int) (a2 : Int) (a3 : Int) (a4 : List Int) (K : List PV → List RowS → Option R) : callC T F k 74 [.agg [.val [] (.int .i64) a0, .val [] (.int .i64) a1, .val [] (.int .i64) a2, .val [] (.int .i64) a3, .val [(0, 0)] (.slice (.int .u8)) a4]] [] K = f74 k a0 a1 a2 a3 a4 (fun z0 => K [.rw 1] [⟨0, .arr [] (.int .u8) z0⟩]) := by
  rw [f74_def]
  cases k with
  | zero => rfl
  | succ k =>
    refine Eq.trans (show _ = exec T an74 (modesOf F) 0 k 26 (callC T F k) (ending T Try.f74 an74 0 K) (bodyOf Try.f74) ⟨argEnv 0 [.agg [.val [] (.int .i64) a0, .val [] (.int .i64) a1, .val [] (.int .i64) a2, .val [] (.int .i64) a3, .val [(0, 0)] (.slice (.int .u8)) a4]] (fun _ => none), rowsOf []⟩ (ending T Try.f74 an74 0 K) (fun _ _ => none) from by kernel_rfl) ?_
    rw [← S74_eq k, ← execS_eq T an74 (modesOf F) 0 k 26 (S74 k) (fun _ _ _ _ _ => none) (bodyOf Try.f74) (cuts_of _ _ _ _ _ _ _ _ (bodyOf Try.f74) (l := []) (by kernel_rfl) trivial)]
    exact q74 k a0 a1 a2 a3 a4 K
noncomputable def s74 (k : Nat) (a : List PV) (r : List RowS) (K : List PV → List RowS → Option R) : Option R := match a, r with
  | [.agg [.val [] (.int .i64) a0, .val [] (.int .i64) a1, .val [] (.int .i64) a2, .val [] (.int .i64) a3, .val [(0, 0)] (.slice (.int .u8)) a4]], [] => f74 k a0 a1 a2 a3 a4 (fun z0 => K [.rw 1] [⟨0, .arr [] (.int .u8) z0⟩])
  | a, r => callC T F k 74 a r K
theorem s74_eq (k : Nat) (a : List PV) (r : List RowS) (K : List PV → List RowS → Option R) : s74 k a r K = callC T F k 74 a r K := by
  unfold s74
  split
  · exact (e74 k _ _ _ _ _ K).symm
  · rfl
end
section
variable {R : Type}
noncomputable def S34 (k g : Nat) (a : List PV) (r : List RowS) (K : List PV → List RowS → Option R) : Option R := bif g == 36 then s36 k a r K else bif g == 74 then s74 k a r K else callC T F k g a r K
theorem S34_eq (k : Nat) : S34 (R := R) k = callC T F k := by
  funext g a r K
  exact pick_eq (fun e => by subst e; exact s36_eq k a r K) (pick_eq (fun e => by subst e; exact s74_eq k a r K) (rfl))
theorem q34 (k : Nat) (a0 : Int) (a1 : Int) (a2 : Int) (a3 : Int) (a4 : List Int) (a5 : Int) (K : List PV → List RowS → Option R) :
    execS T an34 (modesOf F) 0 k 15 (S34 k) (fun _ _ _ _ _ => none) (ending T Try.f34 an34 0 K) (bodyOf Try.f34) ⟨argEnv 0 [.agg [.val [] (.int .i64) a0, .val [] (.int .i64) a1, .val [] (.int .i64) a2, .val [] (.int .i64) a3, .val [(0, 0)] (.slice (.int .u8)) a4], .val [] (.int .i64) a5] (fun _ => none), rowsOf []⟩ (ending T Try.f34 an34 0 K) (fun _ _ => none) = f34d (k + 1) a0 a1 a2 a3 a4 a5 (fun z0 z1 => K [.rw 1, .val [] (.int .i64) z0] [⟨0, .arr [] (.int .u8) z1⟩]) := by kernel_rfl
theorem e34 (k : Nat) (a0 : Int) (a1 : Int) (a2 : Int) (a3 : Int) (a4 : List Int) (a5 : Int) (K : List PV → List RowS → Option R) : callC T F k 34 [.agg [.val [] (.int .i64) a0, .val [] (.int .i64) a1, .val [] (.int .i64) a2, .val [] (.int .i64) a3, .val [(0, 0)] (.slice (.int .u8)) a4], .val [] (.int .i64) a5] [] K = f34 k a0 a1 a2 a3 a4 a5 (fun z0 z1 => K [.rw 1, .val [] (.int .i64) z0] [⟨0, .arr [] (.int .u8) z1⟩]) := by
  rw [f34_def]
  cases k with
  | zero => rfl
  | succ k =>
    refine Eq.trans (show _ = exec T an34 (modesOf F) 0 k 15 (callC T F k) (ending T Try.f34 an34 0 K) (bodyOf Try.f34) ⟨argEnv 0 [.agg [.val [] (.int .i64) a0, .val [] (.int .i64) a1, .val [] (.int .i64) a2, .val [] (.int .i64) a3, .val [(0, 0)] (.slice (.int .u8)) a4], .val [] (.int .i64) a5] (fun _ => none), rowsOf []⟩ (ending T Try.f34 an34 0 K) (fun _ _ => none) from by kernel_rfl) ?_
    rw [← S34_eq k, ← execS_eq T an34 (modesOf F) 0 k 15 (S34 k) (fun _ _ _ _ _ => none) (bodyOf Try.f34) (cuts_of _ _ _ _ _ _ _ _ (bodyOf Try.f34) (l := []) (by kernel_rfl) trivial)]
    exact q34 k a0 a1 a2 a3 a4 a5 K
noncomputable def s34 (k : Nat) (a : List PV) (r : List RowS) (K : List PV → List RowS → Option R) : Option R := match a, r with
  | [.agg [.val [] (.int .i64) a0, .val [] (.int .i64) a1, .val [] (.int .i64) a2, .val [] (.int .i64) a3, .val [(0, 0)] (.slice (.int .u8)) a4], .val [] (.int .i64) a5], [] => f34 k a0 a1 a2 a3 a4 a5 (fun z0 z1 => K [.rw 1, .val [] (.int .i64) z0] [⟨0, .arr [] (.int .u8) z1⟩])
  | a, r => callC T F k 34 a r K
theorem s34_eq (k : Nat) (a : List PV) (r : List RowS) (K : List PV → List RowS → Option R) : s34 k a r K = callC T F k 34 a r K := by
  unfold s34
  split
  · exact (e34 k _ _ _ _ _ _ K).symm
  · rfl
end
section
variable {R : Type}
noncomputable def S37 (k g : Nat) (a : List PV) (r : List RowS) (K : List PV → List RowS → Option R) : Option R := bif g == 35 then s35 k a r K else bif g == 41 then s41 k a r K else bif g == 65 then s65 k a r K else bif g == 67 then s67 k a r K else bif g == 75 then s75 k a r K else callC T F k g a r K
theorem S37_eq (k : Nat) : S37 (R := R) k = callC T F k := by
  funext g a r K
  exact pick_eq (fun e => by subst e; exact s35_eq k a r K) (pick_eq (fun e => by subst e; exact s41_eq k a r K) (pick_eq (fun e => by subst e; exact s65_eq k a r K) (pick_eq (fun e => by subst e; exact s67_eq k a r K) (pick_eq (fun e => by subst e; exact s75_eq k a r K) (rfl)))))
theorem q37 (k : Nat) (a0 : List Int) (a1 : Int) (K : List PV → List RowS → Option R) :
    execS T an37 (modesOf F) 0 k 51 (S37 k) (fun _ _ _ _ _ => none) (ending T Try.f37 an37 0 K) (bodyOf Try.f37) ⟨argEnv 0 [.val [(0, 0)] (.slice (.int .u8)) a0, .val [] (.int .i64) a1] (fun _ => none), rowsOf []⟩ (ending T Try.f37 an37 0 K) (fun _ _ => none) = f37d (k + 1) a0 a1 (fun z0 z1 z2 z3 z4 z5 => K [.agg [.val [] (.int .i64) z0, .val [] (.int .i64) z1, .val [] (.int .i64) z2, .val [] (.int .i64) z3, .rw 1], .val [] (.int .i64) z4] [⟨0, .arr [] (.int .u8) z5⟩]) := by kernel_rfl
theorem e37 (k : Nat) (a0 : List Int) (a1 : Int) (K : List PV → List RowS → Option R) : callC T F k 37 [.val [(0, 0)] (.slice (.int .u8)) a0, .val [] (.int .i64) a1] [] K = f37 k a0 a1 (fun z0 z1 z2 z3 z4 z5 => K [.agg [.val [] (.int .i64) z0, .val [] (.int .i64) z1, .val [] (.int .i64) z2, .val [] (.int .i64) z3, .rw 1], .val [] (.int .i64) z4] [⟨0, .arr [] (.int .u8) z5⟩]) := by
  rw [f37_def]
  cases k with
  | zero => rfl
  | succ k =>
    refine Eq.trans (show _ = exec T an37 (modesOf F) 0 k 51 (callC T F k) (ending T Try.f37 an37 0 K) (bodyOf Try.f37) ⟨argEnv 0 [.val [(0, 0)] (.slice (.int .u8)) a0, .val [] (.int .i64) a1] (fun _ => none), rowsOf []⟩ (ending T Try.f37 an37 0 K) (fun _ _ => none) from by kernel_rfl) ?_
    rw [← S37_eq k, ← execS_eq T an37 (modesOf F) 0 k 51 (S37 k) (fun _ _ _ _ _ => none) (bodyOf Try.f37) (cuts_of _ _ _ _ _ _ _ _ (bodyOf Try.f37) (l := []) (by kernel_rfl) trivial)]
    exact q37 k a0 a1 K
noncomputable def s37 (k : Nat) (a : List PV) (r : List RowS) (K : List PV → List RowS → Option R) : Option R := match a, r with
  | [.val [(0, 0)] (.slice (.int .u8)) a0, .val [] (.int .i64) a1], [] => f37 k a0 a1 (fun z0 z1 z2 z3 z4 z5 => K [.agg [.val [] (.int .i64) z0, .val [] (.int .i64) z1, .val [] (.int .i64) z2, .val [] (.int .i64) z3, .rw 1], .val [] (.int .i64) z4] [⟨0, .arr [] (.int .u8) z5⟩])
  | a, r => callC T F k 37 a r K
theorem s37_eq (k : Nat) (a : List PV) (r : List RowS) (K : List PV → List RowS → Option R) : s37 k a r K = callC T F k 37 a r K := by
  unfold s37
  split
  · exact (e37 k _ _ K).symm
  · rfl
end
section
variable {R : Type}
noncomputable def S38 (k g : Nat) (a : List PV) (r : List RowS) (K : List PV → List RowS → Option R) : Option R := bif g == 20 then s20 k a r K else bif g == 36 then s36 k a r K else bif g == 41 then s41 k a r K else bif g == 68 then s68 k a r K else bif g == 76 then s76 k a r K else callC T F k g a r K
theorem S38_eq (k : Nat) : S38 (R := R) k = callC T F k := by
  funext g a r K
  exact pick_eq (fun e => by subst e; exact s20_eq k a r K) (pick_eq (fun e => by subst e; exact s36_eq k a r K) (pick_eq (fun e => by subst e; exact s41_eq k a r K) (pick_eq (fun e => by subst e; exact s68_eq k a r K) (pick_eq (fun e => by subst e; exact s76_eq k a r K) (rfl)))))
theorem q38 (k : Nat) (a0 : List Int) (a1 : Int) (K : List PV → List RowS → Option R) :
    execS T an38 (modesOf F) 0 k 59 (S38 k) (fun _ _ _ _ _ => none) (ending T Try.f38 an38 0 K) (bodyOf Try.f38) ⟨argEnv 0 [.val [(0, 0)] (.slice (.int .u8)) a0, .val [] (.int .i64) a1] (fun _ => none), rowsOf []⟩ (ending T Try.f38 an38 0 K) (fun _ _ => none) = f38d (k + 1) a0 a1 (fun z0 z1 z2 z3 z4 z5 => K [.agg [.val [] (.int .i64) z0, .val [] (.int .i64) z1, .val [] (.int .i64) z2, .val [] (.int .i64) z3, .rw 1], .val [] (.int .i64) z4] [⟨0, .arr [] (.int .u8) z5⟩]) := by kernel_rfl
theorem e38 (k : Nat) (a0 : List Int) (a1 : Int) (K : List PV → List RowS → Option R) : callC T F k 38 [.val [(0, 0)] (.slice (.int .u8)) a0, .val [] (.int .i64) a1] [] K = f38 k a0 a1 (fun z0 z1 z2 z3 z4 z5 => K [.agg [.val [] (.int .i64) z0, .val [] (.int .i64) z1, .val [] (.int .i64) z2, .val [] (.int .i64) z3, .rw 1], .val [] (.int .i64) z4] [⟨0, .arr [] (.int .u8) z5⟩]) := by
  rw [f38_def]
  cases k with
  | zero => rfl
  | succ k =>
    refine Eq.trans (show _ = exec T an38 (modesOf F) 0 k 59 (callC T F k) (ending T Try.f38 an38 0 K) (bodyOf Try.f38) ⟨argEnv 0 [.val [(0, 0)] (.slice (.int .u8)) a0, .val [] (.int .i64) a1] (fun _ => none), rowsOf []⟩ (ending T Try.f38 an38 0 K) (fun _ _ => none) from by kernel_rfl) ?_
    rw [← S38_eq k, ← execS_eq T an38 (modesOf F) 0 k 59 (S38 k) (fun _ _ _ _ _ => none) (bodyOf Try.f38) (cuts_of _ _ _ _ _ _ _ _ (bodyOf Try.f38) (l := []) (by kernel_rfl) trivial)]
    exact q38 k a0 a1 K
noncomputable def s38 (k : Nat) (a : List PV) (r : List RowS) (K : List PV → List RowS → Option R) : Option R := match a, r with
  | [.val [(0, 0)] (.slice (.int .u8)) a0, .val [] (.int .i64) a1], [] => f38 k a0 a1 (fun z0 z1 z2 z3 z4 z5 => K [.agg [.val [] (.int .i64) z0, .val [] (.int .i64) z1, .val [] (.int .i64) z2, .val [] (.int .i64) z3, .rw 1], .val [] (.int .i64) z4] [⟨0, .arr [] (.int .u8) z5⟩])
  | a, r => callC T F k 38 a r K
theorem s38_eq (k : Nat) (a : List PV) (r : List RowS) (K : List PV → List RowS → Option R) : s38 k a r K = callC T F k 38 a r K := by
  unfold s38
  split
  · exact (e38 k _ _ K).symm
  · rfl
end
section
variable {R : Type}
noncomputable def S39 (k g : Nat) (a : List PV) (r : List RowS) (K : List PV → List RowS → Option R) : Option R := bif g == 32 then s32 k a r K else callC T F k g a r K
theorem S39_eq (k : Nat) : S39 (R := R) k = callC T F k := by
  funext g a r K
  exact pick_eq (fun e => by subst e; exact s32_eq k a r K) (rfl)
theorem q39 (k : Nat) (a0 : Int) (a1 : Int) (a2 : Int) (a3 : Int) (a4 : List Int) (a5 : Int) (a6 : Int) (a7 : Int) (a8 : Int) (a9 : List Int) (K : List PV → List RowS → Option R) :
    execS T an39 (modesOf F) 0 k 38 (S39 k) (fun _ _ _ _ _ => none) (ending T Try.f39 an39 0 K) (bodyOf Try.f39) ⟨argEnv 0 [.agg [.val [] (.int .i64) a0, .val [] (.int .i64) a1, .val [] (.int .i64) a2, .val [] (.int .i64) a3, .val [(0, 0)] (.slice (.int .u8)) a4], .agg [.val [] (.int .i64) a5, .val [] (.int .i64) a6, .val [] (.int .i64) a7, .val [] (.int .i64) a8, .val [(0, 0)] (.slice (.int .u8)) a9]] (fun _ => none), rowsOf []⟩ (ending T Try.f39 an39 0 K) (fun _ _ => none) = f39d (k + 1) a0 a1 a2 a3 a4 a5 a6 a7 a8 a9 (fun z0 => K [.val [] .bool z0] []) := by kernel_rfl
theorem e39 (k : Nat) (a0 : Int) (a1 : Int) (a2 : Int) (a3 : Int) (a4 : List Int) (a5 : Int) (a6 : Int) (a7 : Int) (a8 : Int) (a9 : List Int) (K : List PV → List RowS → Option R) : callC T F k 39 [.agg [.val [] (.int .i64) a0, .val [] (.int .i64) a1, .val [] (.int .i64) a2, .val [] (.int .i64) a3, .val [(0, 0)] (.slice (.int .u8)) a4], .agg [.val [] (.int .i64) a5, .val [] (.int .i64) a6, .val [] (.int .i64) a7, .val [] (.int .i64) a8, .val [(0, 0)] (.slice (.int .u8)) a9]] [] K = f39 k a0 a1 a2 a3 a4 a5 a6 a7 a8 a9 (fun z0 => K [.val [] .bool z0] []) := by
  rw [f39_def]
  cases k with
  | zero => rfl
  | succ k =>
    refine Eq.trans (show _ = exec T an39 (modesOf F) 0 k 38 (callC T F k) (ending T Try.f39 an39 0 K) (bodyOf Try.f39) ⟨argEnv 0 [.agg [.val [] (.int .i64) a0, .val [] (.int .i64) a1, .val [] (.int .i64) a2, .val [] (.int .i64) a3, .val [(0, 0)] (.slice (.int .u8)) a4], .agg [.val [] (.int .i64) a5, .val [] (.int .i64) a6, .val [] (.int .i64) a7, .val [] (.int .i64) a8, .val [(0, 0)] (.slice (.int .u8)) a9]] (fun _ => none), rowsOf []⟩ (ending T Try.f39 an39 0 K) (fun _ _ => none) from by kernel_rfl) ?_
    rw [← S39_eq k, ← execS_eq T an39 (modesOf F) 0 k 38 (S39 k) (fun _ _ _ _ _ => none) (bodyOf Try.f39) (cuts_of _ _ _ _ _ _ _ _ (bodyOf Try.f39) (l := []) (by kernel_rfl) trivial)]
    exact q39 k a0 a1 a2 a3 a4 a5 a6 a7 a8 a9 K
noncomputable def s39 (k : Nat) (a : List PV) (r : List RowS) (K : List PV → List RowS → Option R) : Option R := match a, r with
  | [.agg [.val [] (.int .i64) a0, .val [] (.int .i64) a1, .val [] (.int .i64) a2, .val [] (.int .i64) a3, .val [(0, 0)] (.slice (.int .u8)) a4], .agg [.val [] (.int .i64) a5, .val [] (.int .i64) a6, .val [] (.int .i64) a7, .val [] (.int .i64) a8, .val [(0, 0)] (.slice (.int .u8)) a9]], [] => f39 k a0 a1 a2 a3 a4 a5 a6 a7 a8 a9 (fun z0 => K [.val [] .bool z0] [])
  | a, r => callC T F k 39 a r K
theorem s39_eq (k : Nat) (a : List PV) (r : List RowS) (K : List PV → List RowS → Option R) : s39 k a r K = callC T F k 39 a r K := by
  unfold s39
  split
  · exact (e39 k _ _ _ _ _ _ _ _ _ _ K).symm
  · rfl
end
end Go.Proofs.Ytahdmfboidjkoaa.PM
