/- The small machine's run is the typed form (printed by a program of this work). -/
import Derived.Test.YtahdmfboidjkoaaPW5
set_option linter.unusedVariables false
set_option linter.unusedSimpArgs false
set_option maxRecDepth 100000
namespace Go.Proofs.Ytahdmfboidjkoaa.PM
open Go
section
variable {R : Type}
noncomputable def S54 (k g : Nat) (a : List PV) (r : List RowS) (K : List PV → List RowS → Option R) : Option R := bif g == 76 then s76 k a r K else bif g == 82 then s82 k a r K else callC T F k g a r K
theorem S54_eq (k : Nat) : S54 (R := R) k = callC T F k := by
  funext g a r K
  exact pick_eq (fun e => by subst e; exact s76_eq k a r K) (pick_eq (fun e => by subst e; exact s82_eq k a r K) (rfl))
section
variable {R : Type} (k : Nat) (K : List PV → List RowS → Option R)
noncomputable def L54_1 (ws : List PV) (rs : List RowS) (N : St → Option R) (X : Nat → St → Option R) : Option R := match ws, rs with
  | [.val [(0, 0)] (.slice (.int .u8)) v1_0, .val [] (.int .i64) v1_1, .rw 1, .rw 2, .val [] (.int .i64) v1_2], [⟨0, .arr [] (.prod (.int .i64) (.prod (.int .i64) (.prod (.int .i64) (.prod (.int .i64) (.prod (.slice (.int .u8)) .unit))))) v1_3⟩, ⟨0, .arr [] (.int .i64) v1_4⟩] => f54_1 k (fun y1_2 y1_3 y1_4 => N (sh jn54_1 [.val [(0, 0)] (.slice (.int .u8)) v1_0, .val [] (.int .i64) v1_1, .rw 1, .rw 2, .val [] (.int .i64) y1_2] [⟨0, .arr [] (.prod (.int .i64) (.prod (.int .i64) (.prod (.int .i64) (.prod (.int .i64) (.prod (.slice (.int .u8)) .unit))))) y1_3⟩, ⟨0, .arr [] (.int .i64) y1_4⟩])) v1_0 v1_1 v1_2 v1_3 v1_4
  | ws, rs => inner T an54 (modesOf F) 0 k 50 (S54 k) (ending T Try.f54 an54 0 K) cd54_1 (sh sp54_1 ws rs) N X
noncomputable def L54_0 (ws : List PV) (rs : List RowS) (N : St → Option R) (X : Nat → St → Option R) : Option R := match ws, rs with
  | [.val [(0, 0)] (.slice (.int .u8)) v0_0, .val [] (.int .i64) v0_1, .rw 1, .rw 2, .val [] (.int .i64) v0_2], [⟨0, .arr [] (.prod (.int .i64) (.prod (.int .i64) (.prod (.int .i64) (.prod (.int .i64) (.prod (.slice (.int .u8)) .unit))))) v0_3⟩, ⟨0, .arr [] (.int .i64) v0_4⟩] => f54_0 k (fun y0_0 y0_1 => N (sh jn54_0 [.rw 1, .rw 2] [⟨0, .arr [] (.prod (.int .i64) (.prod (.int .i64) (.prod (.int .i64) (.prod (.int .i64) (.prod (.slice (.int .u8)) .unit))))) y0_0⟩, ⟨0, .arr [] (.int .i64) y0_1⟩])) v0_0 v0_1 k v0_2 v0_3 v0_4
  | ws, rs => inner T an54 (modesOf F) 0 k 50 (S54 k) (ending T Try.f54 an54 0 K) cd54_0 (sh sp54_0 ws rs) N X
noncomputable def L54 (id : Nat) (ws : List PV) (rs : List RowS) (N : St → Option R) (X : Nat → St → Option R) : Option R := bif id == 1 then L54_1 k K ws rs N X else bif id == 0 then L54_0 k K ws rs N X else none
theorem b54_1 (N : St → Option R) (X : Nat → St → Option R) (v1_0 : List Int) (v1_1 : Int) (v1_2 : Int) (v1_3 : List (Int × (Int × (Int × (Int × (List Int × Unit)))))) (v1_4 : List Int) :
    innerS T an54 (modesOf F) 0 k 50 (S54 k) (L54 k K) (ending T Try.f54 an54 0 K) cd54_1 (sh sp54_1 [.val [(0, 0)] (.slice (.int .u8)) v1_0, .val [] (.int .i64) v1_1, .rw 1, .rw 2, .val [] (.int .i64) v1_2] [⟨0, .arr [] (.prod (.int .i64) (.prod (.int .i64) (.prod (.int .i64) (.prod (.int .i64) (.prod (.slice (.int .u8)) .unit))))) v1_3⟩, ⟨0, .arr [] (.int .i64) v1_4⟩]) N X = f54_1d k (fun y1_2 y1_3 y1_4 => N (sh jn54_1 [.val [(0, 0)] (.slice (.int .u8)) v1_0, .val [] (.int .i64) v1_1, .rw 1, .rw 2, .val [] (.int .i64) y1_2] [⟨0, .arr [] (.prod (.int .i64) (.prod (.int .i64) (.prod (.int .i64) (.prod (.int .i64) (.prod (.slice (.int .u8)) .unit))))) y1_3⟩, ⟨0, .arr [] (.int .i64) y1_4⟩])) v1_0 v1_1 v1_2 v1_3 v1_4 := by kernel_rfl
theorem l54_1 (ws : List PV) (rs : List RowS) (N : St → Option R) (X : Nat → St → Option R) : L54 k K 1 ws rs N X = inner T an54 (modesOf F) 0 k 50 (S54 k) (ending T Try.f54 an54 0 K) cd54_1 (sh sp54_1 ws rs) N X := by
  show L54_1 k K ws rs N X = _
  unfold L54_1
  split
  rotate_left
  · rfl
  rename_i v1_0 v1_1 v1_2 v1_3 v1_4
  rw [f54_1_def]
  exact ((innerS_eq T an54 (modesOf F) 0 k 50 (S54 k) (L54 k K) cd54_1 (l := []) (by kernel_rfl) trivial _ N X).symm.trans (b54_1 k K N X v1_0 v1_1 v1_2 v1_3 v1_4)).symm
theorem b54_0 (rec : St → Option R) (N : St → Option R) (X : Nat → St → Option R) (v0_0 : List Int) (v0_1 : Int) (v0_2 : Int) (v0_3 : List (Int × (Int × (Int × (Int × (List Int × Unit)))))) (v0_4 : List Int) :
    execS T an54 (modesOf F) 0 k 50 (S54 k) (L54 k K) (ending T Try.f54 an54 0 K) bd54_0 (sh sp54_0 [.val [(0, 0)] (.slice (.int .u8)) v0_0, .val [] (.int .i64) v0_1, .rw 1, .rw 2, .val [] (.int .i64) v0_2] [⟨0, .arr [] (.prod (.int .i64) (.prod (.int .i64) (.prod (.int .i64) (.prod (.int .i64) (.prod (.slice (.int .u8)) .unit))))) v0_3⟩, ⟨0, .arr [] (.int .i64) v0_4⟩]) (fun st => atHead an54 0 bd54_0 st rec) (outX an54 0 0 N X) =
      f54_0b k (fun v0_2 v0_3 v0_4 => rec (sh sp54_0 [.val [(0, 0)] (.slice (.int .u8)) v0_0, .val [] (.int .i64) v0_1, .rw 1, .rw 2, .val [] (.int .i64) v0_2] [⟨0, .arr [] (.prod (.int .i64) (.prod (.int .i64) (.prod (.int .i64) (.prod (.int .i64) (.prod (.slice (.int .u8)) .unit))))) v0_3⟩, ⟨0, .arr [] (.int .i64) v0_4⟩])) (fun y0_0 y0_1 => N (sh jn54_0 [.rw 1, .rw 2] [⟨0, .arr [] (.prod (.int .i64) (.prod (.int .i64) (.prod (.int .i64) (.prod (.int .i64) (.prod (.slice (.int .u8)) .unit))))) y0_0⟩, ⟨0, .arr [] (.int .i64) y0_1⟩])) v0_0 v0_1 v0_2 v0_3 v0_4 := by kernel_rfl
theorem i54_0 (N : St → Option R) (X : Nat → St → Option R) (v0_0 : List Int) (v0_1 : Int) (m : Nat) : ∀ (v0_2 : Int) (v0_3 : List (Int × (Int × (Int × (Int × (List Int × Unit)))))) (v0_4 : List Int),
    iter (atHead an54 0 bd54_0) m (fun st N' => exec T an54 (modesOf F) 0 k 50 (S54 k) (ending T Try.f54 an54 0 K) bd54_0 st N' (outX an54 0 0 N X)) (sh sp54_0 [.val [(0, 0)] (.slice (.int .u8)) v0_0, .val [] (.int .i64) v0_1, .rw 1, .rw 2, .val [] (.int .i64) v0_2] [⟨0, .arr [] (.prod (.int .i64) (.prod (.int .i64) (.prod (.int .i64) (.prod (.int .i64) (.prod (.slice (.int .u8)) .unit))))) v0_3⟩, ⟨0, .arr [] (.int .i64) v0_4⟩]) = f54_0d k (fun y0_0 y0_1 => N (sh jn54_0 [.rw 1, .rw 2] [⟨0, .arr [] (.prod (.int .i64) (.prod (.int .i64) (.prod (.int .i64) (.prod (.int .i64) (.prod (.slice (.int .u8)) .unit))))) y0_0⟩, ⟨0, .arr [] (.int .i64) y0_1⟩])) v0_0 v0_1 m v0_2 v0_3 v0_4 := by
  induction m with
  | zero => intros; rfl
  | succ m ih =>
    intro v0_2 v0_3 v0_4
    simp only [iter]
    rw [← execS_eq T an54 (modesOf F) 0 k 50 (S54 k) (L54 k K) bd54_0 (cuts_of _ _ _ _ _ _ _ _ bd54_0 (l := [(1, sp54_1, cd54_1)]) (by kernel_rfl) ⟨l54_1 k K, trivial⟩)]
    refine (b54_0 k K _ N X v0_0 v0_1 v0_2 v0_3 v0_4).trans ?_
    simp only [f54_0d, ih]
theorem l54_0 (ws : List PV) (rs : List RowS) (N : St → Option R) (X : Nat → St → Option R) : L54 k K 0 ws rs N X = inner T an54 (modesOf F) 0 k 50 (S54 k) (ending T Try.f54 an54 0 K) cd54_0 (sh sp54_0 ws rs) N X := by
  show L54_0 k K ws rs N X = _
  unfold L54_0
  split
  rotate_left
  · rfl
  rename_i v0_0 v0_1 v0_2 v0_3 v0_4
  rw [f54_0_def]
  refine Eq.trans ?_ (show iter (atHead an54 0 bd54_0) k (fun st N' => exec T an54 (modesOf F) 0 k 50 (S54 k) (ending T Try.f54 an54 0 K) bd54_0 st N' (outX an54 0 0 N X)) (sh sp54_0 [.val [(0, 0)] (.slice (.int .u8)) v0_0, .val [] (.int .i64) v0_1, .rw 1, .rw 2, .val [] (.int .i64) v0_2] [⟨0, .arr [] (.prod (.int .i64) (.prod (.int .i64) (.prod (.int .i64) (.prod (.int .i64) (.prod (.slice (.int .u8)) .unit))))) v0_3⟩, ⟨0, .arr [] (.int .i64) v0_4⟩]) = _ from by kernel_rfl)
  exact (i54_0 k K N X v0_0 v0_1 k v0_2 v0_3 v0_4).symm
end
theorem q54 (k : Nat) (a0 : List Int) (a1 : Int) (K : List PV → List RowS → Option R) :
    execS T an54 (modesOf F) 0 k 50 (S54 k) (L54 k K) (ending T Try.f54 an54 0 K) (bodyOf Try.f54) ⟨argEnv 0 [.val [(0, 0)] (.slice (.int .u8)) a0, .val [] (.int .i64) a1] (fun _ => none), rowsOf []⟩ (ending T Try.f54 an54 0 K) (fun _ _ => none) = f54d (k + 1) a0 a1 (fun z0 z1 z2 => K [.rw 1, .rw 2, .val [] (.int .i64) z0] [⟨0, .arr [] (.prod (.int .i64) (.prod (.int .i64) (.prod (.int .i64) (.prod (.int .i64) (.prod (.slice (.int .u8)) .unit))))) z1⟩, ⟨0, .arr [] (.int .i64) z2⟩]) := by kernel_rfl
theorem e54 (k : Nat) (a0 : List Int) (a1 : Int) (K : List PV → List RowS → Option R) : callC T F k 54 [.val [(0, 0)] (.slice (.int .u8)) a0, .val [] (.int .i64) a1] [] K = f54 k a0 a1 (fun z0 z1 z2 => K [.rw 1, .rw 2, .val [] (.int .i64) z0] [⟨0, .arr [] (.prod (.int .i64) (.prod (.int .i64) (.prod (.int .i64) (.prod (.int .i64) (.prod (.slice (.int .u8)) .unit))))) z1⟩, ⟨0, .arr [] (.int .i64) z2⟩]) := by
  rw [f54_def]
  cases k with
  | zero => rfl
  | succ k =>
    refine Eq.trans (show _ = exec T an54 (modesOf F) 0 k 50 (callC T F k) (ending T Try.f54 an54 0 K) (bodyOf Try.f54) ⟨argEnv 0 [.val [(0, 0)] (.slice (.int .u8)) a0, .val [] (.int .i64) a1] (fun _ => none), rowsOf []⟩ (ending T Try.f54 an54 0 K) (fun _ _ => none) from by kernel_rfl) ?_
    rw [← S54_eq k, ← execS_eq T an54 (modesOf F) 0 k 50 (S54 k) (L54 k K) (bodyOf Try.f54) (cuts_of _ _ _ _ _ _ _ _ (bodyOf Try.f54) (l := [(0, sp54_0, cd54_0)]) (by kernel_rfl) ⟨l54_0 k K, trivial⟩)]
    exact q54 k a0 a1 K
noncomputable def s54 (k : Nat) (a : List PV) (r : List RowS) (K : List PV → List RowS → Option R) : Option R := match a, r with
  | [.val [(0, 0)] (.slice (.int .u8)) a0, .val [] (.int .i64) a1], [] => f54 k a0 a1 (fun z0 z1 z2 => K [.rw 1, .rw 2, .val [] (.int .i64) z0] [⟨0, .arr [] (.prod (.int .i64) (.prod (.int .i64) (.prod (.int .i64) (.prod (.int .i64) (.prod (.slice (.int .u8)) .unit))))) z1⟩, ⟨0, .arr [] (.int .i64) z2⟩])
  | a, r => callC T F k 54 a r K
theorem s54_eq (k : Nat) (a : List PV) (r : List RowS) (K : List PV → List RowS → Option R) : s54 k a r K = callC T F k 54 a r K := by
  unfold s54
  split
  · exact (e54 k _ _ K).symm
  · rfl
end
section
variable {R : Type}
noncomputable def S55 (k g : Nat) (a : List PV) (r : List RowS) (K : List PV → List RowS → Option R) : Option R := callC T F k g a r K
theorem S55_eq (k : Nat) : S55 (R := R) k = callC T F k := by
  funext g a r K
  exact rfl
section
variable {R : Type} (k : Nat) (K : List PV → List RowS → Option R)
noncomputable def L55_0 (ws : List PV) (rs : List RowS) (N : St → Option R) (X : Nat → St → Option R) : Option R := match ws, rs with
  | [.val [(0, 0)] (.slice (.int .i64)) v0_0, .val [(0, 0)] (.slice (.int .i64)) v0_1, .val [] (.int .i64) v0_2, .val [] (.int .i64) v0_3], [] => f55_0 k (fun z0 => K [.val [] .bool z0] []) (N (sh jn55_0 [] [])) v0_0 v0_1 v0_2 k v0_3
  | ws, rs => inner T an55 (modesOf F) 0 k 26 (S55 k) (ending T Try.f55 an55 0 K) cd55_0 (sh sp55_0 ws rs) N X
noncomputable def L55 (id : Nat) (ws : List PV) (rs : List RowS) (N : St → Option R) (X : Nat → St → Option R) : Option R := bif id == 0 then L55_0 k K ws rs N X else none
theorem b55_0 (rec : St → Option R) (N : St → Option R) (X : Nat → St → Option R) (v0_0 : List Int) (v0_1 : List Int) (v0_2 : Int) (v0_3 : Int) :
    execS T an55 (modesOf F) 0 k 26 (S55 k) (L55 k K) (ending T Try.f55 an55 0 K) bd55_0 (sh sp55_0 [.val [(0, 0)] (.slice (.int .i64)) v0_0, .val [(0, 0)] (.slice (.int .i64)) v0_1, .val [] (.int .i64) v0_2, .val [] (.int .i64) v0_3] []) (fun st => atHead an55 0 bd55_0 st rec) (outX an55 0 0 N X) =
      f55_0b k (fun v0_3 => rec (sh sp55_0 [.val [(0, 0)] (.slice (.int .i64)) v0_0, .val [(0, 0)] (.slice (.int .i64)) v0_1, .val [] (.int .i64) v0_2, .val [] (.int .i64) v0_3] [])) (fun z0 => K [.val [] .bool z0] []) (N (sh jn55_0 [] [])) v0_0 v0_1 v0_2 v0_3 := by kernel_rfl
theorem i55_0 (N : St → Option R) (X : Nat → St → Option R) (v0_0 : List Int) (v0_1 : List Int) (v0_2 : Int) (m : Nat) : ∀ (v0_3 : Int),
    iter (atHead an55 0 bd55_0) m (fun st N' => exec T an55 (modesOf F) 0 k 26 (S55 k) (ending T Try.f55 an55 0 K) bd55_0 st N' (outX an55 0 0 N X)) (sh sp55_0 [.val [(0, 0)] (.slice (.int .i64)) v0_0, .val [(0, 0)] (.slice (.int .i64)) v0_1, .val [] (.int .i64) v0_2, .val [] (.int .i64) v0_3] []) = f55_0d k (fun z0 => K [.val [] .bool z0] []) (N (sh jn55_0 [] [])) v0_0 v0_1 v0_2 m v0_3 := by
  induction m with
  | zero => intros; rfl
  | succ m ih =>
    intro v0_3
    simp only [iter]
    rw [← execS_eq T an55 (modesOf F) 0 k 26 (S55 k) (L55 k K) bd55_0 (cuts_of _ _ _ _ _ _ _ _ bd55_0 (l := []) (by kernel_rfl) trivial)]
    refine (b55_0 k K _ N X v0_0 v0_1 v0_2 v0_3).trans ?_
    simp only [f55_0d, ih]
theorem l55_0 (ws : List PV) (rs : List RowS) (N : St → Option R) (X : Nat → St → Option R) : L55 k K 0 ws rs N X = inner T an55 (modesOf F) 0 k 26 (S55 k) (ending T Try.f55 an55 0 K) cd55_0 (sh sp55_0 ws rs) N X := by
  show L55_0 k K ws rs N X = _
  unfold L55_0
  split
  rotate_left
  · rfl
  rename_i v0_0 v0_1 v0_2 v0_3
  rw [f55_0_def]
  refine Eq.trans ?_ (show iter (atHead an55 0 bd55_0) k (fun st N' => exec T an55 (modesOf F) 0 k 26 (S55 k) (ending T Try.f55 an55 0 K) bd55_0 st N' (outX an55 0 0 N X)) (sh sp55_0 [.val [(0, 0)] (.slice (.int .i64)) v0_0, .val [(0, 0)] (.slice (.int .i64)) v0_1, .val [] (.int .i64) v0_2, .val [] (.int .i64) v0_3] []) = _ from by kernel_rfl)
  exact (i55_0 k K N X v0_0 v0_1 v0_2 k v0_3).symm
end
theorem q55 (k : Nat) (a0 : List Int) (a1 : List Int) (K : List PV → List RowS → Option R) :
    execS T an55 (modesOf F) 0 k 26 (S55 k) (L55 k K) (ending T Try.f55 an55 0 K) (bodyOf Try.f55) ⟨argEnv 0 [.val [(0, 0)] (.slice (.int .i64)) a0, .val [(0, 0)] (.slice (.int .i64)) a1] (fun _ => none), rowsOf []⟩ (ending T Try.f55 an55 0 K) (fun _ _ => none) = f55d (k + 1) a0 a1 (fun z0 => K [.val [] .bool z0] []) := by kernel_rfl
theorem e55 (k : Nat) (a0 : List Int) (a1 : List Int) (K : List PV → List RowS → Option R) : callC T F k 55 [.val [(0, 0)] (.slice (.int .i64)) a0, .val [(0, 0)] (.slice (.int .i64)) a1] [] K = f55 k a0 a1 (fun z0 => K [.val [] .bool z0] []) := by
  rw [f55_def]
  cases k with
  | zero => rfl
  | succ k =>
    refine Eq.trans (show _ = exec T an55 (modesOf F) 0 k 26 (callC T F k) (ending T Try.f55 an55 0 K) (bodyOf Try.f55) ⟨argEnv 0 [.val [(0, 0)] (.slice (.int .i64)) a0, .val [(0, 0)] (.slice (.int .i64)) a1] (fun _ => none), rowsOf []⟩ (ending T Try.f55 an55 0 K) (fun _ _ => none) from by kernel_rfl) ?_
    rw [← S55_eq k, ← execS_eq T an55 (modesOf F) 0 k 26 (S55 k) (L55 k K) (bodyOf Try.f55) (cuts_of _ _ _ _ _ _ _ _ (bodyOf Try.f55) (l := [(0, sp55_0, cd55_0)]) (by kernel_rfl) ⟨l55_0 k K, trivial⟩)]
    exact q55 k a0 a1 K
noncomputable def s55 (k : Nat) (a : List PV) (r : List RowS) (K : List PV → List RowS → Option R) : Option R := match a, r with
  | [.val [(0, 0)] (.slice (.int .i64)) a0, .val [(0, 0)] (.slice (.int .i64)) a1], [] => f55 k a0 a1 (fun z0 => K [.val [] .bool z0] [])
  | a, r => callC T F k 55 a r K
theorem s55_eq (k : Nat) (a : List PV) (r : List RowS) (K : List PV → List RowS → Option R) : s55 k a r K = callC T F k 55 a r K := by
  unfold s55
  split
  · exact (e55 k _ _ K).symm
  · rfl
end
section
variable {R : Type}
noncomputable def S13 (k g : Nat) (a : List PV) (r : List RowS) (K : List PV → List RowS → Option R) : Option R := bif g == 21 then s21 k a r K else bif g == 32 then s32 k a r K else bif g == 45 then s45 k a r K else bif g == 46 then s46 k a r K else bif g == 52 then s52 k a r K else bif g == 53 then s53 k a r K else bif g == 54 then s54 k a r K else bif g == 55 then s55 k a r K else callC T F k g a r K
theorem S13_eq (k : Nat) : S13 (R := R) k = callC T F k := by
  funext g a r K
  exact pick_eq (fun e => by subst e; exact s21_eq k a r K) (pick_eq (fun e => by subst e; exact s32_eq k a r K) (pick_eq (fun e => by subst e; exact s45_eq k a r K) (pick_eq (fun e => by subst e; exact s46_eq k a r K) (pick_eq (fun e => by subst e; exact s52_eq k a r K) (pick_eq (fun e => by subst e; exact s53_eq k a r K) (pick_eq (fun e => by subst e; exact s54_eq k a r K) (pick_eq (fun e => by subst e; exact s55_eq k a r K) (rfl))))))))
theorem q13 (k : Nat) (a0 : List ((Int × (Int × (Int × (Int × (List Int × Unit))))))) (a1 : Int) (a2 : List Int) (K : List PV → List RowS → Option R) :
    execS T an13 (modesOf F) 0 k 66 (S13 k) (fun _ _ _ _ _ => none) (ending T Try.f13 an13 0 K) (bodyOf Try.f13) ⟨argEnv 0 [.val [(0, 0)] (.slice (.prod (.int .i64) (.prod (.int .i64) (.prod (.int .i64) (.prod (.int .i64) (.prod (.slice (.int .u8)) .unit)))))) a0, .val [] (.int .i64) a1, .val [(0, 0)] (.slice (.int .u8)) a2] (fun _ => none), rowsOf []⟩ (ending T Try.f13 an13 0 K) (fun _ _ => none) = f13d (k + 1) a0 a1 a2 (fun z0 => K [.val [] .bool z0] []) := by kernel_rfl
theorem e13 (k : Nat) (a0 : List ((Int × (Int × (Int × (Int × (List Int × Unit))))))) (a1 : Int) (a2 : List Int) (K : List PV → List RowS → Option R) : callC T F k 13 [.val [(0, 0)] (.slice (.prod (.int .i64) (.prod (.int .i64) (.prod (.int .i64) (.prod (.int .i64) (.prod (.slice (.int .u8)) .unit)))))) a0, .val [] (.int .i64) a1, .val [(0, 0)] (.slice (.int .u8)) a2] [] K = f13 k a0 a1 a2 (fun z0 => K [.val [] .bool z0] []) := by
  rw [f13_def]
  cases k with
  | zero => rfl
  | succ k =>
    refine Eq.trans (show _ = exec T an13 (modesOf F) 0 k 66 (callC T F k) (ending T Try.f13 an13 0 K) (bodyOf Try.f13) ⟨argEnv 0 [.val [(0, 0)] (.slice (.prod (.int .i64) (.prod (.int .i64) (.prod (.int .i64) (.prod (.int .i64) (.prod (.slice (.int .u8)) .unit)))))) a0, .val [] (.int .i64) a1, .val [(0, 0)] (.slice (.int .u8)) a2] (fun _ => none), rowsOf []⟩ (ending T Try.f13 an13 0 K) (fun _ _ => none) from by kernel_rfl) ?_
    rw [← S13_eq k, ← execS_eq T an13 (modesOf F) 0 k 66 (S13 k) (fun _ _ _ _ _ => none) (bodyOf Try.f13) (cuts_of _ _ _ _ _ _ _ _ (bodyOf Try.f13) (l := []) (by kernel_rfl) trivial)]
    exact q13 k a0 a1 a2 K
noncomputable def s13 (k : Nat) (a : List PV) (r : List RowS) (K : List PV → List RowS → Option R) : Option R := match a, r with
  | [.val [(0, 0)] (.slice (.prod (.int .i64) (.prod (.int .i64) (.prod (.int .i64) (.prod (.int .i64) (.prod (.slice (.int .u8)) .unit)))))) a0, .val [] (.int .i64) a1, .val [(0, 0)] (.slice (.int .u8)) a2], [] => f13 k a0 a1 a2 (fun z0 => K [.val [] .bool z0] [])
  | a, r => callC T F k 13 a r K
theorem s13_eq (k : Nat) (a : List PV) (r : List RowS) (K : List PV → List RowS → Option R) : s13 k a r K = callC T F k 13 a r K := by
  unfold s13
  split
  · exact (e13 k _ _ _ K).symm
  · rfl
end
end Go.Proofs.Ytahdmfboidjkoaa.PM
