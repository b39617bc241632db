/- The small machine's run is the typed form (printed by a program of this work). -/
import Derived.Test.YtahdmfboidjkoaaPW0
set_option linter.unusedVariables false
set_option linter.unusedSimpArgs false
set_option maxRecDepth 100000
namespace Go.Proofs.Ytahdmfboidjkoaa.PM
open Go
section
variable {R : Type}
noncomputable def S25 (k g : Nat) (a : List PV) (r : List RowS) (K : List PV → List RowS → Option R) : Option R := bif g == 30 then s30 k a r K else bif g == 41 then s41 k a r K else bif g == 66 then s66 k a r K else callC T F k g a r K
theorem S25_eq (k : Nat) : S25 (R := R) k = callC T F k := by
  funext g a r K
  exact pick_eq (fun e => by subst e; exact s30_eq k a r K) (pick_eq (fun e => by subst e; exact s41_eq k a r K) (pick_eq (fun e => by subst e; exact s66_eq k a r K) (rfl)))
section
variable {R : Type} (k : Nat) (K : List PV → List RowS → Option R)
noncomputable def L25_1000019 (ws : List PV) (rs : List RowS) (N : St → Option R) (X : Nat → St → Option R) : Option R := match ws, rs with
  | [.val [] (.int .i64) v19_0, .val [] .bool v19_1, .val [] (.int .i64) v19_2, .val [(0, 0)] (.slice (.int .u8)) v19_3, .val [] (.int .i64) v19_4, .val [] (.int .i64) v19_5, .rw 1, .val [] (.int .i64) v19_6, .ptr 2 0, .val [] (.int .i64) v19_7, .val [] (.int .i64) v19_8, .val [] .bool v19_9], [⟨0, .arr [] (.prod (.int .i64) (.prod .bool (.prod (.int .i64) (.prod (.int .i64) (.prod (.slice (.int .u8)) .unit))))) v19_10⟩, ⟨0, .vars [.val [] (.int .i64) v19_11, .val [] .bool v19_12, .val [] (.int .i64) v19_13, .val [] (.int .i64) v19_14, .rw 3]⟩, ⟨0, .arr [] (.int .u8) v19_15⟩] => f25_1000019 k (fun yN_12 => N (sh fi25_19 [.val [] (.int .i64) v19_0, .val [] .bool v19_1, .val [] (.int .i64) v19_2, .val [(0, 0)] (.slice (.int .u8)) v19_3, .val [] (.int .i64) v19_4, .val [] (.int .i64) v19_5, .rw 1, .val [] (.int .i64) v19_6, .ptr 2 0, .val [] (.int .i64) v19_7, .val [] (.int .i64) v19_8] [⟨0, .arr [] (.prod (.int .i64) (.prod .bool (.prod (.int .i64) (.prod (.int .i64) (.prod (.slice (.int .u8)) .unit))))) v19_10⟩, ⟨0, .vars [.val [] (.int .i64) v19_11, .val [] .bool v19_12, .val [] (.int .i64) yN_12, .val [] (.int .i64) v19_14, .rw 3]⟩, ⟨0, .arr [] (.int .u8) v19_15⟩])) v19_0 v19_1 v19_2 v19_3 v19_4 v19_5 v19_6 v19_7 v19_8 v19_9 v19_10 v19_11 v19_12 v19_13 v19_14 v19_15
  | ws, rs => inner T an25 (modesOf F) 0 k 90 (S25 k) (ending T Try.f25 an25 0 K) cd25_1000019 (sh sp25_1000019 ws rs) N X
noncomputable def L25_1000021 (ws : List PV) (rs : List RowS) (N : St → Option R) (X : Nat → St → Option R) : Option R := match ws, rs with
  | [.val [] (.int .i64) v21_0, .val [] .bool v21_1, .val [] (.int .i64) v21_2, .val [(0, 0)] (.slice (.int .u8)) v21_3, .val [] (.int .i64) v21_4, .val [] (.int .i64) v21_5, .rw 1, .ptr 2 0, .val [] (.int .i64) v21_6, .val [] (.int .i64) v21_7, .val [] .bool v21_8], [⟨0, .arr [] (.prod (.int .i64) (.prod .bool (.prod (.int .i64) (.prod (.int .i64) (.prod (.slice (.int .u8)) .unit))))) v21_9⟩, ⟨0, .vars [.val [] (.int .i64) v21_10, .val [] .bool v21_11, .val [] (.int .i64) v21_12, .val [] (.int .i64) v21_13, .rw 3]⟩, ⟨0, .arr [] (.int .u8) v21_14⟩] => f25_1000021 k (fun yN_11 => N (sh fi25_21 [.val [] (.int .i64) v21_0, .val [] .bool v21_1, .val [] (.int .i64) v21_2, .val [(0, 0)] (.slice (.int .u8)) v21_3, .val [] (.int .i64) v21_4, .val [] (.int .i64) v21_5, .rw 1, .ptr 2 0, .val [] (.int .i64) v21_6, .val [] (.int .i64) v21_7] [⟨0, .arr [] (.prod (.int .i64) (.prod .bool (.prod (.int .i64) (.prod (.int .i64) (.prod (.slice (.int .u8)) .unit))))) v21_9⟩, ⟨0, .vars [.val [] (.int .i64) v21_10, .val [] .bool v21_11, .val [] (.int .i64) yN_11, .val [] (.int .i64) v21_13, .rw 3]⟩, ⟨0, .arr [] (.int .u8) v21_14⟩])) v21_0 v21_1 v21_2 v21_3 v21_4 v21_5 v21_6 v21_7 v21_8 v21_9 v21_10 v21_11 v21_12 v21_13 v21_14
  | ws, rs => inner T an25 (modesOf F) 0 k 90 (S25 k) (ending T Try.f25 an25 0 K) cd25_1000021 (sh sp25_1000021 ws rs) N X
noncomputable def L25_1 (ws : List PV) (rs : List RowS) (N : St → Option R) (X : Nat → St → Option R) : Option R := match ws, rs with
  | [.val [] (.int .i64) v1_0, .val [] .bool v1_1, .val [] (.int .i64) v1_2, .val [(0, 0)] (.slice (.int .u8)) v1_3, .val [] (.int .i64) v1_4, .val [] (.int .i64) v1_5, .rw 1, .val [] (.int .i64) v1_6, .val [] (.int .i64) v1_7], [⟨0, .arr [] (.prod (.int .i64) (.prod .bool (.prod (.int .i64) (.prod (.int .i64) (.prod (.slice (.int .u8)) .unit))))) v1_8⟩] => f25_1 k (fun y1_0 => N (sh jn25_1 [.rw 1] [⟨0, .arr [] (.prod (.int .i64) (.prod .bool (.prod (.int .i64) (.prod (.int .i64) (.prod (.slice (.int .u8)) .unit))))) y1_0⟩])) v1_0 v1_1 v1_2 v1_3 v1_4 v1_5 v1_6 k v1_7 v1_8
  | ws, rs => inner T an25 (modesOf F) 0 k 90 (S25 k) (ending T Try.f25 an25 0 K) cd25_1 (sh sp25_1 ws rs) N X
noncomputable def L25 (id : Nat) (ws : List PV) (rs : List RowS) (N : St → Option R) (X : Nat → St → Option R) : Option R := bif id == 1000019 then L25_1000019 k K ws rs N X else bif id == 1000021 then L25_1000021 k K ws rs N X else bif id == 1 then L25_1 k K ws rs N X else none
theorem b25_1000019 (N : St → Option R) (X : Nat → St → Option R) (v19_0 : Int) (v19_1 : Bool) (v19_2 : Int) (v19_3 : List Int) (v19_4 : Int) (v19_5 : Int) (v19_6 : Int) (v19_7 : Int) (v19_8 : Int) (v19_9 : Bool) (v19_10 : List (Int × (Bool × (Int × (Int × (List Int × Unit)))))) (v19_11 : Int) (v19_12 : Bool) (v19_13 : Int) (v19_14 : Int) (v19_15 : List Int) :
    innerS T an25 (modesOf F) 0 k 90 (S25 k) (L25 k K) (ending T Try.f25 an25 0 K) cd25_1000019 (sh sp25_1000019 [.val [] (.int .i64) v19_0, .val [] .bool v19_1, .val [] (.int .i64) v19_2, .val [(0, 0)] (.slice (.int .u8)) v19_3, .val [] (.int .i64) v19_4, .val [] (.int .i64) v19_5, .rw 1, .val [] (.int .i64) v19_6, .ptr 2 0, .val [] (.int .i64) v19_7, .val [] (.int .i64) v19_8, .val [] .bool v19_9] [⟨0, .arr [] (.prod (.int .i64) (.prod .bool (.prod (.int .i64) (.prod (.int .i64) (.prod (.slice (.int .u8)) .unit))))) v19_10⟩, ⟨0, .vars [.val [] (.int .i64) v19_11, .val [] .bool v19_12, .val [] (.int .i64) v19_13, .val [] (.int .i64) v19_14, .rw 3]⟩, ⟨0, .arr [] (.int .u8) v19_15⟩]) N X = f25_1000019d k (fun yN_12 => N (sh fi25_19 [.val [] (.int .i64) v19_0, .val [] .bool v19_1, .val [] (.int .i64) v19_2, .val [(0, 0)] (.slice (.int .u8)) v19_3, .val [] (.int .i64) v19_4, .val [] (.int .i64) v19_5, .rw 1, .val [] (.int .i64) v19_6, .ptr 2 0, .val [] (.int .i64) v19_7, .val [] (.int .i64) v19_8] [⟨0, .arr [] (.prod (.int .i64) (.prod .bool (.prod (.int .i64) (.prod (.int .i64) (.prod (.slice (.int .u8)) .unit))))) v19_10⟩, ⟨0, .vars [.val [] (.int .i64) v19_11, .val [] .bool v19_12, .val [] (.int .i64) yN_12, .val [] (.int .i64) v19_14, .rw 3]⟩, ⟨0, .arr [] (.int .u8) v19_15⟩])) v19_0 v19_1 v19_2 v19_3 v19_4 v19_5 v19_6 v19_7 v19_8 v19_9 v19_10 v19_11 v19_12 v19_13 v19_14 v19_15 := by kernel_rfl
theorem l25_1000019 (ws : List PV) (rs : List RowS) (N : St → Option R) (X : Nat → St → Option R) : L25 k K 1000019 ws rs N X = inner T an25 (modesOf F) 0 k 90 (S25 k) (ending T Try.f25 an25 0 K) cd25_1000019 (sh sp25_1000019 ws rs) N X := by
  show L25_1000019 k K ws rs N X = _
  unfold L25_1000019
  split
  rotate_left
  · rfl
  rename_i v19_0 v19_1 v19_2 v19_3 v19_4 v19_5 v19_6 v19_7 v19_8 v19_9 v19_10 v19_11 v19_12 v19_13 v19_14 v19_15
  rw [f25_1000019_def]
  exact ((innerS_eq T an25 (modesOf F) 0 k 90 (S25 k) (L25 k K) cd25_1000019 (l := []) (by kernel_rfl) trivial _ N X).symm.trans (b25_1000019 k K N X v19_0 v19_1 v19_2 v19_3 v19_4 v19_5 v19_6 v19_7 v19_8 v19_9 v19_10 v19_11 v19_12 v19_13 v19_14 v19_15)).symm
theorem b25_1000021 (N : St → Option R) (X : Nat → St → Option R) (v21_0 : Int) (v21_1 : Bool) (v21_2 : Int) (v21_3 : List Int) (v21_4 : Int) (v21_5 : Int) (v21_6 : Int) (v21_7 : Int) (v21_8 : Bool) (v21_9 : List (Int × (Bool × (Int × (Int × (List Int × Unit)))))) (v21_10 : Int) (v21_11 : Bool) (v21_12 : Int) (v21_13 : Int) (v21_14 : List Int) :
    innerS T an25 (modesOf F) 0 k 90 (S25 k) (L25 k K) (ending T Try.f25 an25 0 K) cd25_1000021 (sh sp25_1000021 [.val [] (.int .i64) v21_0, .val [] .bool v21_1, .val [] (.int .i64) v21_2, .val [(0, 0)] (.slice (.int .u8)) v21_3, .val [] (.int .i64) v21_4, .val [] (.int .i64) v21_5, .rw 1, .ptr 2 0, .val [] (.int .i64) v21_6, .val [] (.int .i64) v21_7, .val [] .bool v21_8] [⟨0, .arr [] (.prod (.int .i64) (.prod .bool (.prod (.int .i64) (.prod (.int .i64) (.prod (.slice (.int .u8)) .unit))))) v21_9⟩, ⟨0, .vars [.val [] (.int .i64) v21_10, .val [] .bool v21_11, .val [] (.int .i64) v21_12, .val [] (.int .i64) v21_13, .rw 3]⟩, ⟨0, .arr [] (.int .u8) v21_14⟩]) N X = f25_1000021d k (fun yN_11 => N (sh fi25_21 [.val [] (.int .i64) v21_0, .val [] .bool v21_1, .val [] (.int .i64) v21_2, .val [(0, 0)] (.slice (.int .u8)) v21_3, .val [] (.int .i64) v21_4, .val [] (.int .i64) v21_5, .rw 1, .ptr 2 0, .val [] (.int .i64) v21_6, .val [] (.int .i64) v21_7] [⟨0, .arr [] (.prod (.int .i64) (.prod .bool (.prod (.int .i64) (.prod (.int .i64) (.prod (.slice (.int .u8)) .unit))))) v21_9⟩, ⟨0, .vars [.val [] (.int .i64) v21_10, .val [] .bool v21_11, .val [] (.int .i64) yN_11, .val [] (.int .i64) v21_13, .rw 3]⟩, ⟨0, .arr [] (.int .u8) v21_14⟩])) v21_0 v21_1 v21_2 v21_3 v21_4 v21_5 v21_6 v21_7 v21_8 v21_9 v21_10 v21_11 v21_12 v21_13 v21_14 := by kernel_rfl
theorem l25_1000021 (ws : List PV) (rs : List RowS) (N : St → Option R) (X : Nat → St → Option R) : L25 k K 1000021 ws rs N X = inner T an25 (modesOf F) 0 k 90 (S25 k) (ending T Try.f25 an25 0 K) cd25_1000021 (sh sp25_1000021 ws rs) N X := by
  show L25_1000021 k K ws rs N X = _
  unfold L25_1000021
  split
  rotate_left
  · rfl
  rename_i v21_0 v21_1 v21_2 v21_3 v21_4 v21_5 v21_6 v21_7 v21_8 v21_9 v21_10 v21_11 v21_12 v21_13 v21_14
  rw [f25_1000021_def]
  exact ((innerS_eq T an25 (modesOf F) 0 k 90 (S25 k) (L25 k K) cd25_1000021 (l := []) (by kernel_rfl) trivial _ N X).symm.trans (b25_1000021 k K N X v21_0 v21_1 v21_2 v21_3 v21_4 v21_5 v21_6 v21_7 v21_8 v21_9 v21_10 v21_11 v21_12 v21_13 v21_14)).symm
theorem b25_1 (rec : St → Option R) (N : St → Option R) (X : Nat → St → Option R) (v1_0 : Int) (v1_1 : Bool) (v1_2 : Int) (v1_3 : List Int) (v1_4 : Int) (v1_5 : Int) (v1_6 : Int) (v1_7 : Int) (v1_8 : List (Int × (Bool × (Int × (Int × (List Int × Unit)))))) :
    execS T an25 (modesOf F) 0 k 90 (S25 k) (L25 k K) (ending T Try.f25 an25 0 K) bd25_1 (sh sp25_1 [.val [] (.int .i64) v1_0, .val [] .bool v1_1, .val [] (.int .i64) v1_2, .val [(0, 0)] (.slice (.int .u8)) v1_3, .val [] (.int .i64) v1_4, .val [] (.int .i64) v1_5, .rw 1, .val [] (.int .i64) v1_6, .val [] (.int .i64) v1_7] [⟨0, .arr [] (.prod (.int .i64) (.prod .bool (.prod (.int .i64) (.prod (.int .i64) (.prod (.slice (.int .u8)) .unit))))) v1_8⟩]) (fun st => atHead an25 0 bd25_1 st rec) (outX an25 0 1 N X) =
      f25_1b k (fun v1_7 v1_8 => rec (sh sp25_1 [.val [] (.int .i64) v1_0, .val [] .bool v1_1, .val [] (.int .i64) v1_2, .val [(0, 0)] (.slice (.int .u8)) v1_3, .val [] (.int .i64) v1_4, .val [] (.int .i64) v1_5, .rw 1, .val [] (.int .i64) v1_6, .val [] (.int .i64) v1_7] [⟨0, .arr [] (.prod (.int .i64) (.prod .bool (.prod (.int .i64) (.prod (.int .i64) (.prod (.slice (.int .u8)) .unit))))) v1_8⟩])) (fun y1_0 => N (sh jn25_1 [.rw 1] [⟨0, .arr [] (.prod (.int .i64) (.prod .bool (.prod (.int .i64) (.prod (.int .i64) (.prod (.slice (.int .u8)) .unit))))) y1_0⟩])) v1_0 v1_1 v1_2 v1_3 v1_4 v1_5 v1_6 v1_7 v1_8 := by kernel_rfl
theorem i25_1 (N : St → Option R) (X : Nat → St → Option R) (v1_0 : Int) (v1_1 : Bool) (v1_2 : Int) (v1_3 : List Int) (v1_4 : Int) (v1_5 : Int) (v1_6 : Int) (m : Nat) : ∀ (v1_7 : Int) (v1_8 : List (Int × (Bool × (Int × (Int × (List Int × Unit)))))),
    iter (atHead an25 0 bd25_1) m (fun st N' => exec T an25 (modesOf F) 0 k 90 (S25 k) (ending T Try.f25 an25 0 K) bd25_1 st N' (outX an25 0 1 N X)) (sh sp25_1 [.val [] (.int .i64) v1_0, .val [] .bool v1_1, .val [] (.int .i64) v1_2, .val [(0, 0)] (.slice (.int .u8)) v1_3, .val [] (.int .i64) v1_4, .val [] (.int .i64) v1_5, .rw 1, .val [] (.int .i64) v1_6, .val [] (.int .i64) v1_7] [⟨0, .arr [] (.prod (.int .i64) (.prod .bool (.prod (.int .i64) (.prod (.int .i64) (.prod (.slice (.int .u8)) .unit))))) v1_8⟩]) = f25_1d k (fun y1_0 => N (sh jn25_1 [.rw 1] [⟨0, .arr [] (.prod (.int .i64) (.prod .bool (.prod (.int .i64) (.prod (.int .i64) (.prod (.slice (.int .u8)) .unit))))) y1_0⟩])) v1_0 v1_1 v1_2 v1_3 v1_4 v1_5 v1_6 m v1_7 v1_8 := by
  induction m with
  | zero => intros; rfl
  | succ m ih =>
    intro v1_7 v1_8
    simp only [iter]
    rw [← execS_eq T an25 (modesOf F) 0 k 90 (S25 k) (L25 k K) bd25_1 (cuts_of _ _ _ _ _ _ _ _ bd25_1 (l := [(1000019, sp25_1000019, cd25_1000019), (1000021, sp25_1000021, cd25_1000021)]) (by kernel_rfl) ⟨l25_1000019 k K, l25_1000021 k K, trivial⟩)]
    refine (b25_1 k K _ N X v1_0 v1_1 v1_2 v1_3 v1_4 v1_5 v1_6 v1_7 v1_8).trans ?_
    simp only [f25_1d, ih]
theorem l25_1 (ws : List PV) (rs : List RowS) (N : St → Option R) (X : Nat → St → Option R) : L25 k K 1 ws rs N X = inner T an25 (modesOf F) 0 k 90 (S25 k) (ending T Try.f25 an25 0 K) cd25_1 (sh sp25_1 ws rs) N X := by
  show L25_1 k K ws rs N X = _
  unfold L25_1
  split
  rotate_left
  · rfl
  rename_i v1_0 v1_1 v1_2 v1_3 v1_4 v1_5 v1_6 v1_7 v1_8
  rw [f25_1_def]
  refine Eq.trans ?_ (show iter (atHead an25 0 bd25_1) k (fun st N' => exec T an25 (modesOf F) 0 k 90 (S25 k) (ending T Try.f25 an25 0 K) bd25_1 st N' (outX an25 0 1 N X)) (sh sp25_1 [.val [] (.int .i64) v1_0, .val [] .bool v1_1, .val [] (.int .i64) v1_2, .val [(0, 0)] (.slice (.int .u8)) v1_3, .val [] (.int .i64) v1_4, .val [] (.int .i64) v1_5, .rw 1, .val [] (.int .i64) v1_6, .val [] (.int .i64) v1_7] [⟨0, .arr [] (.prod (.int .i64) (.prod .bool (.prod (.int .i64) (.prod (.int .i64) (.prod (.slice (.int .u8)) .unit))))) v1_8⟩]) = _ from by kernel_rfl)
  exact (i25_1 k K N X v1_0 v1_1 v1_2 v1_3 v1_4 v1_5 v1_6 k v1_7 v1_8).symm
end
theorem q25 (k : Nat) (a0 : Int) (a1 : Bool) (a2 : Int) (a3 : List Int) (a4 : Int) (K : List PV → List RowS → Option R) :
    execS T an25 (modesOf F) 0 k 90 (S25 k) (L25 k K) (ending T Try.f25 an25 0 K) (bodyOf Try.f25) ⟨argEnv 0 [.val [] (.int .i64) a0, .val [] .bool a1, .val [] (.int .i64) a2, .val [(0, 0)] (.slice (.int .u8)) a3, .val [] (.int .i64) a4] (fun _ => none), rowsOf []⟩ (ending T Try.f25 an25 0 K) (fun _ _ => none) = f25d (k + 1) a0 a1 a2 a3 a4 (fun z0 z1 => K [.rw 1, .val [] (.int .i64) z0] [⟨0, .arr [] (.prod (.int .i64) (.prod .bool (.prod (.int .i64) (.prod (.int .i64) (.prod (.slice (.int .u8)) .unit))))) z1⟩]) := by kernel_rfl
theorem e25 (k : Nat) (a0 : Int) (a1 : Bool) (a2 : Int) (a3 : List Int) (a4 : Int) (K : List PV → List RowS → Option R) : callC T F k 25 [.val [] (.int .i64) a0, .val [] .bool a1, .val [] (.int .i64) a2, .val [(0, 0)] (.slice (.int .u8)) a3, .val [] (.int .i64) a4] [] K = f25 k a0 a1 a2 a3 a4 (fun z0 z1 => K [.rw 1, .val [] (.int .i64) z0] [⟨0, .arr [] (.prod (.int .i64) (.prod .bool (.prod (.int .i64) (.prod (.int .i64) (.prod (.slice (.int .u8)) .unit))))) z1⟩]) := by
  rw [f25_def]
  cases k with
  | zero => rfl
  | succ k =>
    refine Eq.trans (show _ = exec T an25 (modesOf F) 0 k 90 (callC T F k) (ending T Try.f25 an25 0 K) (bodyOf Try.f25) ⟨argEnv 0 [.val [] (.int .i64) a0, .val [] .bool a1, .val [] (.int .i64) a2, .val [(0, 0)] (.slice (.int .u8)) a3, .val [] (.int .i64) a4] (fun _ => none), rowsOf []⟩ (ending T Try.f25 an25 0 K) (fun _ _ => none) from by kernel_rfl) ?_
    rw [← S25_eq k, ← execS_eq T an25 (modesOf F) 0 k 90 (S25 k) (L25 k K) (bodyOf Try.f25) (cuts_of _ _ _ _ _ _ _ _ (bodyOf Try.f25) (l := [(1, sp25_1, cd25_1)]) (by kernel_rfl) ⟨l25_1 k K, trivial⟩)]
    exact q25 k a0 a1 a2 a3 a4 K
noncomputable def s25 (k : Nat) (a : List PV) (r : List RowS) (K : List PV → List RowS → Option R) : Option R := match a, r with
  | [.val [] (.int .i64) a0, .val [] .bool a1, .val [] (.int .i64) a2, .val [(0, 0)] (.slice (.int .u8)) a3, .val [] (.int .i64) a4], [] => f25 k a0 a1 a2 a3 a4 (fun z0 z1 => K [.rw 1, .val [] (.int .i64) z0] [⟨0, .arr [] (.prod (.int .i64) (.prod .bool (.prod (.int .i64) (.prod (.int .i64) (.prod (.slice (.int .u8)) .unit))))) z1⟩])
  | a, r => callC T F k 25 a r K
theorem s25_eq (k : Nat) (a : List PV) (r : List RowS) (K : List PV → List RowS → Option R) : s25 k a r K = callC T F k 25 a r K := by
  unfold s25
  split
  · exact (e25 k _ _ _ _ _ K).symm
  · rfl
end
section
variable {R : Type}
noncomputable def S31 (k g : Nat) (a : List PV) (r : List RowS) (K : List PV → List RowS → Option R) : Option R := bif g == 69 then s69 k a r K else callC T F k g a r K
theorem S31_eq (k : Nat) : S31 (R := R) k = callC T F k := by
  funext g a r K
  exact pick_eq (fun e => by subst e; exact s69_eq k a r K) (rfl)
theorem q31 (k : Nat) (a0 : Int) (a1 : Bool) (a2 : Int) (a3 : Int) (a4 : List Int) (K : List PV → List RowS → Option R) :
    execS T an31 (modesOf F) 0 k 28 (S31 k) (fun _ _ _ _ _ => none) (ending T Try.f31 an31 0 K) (bodyOf Try.f31) ⟨argEnv 0 [.agg [.val [] (.int .i64) a0, .val [] .bool a1, .val [] (.int .i64) a2, .val [] (.int .i64) a3, .val [(0, 0)] (.slice (.int .u8)) a4]] (fun _ => none), rowsOf []⟩ (ending T Try.f31 an31 0 K) (fun _ _ => none) = f31d (k + 1) a0 a1 a2 a3 a4 (fun z0 => K [.val [] (.int .i64) z0] []) := by kernel_rfl
theorem e31 (k : Nat) (a0 : Int) (a1 : Bool) (a2 : Int) (a3 : Int) (a4 : List Int) (K : List PV → List RowS → Option R) : callC T F k 31 [.agg [.val [] (.int .i64) a0, .val [] .bool a1, .val [] (.int .i64) a2, .val [] (.int .i64) a3, .val [(0, 0)] (.slice (.int .u8)) a4]] [] K = f31 k a0 a1 a2 a3 a4 (fun z0 => K [.val [] (.int .i64) z0] []) := by
  rw [f31_def]
  cases k with
  | zero => rfl
  | succ k =>
    refine Eq.trans (show _ = exec T an31 (modesOf F) 0 k 28 (callC T F k) (ending T Try.f31 an31 0 K) (bodyOf Try.f31) ⟨argEnv 0 [.agg [.val [] (.int .i64) a0, .val [] .bool a1, .val [] (.int .i64) a2, .val [] (.int .i64) a3, .val [(0, 0)] (.slice (.int .u8)) a4]] (fun _ => none), rowsOf []⟩ (ending T Try.f31 an31 0 K) (fun _ _ => none) from by kernel_rfl) ?_
    rw [← S31_eq k, ← execS_eq T an31 (modesOf F) 0 k 28 (S31 k) (fun _ _ _ _ _ => none) (bodyOf Try.f31) (cuts_of _ _ _ _ _ _ _ _ (bodyOf Try.f31) (l := []) (by kernel_rfl) trivial)]
    exact q31 k a0 a1 a2 a3 a4 K
noncomputable def s31 (k : Nat) (a : List PV) (r : List RowS) (K : List PV → List RowS → Option R) : Option R := match a, r with
  | [.agg [.val [] (.int .i64) a0, .val [] .bool a1, .val [] (.int .i64) a2, .val [] (.int .i64) a3, .val [(0, 0)] (.slice (.int .u8)) a4]], [] => f31 k a0 a1 a2 a3 a4 (fun z0 => K [.val [] (.int .i64) z0] [])
  | a, r => callC T F k 31 a r K
theorem s31_eq (k : Nat) (a : List PV) (r : List RowS) (K : List PV → List RowS → Option R) : s31 k a r K = callC T F k 31 a r K := by
  unfold s31
  split
  · exact (e31 k _ _ _ _ _ K).symm
  · rfl
end
section
variable {R : Type}
noncomputable def S26 (k g : Nat) (a : List PV) (r : List RowS) (K : List PV → List RowS → Option R) : Option R := bif g == 31 then s31 k a r K else bif g == 41 then s41 k a r K else bif g == 69 then s69 k a r K else callC T F k g a r K
theorem S26_eq (k : Nat) : S26 (R := R) k = callC T F k := by
  funext g a r K
  exact pick_eq (fun e => by subst e; exact s31_eq k a r K) (pick_eq (fun e => by subst e; exact s41_eq k a r K) (pick_eq (fun e => by subst e; exact s69_eq k a r K) (rfl)))
section
variable {R : Type} (k : Nat) (K : List PV → List RowS → Option R)
noncomputable def L26_1000018 (ws : List PV) (rs : List RowS) (N : St → Option R) (X : Nat → St → Option R) : Option R := match ws, rs with
  | [.val [] (.int .i64) v18_0, .val [] .bool v18_1, .val [] (.int .i64) v18_2, .val [(0, 0)] (.slice (.int .u8)) v18_3, .val [] (.int .i64) v18_4, .rw 1, .val [] (.int .i64) v18_5, .ptr 2 0, .val [] .bool v18_6], [⟨0, .arr [] (.prod (.int .i64) (.prod .bool (.prod (.int .i64) (.prod (.int .i64) (.prod (.slice (.int .u8)) .unit))))) v18_7⟩, ⟨0, .vars [.val [] (.int .i64) v18_8, .val [] .bool v18_9, .val [] (.int .i64) v18_10, .val [] (.int .i64) v18_11, .rw 3]⟩, ⟨0, .arr [] (.int .u8) v18_12⟩] => f26_1000018 k (fun yN_9 => N (sh fi26_18 [.val [] (.int .i64) v18_0, .val [] .bool v18_1, .val [] (.int .i64) v18_2, .val [(0, 0)] (.slice (.int .u8)) v18_3, .val [] (.int .i64) v18_4, .rw 1, .val [] (.int .i64) v18_5, .ptr 2 0] [⟨0, .arr [] (.prod (.int .i64) (.prod .bool (.prod (.int .i64) (.prod (.int .i64) (.prod (.slice (.int .u8)) .unit))))) v18_7⟩, ⟨0, .vars [.val [] (.int .i64) v18_8, .val [] .bool v18_9, .val [] (.int .i64) yN_9, .val [] (.int .i64) v18_11, .rw 3]⟩, ⟨0, .arr [] (.int .u8) v18_12⟩])) v18_0 v18_1 v18_2 v18_3 v18_4 v18_5 v18_6 v18_7 v18_8 v18_9 v18_10 v18_11 v18_12
  | ws, rs => inner T an26 (modesOf F) 0 k 91 (S26 k) (ending T Try.f26 an26 0 K) cd26_1000018 (sh sp26_1000018 ws rs) N X
noncomputable def L26_1000020 (ws : List PV) (rs : List RowS) (N : St → Option R) (X : Nat → St → Option R) : Option R := match ws, rs with
  | [.val [] (.int .i64) v20_0, .val [] .bool v20_1, .val [] (.int .i64) v20_2, .val [(0, 0)] (.slice (.int .u8)) v20_3, .val [] (.int .i64) v20_4, .rw 1, .val [] (.int .i64) v20_5, .ptr 2 0, .val [] .bool v20_6], [⟨0, .arr [] (.prod (.int .i64) (.prod .bool (.prod (.int .i64) (.prod (.int .i64) (.prod (.slice (.int .u8)) .unit))))) v20_7⟩, ⟨0, .vars [.val [] (.int .i64) v20_8, .val [] .bool v20_9, .val [] (.int .i64) v20_10, .val [] (.int .i64) v20_11, .rw 3]⟩, ⟨0, .arr [] (.int .u8) v20_12⟩] => f26_1000020 k (fun yN_9 => N (sh fi26_20 [.val [] (.int .i64) v20_0, .val [] .bool v20_1, .val [] (.int .i64) v20_2, .val [(0, 0)] (.slice (.int .u8)) v20_3, .val [] (.int .i64) v20_4, .rw 1, .val [] (.int .i64) v20_5, .ptr 2 0] [⟨0, .arr [] (.prod (.int .i64) (.prod .bool (.prod (.int .i64) (.prod (.int .i64) (.prod (.slice (.int .u8)) .unit))))) v20_7⟩, ⟨0, .vars [.val [] (.int .i64) v20_8, .val [] .bool v20_9, .val [] (.int .i64) yN_9, .val [] (.int .i64) v20_11, .rw 3]⟩, ⟨0, .arr [] (.int .u8) v20_12⟩])) v20_0 v20_1 v20_2 v20_3 v20_4 v20_5 v20_6 v20_7 v20_8 v20_9 v20_10 v20_11 v20_12
  | ws, rs => inner T an26 (modesOf F) 0 k 91 (S26 k) (ending T Try.f26 an26 0 K) cd26_1000020 (sh sp26_1000020 ws rs) N X
noncomputable def L26_1 (ws : List PV) (rs : List RowS) (N : St → Option R) (X : Nat → St → Option R) : Option R := match ws, rs with
  | [.val [] (.int .i64) v1_0, .val [] .bool v1_1, .val [] (.int .i64) v1_2, .val [(0, 0)] (.slice (.int .u8)) v1_3, .val [] (.int .i64) v1_4, .rw 1, .val [] (.int .i64) v1_5], [⟨0, .arr [] (.prod (.int .i64) (.prod .bool (.prod (.int .i64) (.prod (.int .i64) (.prod (.slice (.int .u8)) .unit))))) v1_6⟩] => f26_1 k (fun y1_0 => N (sh jn26_1 [.rw 1] [⟨0, .arr [] (.prod (.int .i64) (.prod .bool (.prod (.int .i64) (.prod (.int .i64) (.prod (.slice (.int .u8)) .unit))))) y1_0⟩])) v1_0 v1_1 v1_2 v1_3 v1_4 k v1_5 v1_6
  | ws, rs => inner T an26 (modesOf F) 0 k 91 (S26 k) (ending T Try.f26 an26 0 K) cd26_1 (sh sp26_1 ws rs) N X
noncomputable def L26 (id : Nat) (ws : List PV) (rs : List RowS) (N : St → Option R) (X : Nat → St → Option R) : Option R := bif id == 1000018 then L26_1000018 k K ws rs N X else bif id == 1000020 then L26_1000020 k K ws rs N X else bif id == 1 then L26_1 k K ws rs N X else none
theorem b26_1000018 (N : St → Option R) (X : Nat → St → Option R) (v18_0 : Int) (v18_1 : Bool) (v18_2 : Int) (v18_3 : List Int) (v18_4 : Int) (v18_5 : Int) (v18_6 : Bool) (v18_7 : List (Int × (Bool × (Int × (Int × (List Int × Unit)))))) (v18_8 : Int) (v18_9 : Bool) (v18_10 : Int) (v18_11 : Int) (v18_12 : List Int) :
    innerS T an26 (modesOf F) 0 k 91 (S26 k) (L26 k K) (ending T Try.f26 an26 0 K) cd26_1000018 (sh sp26_1000018 [.val [] (.int .i64) v18_0, .val [] .bool v18_1, .val [] (.int .i64) v18_2, .val [(0, 0)] (.slice (.int .u8)) v18_3, .val [] (.int .i64) v18_4, .rw 1, .val [] (.int .i64) v18_5, .ptr 2 0, .val [] .bool v18_6] [⟨0, .arr [] (.prod (.int .i64) (.prod .bool (.prod (.int .i64) (.prod (.int .i64) (.prod (.slice (.int .u8)) .unit))))) v18_7⟩, ⟨0, .vars [.val [] (.int .i64) v18_8, .val [] .bool v18_9, .val [] (.int .i64) v18_10, .val [] (.int .i64) v18_11, .rw 3]⟩, ⟨0, .arr [] (.int .u8) v18_12⟩]) N X = f26_1000018d k (fun yN_9 => N (sh fi26_18 [.val [] (.int .i64) v18_0, .val [] .bool v18_1, .val [] (.int .i64) v18_2, .val [(0, 0)] (.slice (.int .u8)) v18_3, .val [] (.int .i64) v18_4, .rw 1, .val [] (.int .i64) v18_5, .ptr 2 0] [⟨0, .arr [] (.prod (.int .i64) (.prod .bool (.prod (.int .i64) (.prod (.int .i64) (.prod (.slice (.int .u8)) .unit))))) v18_7⟩, ⟨0, .vars [.val [] (.int .i64) v18_8, .val [] .bool v18_9, .val [] (.int .i64) yN_9, .val [] (.int .i64) v18_11, .rw 3]⟩, ⟨0, .arr [] (.int .u8) v18_12⟩])) v18_0 v18_1 v18_2 v18_3 v18_4 v18_5 v18_6 v18_7 v18_8 v18_9 v18_10 v18_11 v18_12 := by kernel_rfl
theorem l26_1000018 (ws : List PV) (rs : List RowS) (N : St → Option R) (X : Nat → St → Option R) : L26 k K 1000018 ws rs N X = inner T an26 (modesOf F) 0 k 91 (S26 k) (ending T Try.f26 an26 0 K) cd26_1000018 (sh sp26_1000018 ws rs) N X := by
  show L26_1000018 k K ws rs N X = _
  unfold L26_1000018
  split
  rotate_left
  · rfl
  rename_i v18_0 v18_1 v18_2 v18_3 v18_4 v18_5 v18_6 v18_7 v18_8 v18_9 v18_10 v18_11 v18_12
  rw [f26_1000018_def]
  exact ((innerS_eq T an26 (modesOf F) 0 k 91 (S26 k) (L26 k K) cd26_1000018 (l := []) (by kernel_rfl) trivial _ N X).symm.trans (b26_1000018 k K N X v18_0 v18_1 v18_2 v18_3 v18_4 v18_5 v18_6 v18_7 v18_8 v18_9 v18_10 v18_11 v18_12)).symm
theorem b26_1000020 (N : St → Option R) (X : Nat → St → Option R) (v20_0 : Int) (v20_1 : Bool) (v20_2 : Int) (v20_3 : List Int) (v20_4 : Int) (v20_5 : Int) (v20_6 : Bool) (v20_7 : List (Int × (Bool × (Int × (Int × (List Int × Unit)))))) (v20_8 : Int) (v20_9 : Bool) (v20_10 : Int) (v20_11 : Int) (v20_12 : List Int) :
    innerS T an26 (modesOf F) 0 k 91 (S26 k) (L26 k K) (ending T Try.f26 an26 0 K) cd26_1000020 (sh sp26_1000020 [.val [] (.int .i64) v20_0, .val [] .bool v20_1, .val [] (.int .i64) v20_2, .val [(0, 0)] (.slice (.int .u8)) v20_3, .val [] (.int .i64) v20_4, .rw 1, .val [] (.int .i64) v20_5, .ptr 2 0, .val [] .bool v20_6] [⟨0, .arr [] (.prod (.int .i64) (.prod .bool (.prod (.int .i64) (.prod (.int .i64) (.prod (.slice (.int .u8)) .unit))))) v20_7⟩, ⟨0, .vars [.val [] (.int .i64) v20_8, .val [] .bool v20_9, .val [] (.int .i64) v20_10, .val [] (.int .i64) v20_11, .rw 3]⟩, ⟨0, .arr [] (.int .u8) v20_12⟩]) N X = f26_1000020d k (fun yN_9 => N (sh fi26_20 [.val [] (.int .i64) v20_0, .val [] .bool v20_1, .val [] (.int .i64) v20_2, .val [(0, 0)] (.slice (.int .u8)) v20_3, .val [] (.int .i64) v20_4, .rw 1, .val [] (.int .i64) v20_5, .ptr 2 0] [⟨0, .arr [] (.prod (.int .i64) (.prod .bool (.prod (.int .i64) (.prod (.int .i64) (.prod (.slice (.int .u8)) .unit))))) v20_7⟩, ⟨0, .vars [.val [] (.int .i64) v20_8, .val [] .bool v20_9, .val [] (.int .i64) yN_9, .val [] (.int .i64) v20_11, .rw 3]⟩, ⟨0, .arr [] (.int .u8) v20_12⟩])) v20_0 v20_1 v20_2 v20_3 v20_4 v20_5 v20_6 v20_7 v20_8 v20_9 v20_10 v20_11 v20_12 := by kernel_rfl
theorem l26_1000020 (ws : List PV) (rs : List RowS) (N : St → Option R) (X : Nat → St → Option R) : L26 k K 1000020 ws rs N X = inner T an26 (modesOf F) 0 k 91 (S26 k) (ending T Try.f26 an26 0 K) cd26_1000020 (sh sp26_1000020 ws rs) N X := by
  show L26_1000020 k K ws rs N X = _
  unfold L26_1000020
  split
  rotate_left
  · rfl
  rename_i v20_0 v20_1 v20_2 v20_3 v20_4 v20_5 v20_6 v20_7 v20_8 v20_9 v20_10 v20_11 v20_12
  rw [f26_1000020_def]
  exact ((innerS_eq T an26 (modesOf F) 0 k 91 (S26 k) (L26 k K) cd26_1000020 (l := []) (by kernel_rfl) trivial _ N X).symm.trans (b26_1000020 k K N X v20_0 v20_1 v20_2 v20_3 v20_4 v20_5 v20_6 v20_7 v20_8 v20_9 v20_10 v20_11 v20_12)).symm
theorem b26_1 (rec : St → Option R) (N : St → Option R) (X : Nat → St → Option R) (v1_0 : Int) (v1_1 : Bool) (v1_2 : Int) (v1_3 : List Int) (v1_4 : Int) (v1_5 : Int) (v1_6 : List (Int × (Bool × (Int × (Int × (List Int × Unit)))))) :
    execS T an26 (modesOf F) 0 k 91 (S26 k) (L26 k K) (ending T Try.f26 an26 0 K) bd26_1 (sh sp26_1 [.val [] (.int .i64) v1_0, .val [] .bool v1_1, .val [] (.int .i64) v1_2, .val [(0, 0)] (.slice (.int .u8)) v1_3, .val [] (.int .i64) v1_4, .rw 1, .val [] (.int .i64) v1_5] [⟨0, .arr [] (.prod (.int .i64) (.prod .bool (.prod (.int .i64) (.prod (.int .i64) (.prod (.slice (.int .u8)) .unit))))) v1_6⟩]) (fun st => atHead an26 0 bd26_1 st rec) (outX an26 0 1 N X) =
      f26_1b k (fun v1_5 v1_6 => rec (sh sp26_1 [.val [] (.int .i64) v1_0, .val [] .bool v1_1, .val [] (.int .i64) v1_2, .val [(0, 0)] (.slice (.int .u8)) v1_3, .val [] (.int .i64) v1_4, .rw 1, .val [] (.int .i64) v1_5] [⟨0, .arr [] (.prod (.int .i64) (.prod .bool (.prod (.int .i64) (.prod (.int .i64) (.prod (.slice (.int .u8)) .unit))))) v1_6⟩])) (fun y1_0 => N (sh jn26_1 [.rw 1] [⟨0, .arr [] (.prod (.int .i64) (.prod .bool (.prod (.int .i64) (.prod (.int .i64) (.prod (.slice (.int .u8)) .unit))))) y1_0⟩])) v1_0 v1_1 v1_2 v1_3 v1_4 v1_5 v1_6 := by kernel_rfl
theorem i26_1 (N : St → Option R) (X : Nat → St → Option R) (v1_0 : Int) (v1_1 : Bool) (v1_2 : Int) (v1_3 : List Int) (v1_4 : Int) (m : Nat) : ∀ (v1_5 : Int) (v1_6 : List (Int × (Bool × (Int × (Int × (List Int × Unit)))))),
    iter (atHead an26 0 bd26_1) m (fun st N' => exec T an26 (modesOf F) 0 k 91 (S26 k) (ending T Try.f26 an26 0 K) bd26_1 st N' (outX an26 0 1 N X)) (sh sp26_1 [.val [] (.int .i64) v1_0, .val [] .bool v1_1, .val [] (.int .i64) v1_2, .val [(0, 0)] (.slice (.int .u8)) v1_3, .val [] (.int .i64) v1_4, .rw 1, .val [] (.int .i64) v1_5] [⟨0, .arr [] (.prod (.int .i64) (.prod .bool (.prod (.int .i64) (.prod (.int .i64) (.prod (.slice (.int .u8)) .unit))))) v1_6⟩]) = f26_1d k (fun y1_0 => N (sh jn26_1 [.rw 1] [⟨0, .arr [] (.prod (.int .i64) (.prod .bool (.prod (.int .i64) (.prod (.int .i64) (.prod (.slice (.int .u8)) .unit))))) y1_0⟩])) v1_0 v1_1 v1_2 v1_3 v1_4 m v1_5 v1_6 := by
  induction m with
  | zero => intros; rfl
  | succ m ih =>
    intro v1_5 v1_6
    simp only [iter]
    rw [← execS_eq T an26 (modesOf F) 0 k 91 (S26 k) (L26 k K) bd26_1 (cuts_of _ _ _ _ _ _ _ _ bd26_1 (l := [(1000018, sp26_1000018, cd26_1000018), (1000020, sp26_1000020, cd26_1000020)]) (by kernel_rfl) ⟨l26_1000018 k K, l26_1000020 k K, trivial⟩)]
    refine (b26_1 k K _ N X v1_0 v1_1 v1_2 v1_3 v1_4 v1_5 v1_6).trans ?_
    simp only [f26_1d, ih]
theorem l26_1 (ws : List PV) (rs : List RowS) (N : St → Option R) (X : Nat → St → Option R) : L26 k K 1 ws rs N X = inner T an26 (modesOf F) 0 k 91 (S26 k) (ending T Try.f26 an26 0 K) cd26_1 (sh sp26_1 ws rs) N X := by
  show L26_1 k K ws rs N X = _
  unfold L26_1
  split
  rotate_left
  · rfl
  rename_i v1_0 v1_1 v1_2 v1_3 v1_4 v1_5 v1_6
  rw [f26_1_def]
  refine Eq.trans ?_ (show iter (atHead an26 0 bd26_1) k (fun st N' => exec T an26 (modesOf F) 0 k 91 (S26 k) (ending T Try.f26 an26 0 K) bd26_1 st N' (outX an26 0 1 N X)) (sh sp26_1 [.val [] (.int .i64) v1_0, .val [] .bool v1_1, .val [] (.int .i64) v1_2, .val [(0, 0)] (.slice (.int .u8)) v1_3, .val [] (.int .i64) v1_4, .rw 1, .val [] (.int .i64) v1_5] [⟨0, .arr [] (.prod (.int .i64) (.prod .bool (.prod (.int .i64) (.prod (.int .i64) (.prod (.slice (.int .u8)) .unit))))) v1_6⟩]) = _ from by kernel_rfl)
  exact (i26_1 k K N X v1_0 v1_1 v1_2 v1_3 v1_4 k v1_5 v1_6).symm
end
theorem q26 (k : Nat) (a0 : Int) (a1 : Bool) (a2 : Int) (a3 : List Int) (a4 : Int) (K : List PV → List RowS → Option R) :
    execS T an26 (modesOf F) 0 k 91 (S26 k) (L26 k K) (ending T Try.f26 an26 0 K) (bodyOf Try.f26) ⟨argEnv 0 [.val [] (.int .i64) a0, .val [] .bool a1, .val [] (.int .i64) a2, .val [(0, 0)] (.slice (.int .u8)) a3, .val [] (.int .i64) a4] (fun _ => none), rowsOf []⟩ (ending T Try.f26 an26 0 K) (fun _ _ => none) = f26d (k + 1) a0 a1 a2 a3 a4 (fun z0 z1 => K [.rw 1, .val [] (.int .i64) z0] [⟨0, .arr [] (.prod (.int .i64) (.prod .bool (.prod (.int .i64) (.prod (.int .i64) (.prod (.slice (.int .u8)) .unit))))) z1⟩]) := by kernel_rfl
theorem e26 (k : Nat) (a0 : Int) (a1 : Bool) (a2 : Int) (a3 : List Int) (a4 : Int) (K : List PV → List RowS → Option R) : callC T F k 26 [.val [] (.int .i64) a0, .val [] .bool a1, .val [] (.int .i64) a2, .val [(0, 0)] (.slice (.int .u8)) a3, .val [] (.int .i64) a4] [] K = f26 k a0 a1 a2 a3 a4 (fun z0 z1 => K [.rw 1, .val [] (.int .i64) z0] [⟨0, .arr [] (.prod (.int .i64) (.prod .bool (.prod (.int .i64) (.prod (.int .i64) (.prod (.slice (.int .u8)) .unit))))) z1⟩]) := by
  rw [f26_def]
  cases k with
  | zero => rfl
  | succ k =>
    refine Eq.trans (show _ = exec T an26 (modesOf F) 0 k 91 (callC T F k) (ending T Try.f26 an26 0 K) (bodyOf Try.f26) ⟨argEnv 0 [.val [] (.int .i64) a0, .val [] .bool a1, .val [] (.int .i64) a2, .val [(0, 0)] (.slice (.int .u8)) a3, .val [] (.int .i64) a4] (fun _ => none), rowsOf []⟩ (ending T Try.f26 an26 0 K) (fun _ _ => none) from by kernel_rfl) ?_
    rw [← S26_eq k, ← execS_eq T an26 (modesOf F) 0 k 91 (S26 k) (L26 k K) (bodyOf Try.f26) (cuts_of _ _ _ _ _ _ _ _ (bodyOf Try.f26) (l := [(1, sp26_1, cd26_1)]) (by kernel_rfl) ⟨l26_1 k K, trivial⟩)]
    exact q26 k a0 a1 a2 a3 a4 K
noncomputable def s26 (k : Nat) (a : List PV) (r : List RowS) (K : List PV → List RowS → Option R) : Option R := match a, r with
  | [.val [] (.int .i64) a0, .val [] .bool a1, .val [] (.int .i64) a2, .val [(0, 0)] (.slice (.int .u8)) a3, .val [] (.int .i64) a4], [] => f26 k a0 a1 a2 a3 a4 (fun z0 z1 => K [.rw 1, .val [] (.int .i64) z0] [⟨0, .arr [] (.prod (.int .i64) (.prod .bool (.prod (.int .i64) (.prod (.int .i64) (.prod (.slice (.int .u8)) .unit))))) z1⟩])
  | a, r => callC T F k 26 a r K
theorem s26_eq (k : Nat) (a : List PV) (r : List RowS) (K : List PV → List RowS → Option R) : s26 k a r K = callC T F k 26 a r K := by
  unfold s26
  split
  · exact (e26 k _ _ _ _ _ K).symm
  · rfl
end
section
variable {R : Type}
noncomputable def S27 (k g : Nat) (a : List PV) (r : List RowS) (K : List PV → List RowS → Option R) : Option R := bif g == 24 then s24 k a r K else callC T F k g a r K
theorem S27_eq (k : Nat) : S27 (R := R) k = callC T F k := by
  funext g a r K
  exact pick_eq (fun e => by subst e; exact s24_eq k a r K) (rfl)
section
variable {R : Type} (k : Nat) (K : List PV → List RowS → Option R)
noncomputable def L27_0 (ws : List PV) (rs : List RowS) (N : St → Option R) (X : Nat → St → Option R) : Option R := match ws, rs with
  | [.val [(0, 0)] (.slice (.prod (.int .i64) (.prod .bool (.prod (.int .i64) (.prod (.int .i64) (.prod (.slice (.int .u8)) .unit)))))) v0_0, .val [(0, 0)] (.slice (.prod (.int .i64) (.prod .bool (.prod (.int .i64) (.prod (.int .i64) (.prod (.slice (.int .u8)) .unit)))))) v0_1, .val [] (.int .i64) v0_2, .val [] (.int .i64) v0_3], [] => f27_0 k (fun z0 => K [.val [] .bool z0] []) (N (sh jn27_0 [] [])) v0_0 v0_1 v0_2 k v0_3
  | ws, rs => inner T an27 (modesOf F) 0 k 27 (S27 k) (ending T Try.f27 an27 0 K) cd27_0 (sh sp27_0 ws rs) N X
noncomputable def L27 (id : Nat) (ws : List PV) (rs : List RowS) (N : St → Option R) (X : Nat → St → Option R) : Option R := bif id == 0 then L27_0 k K ws rs N X else none
theorem b27_0 (rec : St → Option R) (N : St → Option R) (X : Nat → St → Option R) (v0_0 : List ((Int × (Bool × (Int × (Int × (List Int × Unit))))))) (v0_1 : List ((Int × (Bool × (Int × (Int × (List Int × Unit))))))) (v0_2 : Int) (v0_3 : Int) :
    execS T an27 (modesOf F) 0 k 27 (S27 k) (L27 k K) (ending T Try.f27 an27 0 K) bd27_0 (sh sp27_0 [.val [(0, 0)] (.slice (.prod (.int .i64) (.prod .bool (.prod (.int .i64) (.prod (.int .i64) (.prod (.slice (.int .u8)) .unit)))))) v0_0, .val [(0, 0)] (.slice (.prod (.int .i64) (.prod .bool (.prod (.int .i64) (.prod (.int .i64) (.prod (.slice (.int .u8)) .unit)))))) v0_1, .val [] (.int .i64) v0_2, .val [] (.int .i64) v0_3] []) (fun st => atHead an27 0 bd27_0 st rec) (outX an27 0 0 N X) =
      f27_0b k (fun v0_3 => rec (sh sp27_0 [.val [(0, 0)] (.slice (.prod (.int .i64) (.prod .bool (.prod (.int .i64) (.prod (.int .i64) (.prod (.slice (.int .u8)) .unit)))))) v0_0, .val [(0, 0)] (.slice (.prod (.int .i64) (.prod .bool (.prod (.int .i64) (.prod (.int .i64) (.prod (.slice (.int .u8)) .unit)))))) v0_1, .val [] (.int .i64) v0_2, .val [] (.int .i64) v0_3] [])) (fun z0 => K [.val [] .bool z0] []) (N (sh jn27_0 [] [])) v0_0 v0_1 v0_2 v0_3 := by kernel_rfl
theorem i27_0 (N : St → Option R) (X : Nat → St → Option R) (v0_0 : List ((Int × (Bool × (Int × (Int × (List Int × Unit))))))) (v0_1 : List ((Int × (Bool × (Int × (Int × (List Int × Unit))))))) (v0_2 : Int) (m : Nat) : ∀ (v0_3 : Int),
    iter (atHead an27 0 bd27_0) m (fun st N' => exec T an27 (modesOf F) 0 k 27 (S27 k) (ending T Try.f27 an27 0 K) bd27_0 st N' (outX an27 0 0 N X)) (sh sp27_0 [.val [(0, 0)] (.slice (.prod (.int .i64) (.prod .bool (.prod (.int .i64) (.prod (.int .i64) (.prod (.slice (.int .u8)) .unit)))))) v0_0, .val [(0, 0)] (.slice (.prod (.int .i64) (.prod .bool (.prod (.int .i64) (.prod (.int .i64) (.prod (.slice (.int .u8)) .unit)))))) v0_1, .val [] (.int .i64) v0_2, .val [] (.int .i64) v0_3] []) = f27_0d k (fun z0 => K [.val [] .bool z0] []) (N (sh jn27_0 [] [])) v0_0 v0_1 v0_2 m v0_3 := by
  induction m with
  | zero => intros; rfl
  | succ m ih =>
    intro v0_3
    simp only [iter]
    rw [← execS_eq T an27 (modesOf F) 0 k 27 (S27 k) (L27 k K) bd27_0 (cuts_of _ _ _ _ _ _ _ _ bd27_0 (l := []) (by kernel_rfl) trivial)]
    refine (b27_0 k K _ N X v0_0 v0_1 v0_2 v0_3).trans ?_
    simp only [f27_0d, ih]
theorem l27_0 (ws : List PV) (rs : List RowS) (N : St → Option R) (X : Nat → St → Option R) : L27 k K 0 ws rs N X = inner T an27 (modesOf F) 0 k 27 (S27 k) (ending T Try.f27 an27 0 K) cd27_0 (sh sp27_0 ws rs) N X := by
  show L27_0 k K ws rs N X = _
  unfold L27_0
  split
  rotate_left
  · rfl
  rename_i v0_0 v0_1 v0_2 v0_3
  rw [f27_0_def]
  refine Eq.trans ?_ (show iter (atHead an27 0 bd27_0) k (fun st N' => exec T an27 (modesOf F) 0 k 27 (S27 k) (ending T Try.f27 an27 0 K) bd27_0 st N' (outX an27 0 0 N X)) (sh sp27_0 [.val [(0, 0)] (.slice (.prod (.int .i64) (.prod .bool (.prod (.int .i64) (.prod (.int .i64) (.prod (.slice (.int .u8)) .unit)))))) v0_0, .val [(0, 0)] (.slice (.prod (.int .i64) (.prod .bool (.prod (.int .i64) (.prod (.int .i64) (.prod (.slice (.int .u8)) .unit)))))) v0_1, .val [] (.int .i64) v0_2, .val [] (.int .i64) v0_3] []) = _ from by kernel_rfl)
  exact (i27_0 k K N X v0_0 v0_1 v0_2 k v0_3).symm
end
theorem q27 (k : Nat) (a0 : List ((Int × (Bool × (Int × (Int × (List Int × Unit))))))) (a1 : List ((Int × (Bool × (Int × (Int × (List Int × Unit))))))) (K : List PV → List RowS → Option R) :
    execS T an27 (modesOf F) 0 k 27 (S27 k) (L27 k K) (ending T Try.f27 an27 0 K) (bodyOf Try.f27) ⟨argEnv 0 [.val [(0, 0)] (.slice (.prod (.int .i64) (.prod .bool (.prod (.int .i64) (.prod (.int .i64) (.prod (.slice (.int .u8)) .unit)))))) a0, .val [(0, 0)] (.slice (.prod (.int .i64) (.prod .bool (.prod (.int .i64) (.prod (.int .i64) (.prod (.slice (.int .u8)) .unit)))))) a1] (fun _ => none), rowsOf []⟩ (ending T Try.f27 an27 0 K) (fun _ _ => none) = f27d (k + 1) a0 a1 (fun z0 => K [.val [] .bool z0] []) := by kernel_rfl
theorem e27 (k : Nat) (a0 : List ((Int × (Bool × (Int × (Int × (List Int × Unit))))))) (a1 : List ((Int × (Bool × (Int × (Int × (List Int × Unit))))))) (K : List PV → List RowS → Option R) : callC T F k 27 [.val [(0, 0)] (.slice (.prod (.int .i64) (.prod .bool (.prod (.int .i64) (.prod (.int .i64) (.prod (.slice (.int .u8)) .unit)))))) a0, .val [(0, 0)] (.slice (.prod (.int .i64) (.prod .bool (.prod (.int .i64) (.prod (.int .i64) (.prod (.slice (.int .u8)) .unit)))))) a1] [] K = f27 k a0 a1 (fun z0 => K [.val [] .bool z0] []) := by
  rw [f27_def]
  cases k with
  | zero => rfl
  | succ k =>
    refine Eq.trans (show _ = exec T an27 (modesOf F) 0 k 27 (callC T F k) (ending T Try.f27 an27 0 K) (bodyOf Try.f27) ⟨argEnv 0 [.val [(0, 0)] (.slice (.prod (.int .i64) (.prod .bool (.prod (.int .i64) (.prod (.int .i64) (.prod (.slice (.int .u8)) .unit)))))) a0, .val [(0, 0)] (.slice (.prod (.int .i64) (.prod .bool (.prod (.int .i64) (.prod (.int .i64) (.prod (.slice (.int .u8)) .unit)))))) a1] (fun _ => none), rowsOf []⟩ (ending T Try.f27 an27 0 K) (fun _ _ => none) from by kernel_rfl) ?_
    rw [← S27_eq k, ← execS_eq T an27 (modesOf F) 0 k 27 (S27 k) (L27 k K) (bodyOf Try.f27) (cuts_of _ _ _ _ _ _ _ _ (bodyOf Try.f27) (l := [(0, sp27_0, cd27_0)]) (by kernel_rfl) ⟨l27_0 k K, trivial⟩)]
    exact q27 k a0 a1 K
noncomputable def s27 (k : Nat) (a : List PV) (r : List RowS) (K : List PV → List RowS → Option R) : Option R := match a, r with
  | [.val [(0, 0)] (.slice (.prod (.int .i64) (.prod .bool (.prod (.int .i64) (.prod (.int .i64) (.prod (.slice (.int .u8)) .unit)))))) a0, .val [(0, 0)] (.slice (.prod (.int .i64) (.prod .bool (.prod (.int .i64) (.prod (.int .i64) (.prod (.slice (.int .u8)) .unit)))))) a1], [] => f27 k a0 a1 (fun z0 => K [.val [] .bool z0] [])
  | a, r => callC T F k 27 a r K
theorem s27_eq (k : Nat) (a : List PV) (r : List RowS) (K : List PV → List RowS → Option R) : s27 k a r K = callC T F k 27 a r K := by
  unfold s27
  split
  · exact (e27 k _ _ K).symm
  · rfl
end
section
variable {R : Type}
noncomputable def S5 (k g : Nat) (a : List PV) (r : List RowS) (K : List PV → List RowS → Option R) : Option R := bif g == 21 then s21 k a r K else bif g == 25 then s25 k a r K else bif g == 26 then s26 k a r K else bif g == 27 then s27 k a r K else callC T F k g a r K
theorem S5_eq (k : Nat) : S5 (R := R) k = callC T F k := by
  funext g a r K
  exact pick_eq (fun e => by subst e; exact s21_eq k a r K) (pick_eq (fun e => by subst e; exact s25_eq k a r K) (pick_eq (fun e => by subst e; exact s26_eq k a r K) (pick_eq (fun e => by subst e; exact s27_eq k a r K) (rfl))))
theorem q5 (k : Nat) (a0 : Int) (a1 : Bool) (a2 : Int) (a3 : List Int) (a4 : Int) (K : List PV → List RowS → Option R) :
    execS T an5 (modesOf F) 0 k 44 (S5 k) (fun _ _ _ _ _ => none) (ending T Try.f5 an5 0 K) (bodyOf Try.f5) ⟨argEnv 0 [.val [] (.int .i64) a0, .val [] .bool a1, .val [] (.int .i64) a2, .val [(0, 0)] (.slice (.int .u8)) a3, .val [] (.int .i64) a4] (fun _ => none), rowsOf []⟩ (ending T Try.f5 an5 0 K) (fun _ _ => none) = f5d (k + 1) a0 a1 a2 a3 a4 (fun z0 => K [.val [] .bool z0] []) := by kernel_rfl
theorem e5 (k : Nat) (a0 : Int) (a1 : Bool) (a2 : Int) (a3 : List Int) (a4 : Int) (K : List PV → List RowS → Option R) : callC T F k 5 [.val [] (.int .i64) a0, .val [] .bool a1, .val [] (.int .i64) a2, .val [(0, 0)] (.slice (.int .u8)) a3, .val [] (.int .i64) a4] [] K = f5 k a0 a1 a2 a3 a4 (fun z0 => K [.val [] .bool z0] []) := by
  rw [f5_def]
  cases k with
  | zero => rfl
  | succ k =>
    refine Eq.trans (show _ = exec T an5 (modesOf F) 0 k 44 (callC T F k) (ending T Try.f5 an5 0 K) (bodyOf Try.f5) ⟨argEnv 0 [.val [] (.int .i64) a0, .val [] .bool a1, .val [] (.int .i64) a2, .val [(0, 0)] (.slice (.int .u8)) a3, .val [] (.int .i64) a4] (fun _ => none), rowsOf []⟩ (ending T Try.f5 an5 0 K) (fun _ _ => none) from by kernel_rfl) ?_
    rw [← S5_eq k, ← execS_eq T an5 (modesOf F) 0 k 44 (S5 k) (fun _ _ _ _ _ => none) (bodyOf Try.f5) (cuts_of _ _ _ _ _ _ _ _ (bodyOf Try.f5) (l := []) (by kernel_rfl) trivial)]
    exact q5 k a0 a1 a2 a3 a4 K
noncomputable def s5 (k : Nat) (a : List PV) (r : List RowS) (K : List PV → List RowS → Option R) : Option R := match a, r with
  | [.val [] (.int .i64) a0, .val [] .bool a1, .val [] (.int .i64) a2, .val [(0, 0)] (.slice (.int .u8)) a3, .val [] (.int .i64) a4], [] => f5 k a0 a1 a2 a3 a4 (fun z0 => K [.val [] .bool z0] [])
  | a, r => callC T F k 5 a r K
theorem s5_eq (k : Nat) (a : List PV) (r : List RowS) (K : List PV → List RowS → Option R) : s5 k a r K = callC T F k 5 a r K := by
  unfold s5
  split
  · exact (e5 k _ _ _ _ _ K).symm
  · rfl
end
section
variable {R : Type}
noncomputable def S72 (k g : Nat) (a : List PV) (r : List RowS) (K : List PV → List RowS → Option R) : Option R := callC T F k g a r K
theorem S72_eq (k : Nat) : S72 (R := R) k = callC T F k := by
  funext g a r K
  exact rfl
theorem q72 (k : Nat) (a0 : Int) (K : List PV → List RowS → Option R) :
    execS T an72 (modesOf F) 0 k 9 (S72 k) (fun _ _ _ _ _ => none) (ending T Try.f72 an72 0 K) (bodyOf Try.f72) ⟨argEnv 0 [.val [] (.int .i64) a0] (fun _ => none), rowsOf []⟩ (ending T Try.f72 an72 0 K) (fun _ _ => none) = f72d (k + 1) a0 (fun z0 => K [.rw 1] [⟨0, .arr [] (.int .u8) z0⟩]) := by kernel_rfl
theorem e72 (k : Nat) (a0 : Int) (K : List PV → List RowS → Option R) : callC T F k 72 [.val [] (.int .i64) a0] [] K = f72 k a0 (fun z0 => K [.rw 1] [⟨0, .arr [] (.int .u8) z0⟩]) := by
  rw [f72_def]
  cases k with
  | zero => rfl
  | succ k =>
    refine Eq.trans (show _ = exec T an72 (modesOf F) 0 k 9 (callC T F k) (ending T Try.f72 an72 0 K) (bodyOf Try.f72) ⟨argEnv 0 [.val [] (.int .i64) a0] (fun _ => none), rowsOf []⟩ (ending T Try.f72 an72 0 K) (fun _ _ => none) from by kernel_rfl) ?_
    rw [← S72_eq k, ← execS_eq T an72 (modesOf F) 0 k 9 (S72 k) (fun _ _ _ _ _ => none) (bodyOf Try.f72) (cuts_of _ _ _ _ _ _ _ _ (bodyOf Try.f72) (l := []) (by kernel_rfl) trivial)]
    exact q72 k a0 K
noncomputable def s72 (k : Nat) (a : List PV) (r : List RowS) (K : List PV → List RowS → Option R) : Option R := match a, r with
  | [.val [] (.int .i64) a0], [] => f72 k a0 (fun z0 => K [.rw 1] [⟨0, .arr [] (.int .u8) z0⟩])
  | a, r => callC T F k 72 a r K
theorem s72_eq (k : Nat) (a : List PV) (r : List RowS) (K : List PV → List RowS → Option R) : s72 k a r K = callC T F k 72 a r K := by
  unfold s72
  split
  · exact (e72 k _ K).symm
  · rfl
end
section
variable {R : Type}
noncomputable def S73 (k g : Nat) (a : List PV) (r : List RowS) (K : List PV → List RowS → Option R) : Option R := bif g == 19 then s19 k a r K else bif g == 72 then s72 k a r K else callC T F k g a r K
theorem S73_eq (k : Nat) : S73 (R := R) k = callC T F k := by
  funext g a r K
  exact pick_eq (fun e => by subst e; exact s19_eq k a r K) (pick_eq (fun e => by subst e; exact s72_eq k a r K) (rfl))
theorem q73 (k : Nat) (a0 : List Int) (K : List PV → List RowS → Option R) :
    execS T an73 (modesOf F) 1 k 8 (S73 k) (fun _ _ _ _ _ => none) (ending T Try.f73 an73 1 K) (bodyOf Try.f73) ⟨argEnv 0 [.rw 1] (fun _ => none), rowsOf [⟨0, .arr [] (.int .u8) a0⟩]⟩ (ending T Try.f73 an73 1 K) (fun _ _ => none) = f73d (k + 1) a0 (fun z0 => K [.rw 2] [⟨0, .gone⟩, ⟨0, .arr [] (.int .u8) z0⟩]) := by kernel_rfl
theorem e73 (k : Nat) (a0 : List Int) (K : List PV → List RowS → Option R) : callC T F k 73 [.rw 1] [⟨0, .arr [] (.int .u8) a0⟩] K = f73 k a0 (fun z0 => K [.rw 2] [⟨0, .gone⟩, ⟨0, .arr [] (.int .u8) z0⟩]) := by
  rw [f73_def]
  cases k with
  | zero => rfl
  | succ k =>
    refine Eq.trans (show _ = exec T an73 (modesOf F) 1 k 8 (callC T F k) (ending T Try.f73 an73 1 K) (bodyOf Try.f73) ⟨argEnv 0 [.rw 1] (fun _ => none), rowsOf [⟨0, .arr [] (.int .u8) a0⟩]⟩ (ending T Try.f73 an73 1 K) (fun _ _ => none) from by kernel_rfl) ?_
    rw [← S73_eq k, ← execS_eq T an73 (modesOf F) 1 k 8 (S73 k) (fun _ _ _ _ _ => none) (bodyOf Try.f73) (cuts_of _ _ _ _ _ _ _ _ (bodyOf Try.f73) (l := []) (by kernel_rfl) trivial)]
    exact q73 k a0 K
noncomputable def s73 (k : Nat) (a : List PV) (r : List RowS) (K : List PV → List RowS → Option R) : Option R := match a, r with
  | [.rw 1], [⟨0, .arr [] (.int .u8) a0⟩] => f73 k a0 (fun z0 => K [.rw 2] [⟨0, .gone⟩, ⟨0, .arr [] (.int .u8) z0⟩])
  | a, r => callC T F k 73 a r K
theorem s73_eq (k : Nat) (a : List PV) (r : List RowS) (K : List PV → List RowS → Option R) : s73 k a r K = callC T F k 73 a r K := by
  unfold s73
  split
  · exact (e73 k _ K).symm
  · rfl
end
section
variable {R : Type}
noncomputable def S70 (k g : Nat) (a : List PV) (r : List RowS) (K : List PV → List RowS → Option R) : Option R := bif g == 72 then s72 k a r K else bif g == 73 then s73 k a r K else callC T F k g a r K
theorem S70_eq (k : Nat) : S70 (R := R) k = callC T F k := by
  funext g a r K
  exact pick_eq (fun e => by subst e; exact s72_eq k a r K) (pick_eq (fun e => by subst e; exact s73_eq k a r K) (rfl))
section
variable {R : Type} (k : Nat) (K : List PV → List RowS → Option R)
noncomputable def L70_1000003 (ws : List PV) (rs : List RowS) (N : St → Option R) (X : Nat → St → Option R) : Option R := match ws, rs with
  | [.ptr 1 0, .val [] (.int .i64) v3_0, .val [] .bool v3_1], [⟨0, .vars [.val [] (.int .i64) v3_2, .val [] .bool v3_3, .val [] (.int .i64) v3_4, .val [] (.int .i64) v3_5, .val [(0, 0)] (.slice (.int .u8)) v3_6]⟩] => f70_1000003 k (fun yN_0 => N (sh fi70_3 [.ptr 1 0, .val [] (.int .i64) yN_0] [⟨0, .vars [.val [] (.int .i64) v3_2, .val [] .bool v3_3, .val [] (.int .i64) v3_4, .val [] (.int .i64) v3_5, .val [(0, 0)] (.slice (.int .u8)) v3_6]⟩])) v3_0 v3_1 v3_2 v3_3 v3_4 v3_5 v3_6
  | ws, rs => inner T an70 (modesOf F) 0 k 33 (S70 k) (ending T Try.f70 an70 0 K) cd70_1000003 (sh sp70_1000003 ws rs) N X
noncomputable def L70 (id : Nat) (ws : List PV) (rs : List RowS) (N : St → Option R) (X : Nat → St → Option R) : Option R := bif id == 1000003 then L70_1000003 k K ws rs N X else none
theorem b70_1000003 (N : St → Option R) (X : Nat → St → Option R) (v3_0 : Int) (v3_1 : Bool) (v3_2 : Int) (v3_3 : Bool) (v3_4 : Int) (v3_5 : Int) (v3_6 : List Int) :
    innerS T an70 (modesOf F) 0 k 33 (S70 k) (L70 k K) (ending T Try.f70 an70 0 K) cd70_1000003 (sh sp70_1000003 [.ptr 1 0, .val [] (.int .i64) v3_0, .val [] .bool v3_1] [⟨0, .vars [.val [] (.int .i64) v3_2, .val [] .bool v3_3, .val [] (.int .i64) v3_4, .val [] (.int .i64) v3_5, .val [(0, 0)] (.slice (.int .u8)) v3_6]⟩]) N X = f70_1000003d k (fun yN_0 => N (sh fi70_3 [.ptr 1 0, .val [] (.int .i64) yN_0] [⟨0, .vars [.val [] (.int .i64) v3_2, .val [] .bool v3_3, .val [] (.int .i64) v3_4, .val [] (.int .i64) v3_5, .val [(0, 0)] (.slice (.int .u8)) v3_6]⟩])) v3_0 v3_1 v3_2 v3_3 v3_4 v3_5 v3_6 := by kernel_rfl
theorem l70_1000003 (ws : List PV) (rs : List RowS) (N : St → Option R) (X : Nat → St → Option R) : L70 k K 1000003 ws rs N X = inner T an70 (modesOf F) 0 k 33 (S70 k) (ending T Try.f70 an70 0 K) cd70_1000003 (sh sp70_1000003 ws rs) N X := by
  show L70_1000003 k K ws rs N X = _
  unfold L70_1000003
  split
  rotate_left
  · rfl
  rename_i v3_0 v3_1 v3_2 v3_3 v3_4 v3_5 v3_6
  rw [f70_1000003_def]
  exact ((innerS_eq T an70 (modesOf F) 0 k 33 (S70 k) (L70 k K) cd70_1000003 (l := []) (by kernel_rfl) trivial _ N X).symm.trans (b70_1000003 k K N X v3_0 v3_1 v3_2 v3_3 v3_4 v3_5 v3_6)).symm
end
theorem q70 (k : Nat) (a0 : Int) (a1 : Bool) (a2 : Int) (a3 : Int) (a4 : List Int) (K : List PV → List RowS → Option R) :
    execS T an70 (modesOf F) 0 k 33 (S70 k) (L70 k K) (ending T Try.f70 an70 0 K) (bodyOf Try.f70) ⟨argEnv 0 [.agg [.val [] (.int .i64) a0, .val [] .bool a1, .val [] (.int .i64) a2, .val [] (.int .i64) a3, .val [(0, 0)] (.slice (.int .u8)) a4]] (fun _ => none), rowsOf []⟩ (ending T Try.f70 an70 0 K) (fun _ _ => none) = f70d (k + 1) a0 a1 a2 a3 a4 (fun z0 => K [.rw 1] [⟨0, .arr [] (.int .u8) z0⟩]) := by kernel_rfl
theorem e70 (k : Nat) (a0 : Int) (a1 : Bool) (a2 : Int) (a3 : Int) (a4 : List Int) (K : List PV → List RowS → Option R) : callC T F k 70 [.agg [.val [] (.int .i64) a0, .val [] .bool a1, .val [] (.int .i64) a2, .val [] (.int .i64) a3, .val [(0, 0)] (.slice (.int .u8)) a4]] [] K = f70 k a0 a1 a2 a3 a4 (fun z0 => K [.rw 1] [⟨0, .arr [] (.int .u8) z0⟩]) := by
  rw [f70_def]
  cases k with
  | zero => rfl
  | succ k =>
    refine Eq.trans (show _ = exec T an70 (modesOf F) 0 k 33 (callC T F k) (ending T Try.f70 an70 0 K) (bodyOf Try.f70) ⟨argEnv 0 [.agg [.val [] (.int .i64) a0, .val [] .bool a1, .val [] (.int .i64) a2, .val [] (.int .i64) a3, .val [(0, 0)] (.slice (.int .u8)) a4]] (fun _ => none), rowsOf []⟩ (ending T Try.f70 an70 0 K) (fun _ _ => none) from by kernel_rfl) ?_
    rw [← S70_eq k, ← execS_eq T an70 (modesOf F) 0 k 33 (S70 k) (L70 k K) (bodyOf Try.f70) (cuts_of _ _ _ _ _ _ _ _ (bodyOf Try.f70) (l := [(1000003, sp70_1000003, cd70_1000003)]) (by kernel_rfl) ⟨l70_1000003 k K, trivial⟩)]
    exact q70 k a0 a1 a2 a3 a4 K
noncomputable def s70 (k : Nat) (a : List PV) (r : List RowS) (K : List PV → List RowS → Option R) : Option R := match a, r with
  | [.agg [.val [] (.int .i64) a0, .val [] .bool a1, .val [] (.int .i64) a2, .val [] (.int .i64) a3, .val [(0, 0)] (.slice (.int .u8)) a4]], [] => f70 k a0 a1 a2 a3 a4 (fun z0 => K [.rw 1] [⟨0, .arr [] (.int .u8) z0⟩])
  | a, r => callC T F k 70 a r K
theorem s70_eq (k : Nat) (a : List PV) (r : List RowS) (K : List PV → List RowS → Option R) : s70 k a r K = callC T F k 70 a r K := by
  unfold s70
  split
  · exact (e70 k _ _ _ _ _ K).symm
  · rfl
end
section
variable {R : Type}
noncomputable def S28 (k g : Nat) (a : List PV) (r : List RowS) (K : List PV → List RowS → Option R) : Option R := bif g == 30 then s30 k a r K else bif g == 70 then s70 k a r K else callC T F k g a r K
theorem S28_eq (k : Nat) : S28 (R := R) k = callC T F k := by
  funext g a r K
  exact pick_eq (fun e => by subst e; exact s30_eq k a r K) (pick_eq (fun e => by subst e; exact s70_eq k a r K) (rfl))
theorem q28 (k : Nat) (a0 : Int) (a1 : Bool) (a2 : Int) (a3 : Int) (a4 : List Int) (K : List PV → List RowS → Option R) :
    execS T an28 (modesOf F) 0 k 12 (S28 k) (fun _ _ _ _ _ => none) (ending T Try.f28 an28 0 K) (bodyOf Try.f28) ⟨argEnv 0 [.agg [.val [] (.int .i64) a0, .val [] .bool a1, .val [] (.int .i64) a2, .val [] (.int .i64) a3, .val [(0, 0)] (.slice (.int .u8)) a4]] (fun _ => none), rowsOf []⟩ (ending T Try.f28 an28 0 K) (fun _ _ => none) = f28d (k + 1) a0 a1 a2 a3 a4 (fun z0 z1 => K [.rw 1, .val [] (.int .i64) z0] [⟨0, .arr [] (.int .u8) z1⟩]) := by kernel_rfl
theorem e28 (k : Nat) (a0 : Int) (a1 : Bool) (a2 : Int) (a3 : Int) (a4 : List Int) (K : List PV → List RowS → Option R) : callC T F k 28 [.agg [.val [] (.int .i64) a0, .val [] .bool a1, .val [] (.int .i64) a2, .val [] (.int .i64) a3, .val [(0, 0)] (.slice (.int .u8)) a4]] [] K = f28 k a0 a1 a2 a3 a4 (fun z0 z1 => K [.rw 1, .val [] (.int .i64) z0] [⟨0, .arr [] (.int .u8) z1⟩]) := by
  rw [f28_def]
  cases k with
  | zero => rfl
  | succ k =>
    refine Eq.trans (show _ = exec T an28 (modesOf F) 0 k 12 (callC T F k) (ending T Try.f28 an28 0 K) (bodyOf Try.f28) ⟨argEnv 0 [.agg [.val [] (.int .i64) a0, .val [] .bool a1, .val [] (.int .i64) a2, .val [] (.int .i64) a3, .val [(0, 0)] (.slice (.int .u8)) a4]] (fun _ => none), rowsOf []⟩ (ending T Try.f28 an28 0 K) (fun _ _ => none) from by kernel_rfl) ?_
    rw [← S28_eq k, ← execS_eq T an28 (modesOf F) 0 k 12 (S28 k) (fun _ _ _ _ _ => none) (bodyOf Try.f28) (cuts_of _ _ _ _ _ _ _ _ (bodyOf Try.f28) (l := []) (by kernel_rfl) trivial)]
    exact q28 k a0 a1 a2 a3 a4 K
noncomputable def s28 (k : Nat) (a : List PV) (r : List RowS) (K : List PV → List RowS → Option R) : Option R := match a, r with
  | [.agg [.val [] (.int .i64) a0, .val [] .bool a1, .val [] (.int .i64) a2, .val [] (.int .i64) a3, .val [(0, 0)] (.slice (.int .u8)) a4]], [] => f28 k a0 a1 a2 a3 a4 (fun z0 z1 => K [.rw 1, .val [] (.int .i64) z0] [⟨0, .arr [] (.int .u8) z1⟩])
  | a, r => callC T F k 28 a r K
theorem s28_eq (k : Nat) (a : List PV) (r : List RowS) (K : List PV → List RowS → Option R) : s28 k a r K = callC T F k 28 a r K := by
  unfold s28
  split
  · exact (e28 k _ _ _ _ _ K).symm
  · rfl
end
section
variable {R : Type}
noncomputable def S95 (k g : Nat) (a : List PV) (r : List RowS) (K : List PV → List RowS → Option R) : Option R := callC T F k g a r K
theorem S95_eq (k : Nat) : S95 (R := R) k = callC T F k := by
  funext g a r K
  exact rfl
theorem q95 (k : Nat) (a0 : Int) (K : List PV → List RowS → Option R) :
    execS T an95 (modesOf F) 0 k 9 (S95 k) (fun _ _ _ _ _ => none) (ending T Try.f95 an95 0 K) (bodyOf Try.f95) ⟨argEnv 0 [.val [] (.int .i64) a0] (fun _ => none), rowsOf []⟩ (ending T Try.f95 an95 0 K) (fun _ _ => none) = f95d (k + 1) a0 (fun z0 => K [.rw 1] [⟨0, .arr [] (.int .u8) z0⟩]) := by kernel_rfl
theorem e95 (k : Nat) (a0 : Int) (K : List PV → List RowS → Option R) : callC T F k 95 [.val [] (.int .i64) a0] [] K = f95 k a0 (fun z0 => K [.rw 1] [⟨0, .arr [] (.int .u8) z0⟩]) := by
  rw [f95_def]
  cases k with
  | zero => rfl
  | succ k =>
    refine Eq.trans (show _ = exec T an95 (modesOf F) 0 k 9 (callC T F k) (ending T Try.f95 an95 0 K) (bodyOf Try.f95) ⟨argEnv 0 [.val [] (.int .i64) a0] (fun _ => none), rowsOf []⟩ (ending T Try.f95 an95 0 K) (fun _ _ => none) from by kernel_rfl) ?_
    rw [← S95_eq k, ← execS_eq T an95 (modesOf F) 0 k 9 (S95 k) (fun _ _ _ _ _ => none) (bodyOf Try.f95) (cuts_of _ _ _ _ _ _ _ _ (bodyOf Try.f95) (l := []) (by kernel_rfl) trivial)]
    exact q95 k a0 K
noncomputable def s95 (k : Nat) (a : List PV) (r : List RowS) (K : List PV → List RowS → Option R) : Option R := match a, r with
  | [.val [] (.int .i64) a0], [] => f95 k a0 (fun z0 => K [.rw 1] [⟨0, .arr [] (.int .u8) z0⟩])
  | a, r => callC T F k 95 a r K
theorem s95_eq (k : Nat) (a : List PV) (r : List RowS) (K : List PV → List RowS → Option R) : s95 k a r K = callC T F k 95 a r K := by
  unfold s95
  split
  · exact (e95 k _ K).symm
  · rfl
end
end Go.Proofs.Ytahdmfboidjkoaa.PM
