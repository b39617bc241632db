/- The small machine's run is the typed form (printed by a program of this work). -/
import Derived.Test.YtahdmfboidjkoaaPW1
set_option linter.unusedVariables false
set_option linter.unusedSimpArgs false
set_option maxRecDepth 100000
namespace Go.Proofs.Ytahdmfboidjkoaa.PM
open Go
section
variable {R : Type}
noncomputable def S49 (k g : Nat) (a : List PV) (r : List RowS) (K : List PV → List RowS → Option R) : Option R := bif g == 41 then s41 k a r K else bif g == 69 then s69 k a r K else bif g == 71 then s71 k a r K else bif g == 76 then s76 k a r K else bif g == 77 then s77 k a r K else bif g == 84 then s84 k a r K else callC T F k g a r K
theorem S49_eq (k : Nat) : S49 (R := R) k = callC T F k := by
  funext g a r K
  exact pick_eq (fun e => by subst e; exact s41_eq k a r K) (pick_eq (fun e => by subst e; exact s69_eq k a r K) (pick_eq (fun e => by subst e; exact s71_eq k a r K) (pick_eq (fun e => by subst e; exact s76_eq k a r K) (pick_eq (fun e => by subst e; exact s77_eq k a r K) (pick_eq (fun e => by subst e; exact s84_eq k a r K) (rfl))))))
section
variable {R : Type} (k : Nat) (K : List PV → List RowS → Option R)
noncomputable def L49_0 (ws : List PV) (rs : List RowS) (N : St → Option R) (X : Nat → St → Option R) : Option R := match ws, rs with
  | [.val [] (.int .i64) v0_0, .val [] (.int .i64) v0_1, .val [] (.int .i64) v0_2, .val [] (.int .i64) v0_3, .rw 1, .rw 2, .val [(0, 0)] (.slice (.prod (.int .i64) (.prod .bool (.prod (.int .i64) (.prod (.int .i64) (.prod (.slice (.int .u8)) .unit)))))) v0_4, .val [] (.int .i64) v0_5, .val [] (.int .i64) v0_6], [⟨0, .arr [] (.int .u8) v0_7⟩, ⟨0, .arr [] (.int .i64) v0_8⟩] => f49_0 k (fun y0_4 y0_5 => N (sh jn49_0 [.val [] (.int .i64) v0_0, .val [] (.int .i64) v0_1, .val [] (.int .i64) v0_2, .val [] (.int .i64) v0_3, .rw 1, .rw 2] [⟨0, .arr [] (.int .u8) y0_4⟩, ⟨0, .arr [] (.int .i64) y0_5⟩])) v0_0 v0_1 v0_2 v0_3 v0_4 v0_5 k v0_6 v0_7 v0_8
  | ws, rs => inner T an49 (modesOf F) 0 k 138 (S49 k) (ending T Try.f49 an49 0 K) cd49_0 (sh sp49_0 ws rs) N X
noncomputable def L49_1000022 (ws : List PV) (rs : List RowS) (N : St → Option R) (X : Nat → St → Option R) : Option R := match ws, rs with
  | [.val [] (.int .i64) v22_0, .val [] (.int .i64) v22_1, .val [] (.int .i64) v22_2, .rw 1, .rw 2, .val [] (.int .i64) v22_3, .val [] (.int .i64) v22_4, .val [] .bool v22_5], [⟨0, .arr [] (.int .u8) v22_6⟩, ⟨0, .arr [] (.int .i64) v22_7⟩] => f49_1000022 k (fun yN_4 => N (sh fi49_22 [.val [] (.int .i64) v22_0, .val [] (.int .i64) v22_1, .val [] (.int .i64) v22_2, .rw 1, .rw 2, .val [] (.int .i64) v22_3, .val [] (.int .i64) yN_4] [⟨0, .arr [] (.int .u8) v22_6⟩, ⟨0, .arr [] (.int .i64) v22_7⟩])) v22_0 v22_1 v22_2 v22_3 v22_4 v22_5 v22_6 v22_7
  | ws, rs => inner T an49 (modesOf F) 0 k 138 (S49 k) (ending T Try.f49 an49 0 K) cd49_1000022 (sh sp49_1000022 ws rs) N X
noncomputable def L49_1000021 (ws : List PV) (rs : List RowS) (N : St → Option R) (X : Nat → St → Option R) : Option R := match ws, rs with
  | [.val [] (.int .i64) v21_0, .val [] (.int .i64) v21_1, .val [] (.int .i64) v21_2, .rw 1, .rw 2, .val [] (.int .i64) v21_3, .val [] (.int .i64) v21_4, .val [] .bool v21_5], [⟨0, .arr [] (.int .u8) v21_6⟩, ⟨0, .arr [] (.int .i64) v21_7⟩] => f49_1000021 k (fun yN_4 yN_5 => N (sh fi49_21 [.val [] (.int .i64) v21_0, .val [] (.int .i64) v21_1, .val [] (.int .i64) v21_2, .rw 1, .rw 2, .val [] (.int .i64) v21_3] [⟨0, .arr [] (.int .u8) yN_4⟩, ⟨0, .arr [] (.int .i64) yN_5⟩])) v21_0 v21_1 v21_2 v21_3 v21_4 v21_5 v21_6 v21_7
  | ws, rs => inner T an49 (modesOf F) 0 k 138 (S49 k) (ending T Try.f49 an49 0 K) cd49_1000021 (sh sp49_1000021 ws rs) N X
noncomputable def L49_4 (ws : List PV) (rs : List RowS) (N : St → Option R) (X : Nat → St → Option R) : Option R := match ws, rs with
  | [.val [] (.int .i64) v4_0, .val [] (.int .i64) v4_1, .val [] (.int .i64) v4_2, .rw 1, .rw 2, .val [] (.int .i64) v4_3, .rw 3, .val [] (.int .i64) v4_4, .ptr 4 0, .rw 2, .val [] (.int .i64) v4_5, .val [] (.int .i64) v4_6], [⟨0, .arr [] (.int .u8) v4_7⟩, ⟨0, .arr [] (.int .i64) v4_8⟩, ⟨0, .arr [] (.prod (.int .i64) (.prod (.int .i64) (.prod (.int .i64) (.prod (.int .i64) (.prod (.slice (.int .u8)) .unit))))) v4_9⟩, ⟨0, .vars [.val [] (.int .i64) v4_10, .val [] (.int .i64) v4_11, .val [] (.int .i64) v4_12, .val [] (.int .i64) v4_13, .rw 5]⟩, ⟨0, .arr [] (.int .u8) v4_14⟩] => f49_4 k (fun y4_11 => N (sh jn49_4 [.val [] (.int .i64) v4_0, .val [] (.int .i64) v4_1, .val [] (.int .i64) v4_2, .rw 1, .rw 2, .val [] (.int .i64) v4_3, .rw 3, .val [] (.int .i64) v4_4, .ptr 4 0] [⟨0, .arr [] (.int .u8) v4_7⟩, ⟨0, .arr [] (.int .i64) v4_8⟩, ⟨0, .arr [] (.prod (.int .i64) (.prod (.int .i64) (.prod (.int .i64) (.prod (.int .i64) (.prod (.slice (.int .u8)) .unit))))) v4_9⟩, ⟨0, .vars [.val [] (.int .i64) v4_10, .val [] (.int .i64) v4_11, .val [] (.int .i64) v4_12, .val [] (.int .i64) y4_11, .rw 5]⟩, ⟨0, .arr [] (.int .u8) v4_14⟩])) v4_0 v4_1 v4_2 v4_3 v4_4 v4_5 v4_7 v4_8 v4_9 v4_10 v4_11 v4_12 v4_13 v4_14 k v4_6
  | ws, rs => inner T an49 (modesOf F) 0 k 138 (S49 k) (ending T Try.f49 an49 0 K) cd49_4 (sh sp49_4 ws rs) N X
noncomputable def L49_2 (ws : List PV) (rs : List RowS) (N : St → Option R) (X : Nat → St → Option R) : Option R := match ws, rs with
  | [.val [] (.int .i64) v2_0, .val [] (.int .i64) v2_1, .val [] (.int .i64) v2_2, .rw 1, .rw 2, .val [] (.int .i64) v2_3, .rw 3, .val [] (.int .i64) v2_4], [⟨0, .arr [] (.int .u8) v2_5⟩, ⟨0, .arr [] (.int .i64) v2_6⟩, ⟨0, .arr [] (.prod (.int .i64) (.prod (.int .i64) (.prod (.int .i64) (.prod (.int .i64) (.prod (.slice (.int .u8)) .unit))))) v2_7⟩] => f49_2 k (fun y2_0 => N (sh jn49_2 [.rw 1] [⟨0, .arr [] (.prod (.int .i64) (.prod (.int .i64) (.prod (.int .i64) (.prod (.int .i64) (.prod (.slice (.int .u8)) .unit))))) y2_0⟩])) v2_0 v2_1 v2_2 v2_3 v2_5 v2_6 k v2_4 v2_7
  | ws, rs => inner T an49 (modesOf F) 0 k 138 (S49 k) (ending T Try.f49 an49 0 K) cd49_2 (sh sp49_2 ws rs) N X
noncomputable def L49 (id : Nat) (ws : List PV) (rs : List RowS) (N : St → Option R) (X : Nat → St → Option R) : Option R := bif id == 0 then L49_0 k K ws rs N X else bif id == 1000022 then L49_1000022 k K ws rs N X else bif id == 1000021 then L49_1000021 k K ws rs N X else bif id == 4 then L49_4 k K ws rs N X else bif id == 2 then L49_2 k K ws rs N X else none
theorem b49_0 (rec : St → Option R) (N : St → Option R) (X : Nat → St → Option R) (v0_0 : Int) (v0_1 : Int) (v0_2 : Int) (v0_3 : Int) (v0_4 : List ((Int × (Bool × (Int × (Int × (List Int × Unit))))))) (v0_5 : Int) (v0_6 : Int) (v0_7 : List Int) (v0_8 : List Int) :
    execS T an49 (modesOf F) 0 k 138 (S49 k) (L49 k K) (ending T Try.f49 an49 0 K) bd49_0 (sh sp49_0 [.val [] (.int .i64) v0_0, .val [] (.int .i64) v0_1, .val [] (.int .i64) v0_2, .val [] (.int .i64) v0_3, .rw 1, .rw 2, .val [(0, 0)] (.slice (.prod (.int .i64) (.prod .bool (.prod (.int .i64) (.prod (.int .i64) (.prod (.slice (.int .u8)) .unit)))))) v0_4, .val [] (.int .i64) v0_5, .val [] (.int .i64) v0_6] [⟨0, .arr [] (.int .u8) v0_7⟩, ⟨0, .arr [] (.int .i64) v0_8⟩]) (fun st => atHead an49 0 bd49_0 st rec) (outX an49 0 0 N X) =
      f49_0b k (fun v0_6 v0_7 v0_8 => rec (sh sp49_0 [.val [] (.int .i64) v0_0, .val [] (.int .i64) v0_1, .val [] (.int .i64) v0_2, .val [] (.int .i64) v0_3, .rw 1, .rw 2, .val [(0, 0)] (.slice (.prod (.int .i64) (.prod .bool (.prod (.int .i64) (.prod (.int .i64) (.prod (.slice (.int .u8)) .unit)))))) v0_4, .val [] (.int .i64) v0_5, .val [] (.int .i64) v0_6] [⟨0, .arr [] (.int .u8) v0_7⟩, ⟨0, .arr [] (.int .i64) v0_8⟩])) (fun y0_4 y0_5 => N (sh jn49_0 [.val [] (.int .i64) v0_0, .val [] (.int .i64) v0_1, .val [] (.int .i64) v0_2, .val [] (.int .i64) v0_3, .rw 1, .rw 2] [⟨0, .arr [] (.int .u8) y0_4⟩, ⟨0, .arr [] (.int .i64) y0_5⟩])) v0_0 v0_1 v0_2 v0_3 v0_4 v0_5 v0_6 v0_7 v0_8 := by kernel_rfl
theorem i49_0 (N : St → Option R) (X : Nat → St → Option R) (v0_0 : Int) (v0_1 : Int) (v0_2 : Int) (v0_3 : Int) (v0_4 : List ((Int × (Bool × (Int × (Int × (List Int × Unit))))))) (v0_5 : Int) (m : Nat) : ∀ (v0_6 : Int) (v0_7 : List Int) (v0_8 : List Int),
    iter (atHead an49 0 bd49_0) m (fun st N' => exec T an49 (modesOf F) 0 k 138 (S49 k) (ending T Try.f49 an49 0 K) bd49_0 st N' (outX an49 0 0 N X)) (sh sp49_0 [.val [] (.int .i64) v0_0, .val [] (.int .i64) v0_1, .val [] (.int .i64) v0_2, .val [] (.int .i64) v0_3, .rw 1, .rw 2, .val [(0, 0)] (.slice (.prod (.int .i64) (.prod .bool (.prod (.int .i64) (.prod (.int .i64) (.prod (.slice (.int .u8)) .unit)))))) v0_4, .val [] (.int .i64) v0_5, .val [] (.int .i64) v0_6] [⟨0, .arr [] (.int .u8) v0_7⟩, ⟨0, .arr [] (.int .i64) v0_8⟩]) = f49_0d k (fun y0_4 y0_5 => N (sh jn49_0 [.val [] (.int .i64) v0_0, .val [] (.int .i64) v0_1, .val [] (.int .i64) v0_2, .val [] (.int .i64) v0_3, .rw 1, .rw 2] [⟨0, .arr [] (.int .u8) y0_4⟩, ⟨0, .arr [] (.int .i64) y0_5⟩])) v0_0 v0_1 v0_2 v0_3 v0_4 v0_5 m v0_6 v0_7 v0_8 := by
  induction m with
  | zero => intros; rfl
  | succ m ih =>
    intro v0_6 v0_7 v0_8
    simp only [iter]
    rw [← execS_eq T an49 (modesOf F) 0 k 138 (S49 k) (L49 k K) bd49_0 (cuts_of _ _ _ _ _ _ _ _ bd49_0 (l := []) (by kernel_rfl) trivial)]
    refine (b49_0 k K _ N X v0_0 v0_1 v0_2 v0_3 v0_4 v0_5 v0_6 v0_7 v0_8).trans ?_
    simp only [f49_0d, ih]
theorem l49_0 (ws : List PV) (rs : List RowS) (N : St → Option R) (X : Nat → St → Option R) : L49 k K 0 ws rs N X = inner T an49 (modesOf F) 0 k 138 (S49 k) (ending T Try.f49 an49 0 K) cd49_0 (sh sp49_0 ws rs) N X := by
  show L49_0 k K ws rs N X = _
  unfold L49_0
  split
  rotate_left
  · rfl
  rename_i v0_0 v0_1 v0_2 v0_3 v0_4 v0_5 v0_6 v0_7 v0_8
  rw [f49_0_def]
  refine Eq.trans ?_ (show iter (atHead an49 0 bd49_0) k (fun st N' => exec T an49 (modesOf F) 0 k 138 (S49 k) (ending T Try.f49 an49 0 K) bd49_0 st N' (outX an49 0 0 N X)) (sh sp49_0 [.val [] (.int .i64) v0_0, .val [] (.int .i64) v0_1, .val [] (.int .i64) v0_2, .val [] (.int .i64) v0_3, .rw 1, .rw 2, .val [(0, 0)] (.slice (.prod (.int .i64) (.prod .bool (.prod (.int .i64) (.prod (.int .i64) (.prod (.slice (.int .u8)) .unit)))))) v0_4, .val [] (.int .i64) v0_5, .val [] (.int .i64) v0_6] [⟨0, .arr [] (.int .u8) v0_7⟩, ⟨0, .arr [] (.int .i64) v0_8⟩]) = _ from by kernel_rfl)
  exact (i49_0 k K N X v0_0 v0_1 v0_2 v0_3 v0_4 v0_5 k v0_6 v0_7 v0_8).symm
theorem b49_1000022 (N : St → Option R) (X : Nat → St → Option R) (v22_0 : Int) (v22_1 : Int) (v22_2 : Int) (v22_3 : Int) (v22_4 : Int) (v22_5 : Bool) (v22_6 : List Int) (v22_7 : List Int) :
    innerS T an49 (modesOf F) 0 k 138 (S49 k) (L49 k K) (ending T Try.f49 an49 0 K) cd49_1000022 (sh sp49_1000022 [.val [] (.int .i64) v22_0, .val [] (.int .i64) v22_1, .val [] (.int .i64) v22_2, .rw 1, .rw 2, .val [] (.int .i64) v22_3, .val [] (.int .i64) v22_4, .val [] .bool v22_5] [⟨0, .arr [] (.int .u8) v22_6⟩, ⟨0, .arr [] (.int .i64) v22_7⟩]) N X = f49_1000022d k (fun yN_4 => N (sh fi49_22 [.val [] (.int .i64) v22_0, .val [] (.int .i64) v22_1, .val [] (.int .i64) v22_2, .rw 1, .rw 2, .val [] (.int .i64) v22_3, .val [] (.int .i64) yN_4] [⟨0, .arr [] (.int .u8) v22_6⟩, ⟨0, .arr [] (.int .i64) v22_7⟩])) v22_0 v22_1 v22_2 v22_3 v22_4 v22_5 v22_6 v22_7 := by kernel_rfl
theorem l49_1000022 (ws : List PV) (rs : List RowS) (N : St → Option R) (X : Nat → St → Option R) : L49 k K 1000022 ws rs N X = inner T an49 (modesOf F) 0 k 138 (S49 k) (ending T Try.f49 an49 0 K) cd49_1000022 (sh sp49_1000022 ws rs) N X := by
  show L49_1000022 k K ws rs N X = _
  unfold L49_1000022
  split
  rotate_left
  · rfl
  rename_i v22_0 v22_1 v22_2 v22_3 v22_4 v22_5 v22_6 v22_7
  rw [f49_1000022_def]
  exact ((innerS_eq T an49 (modesOf F) 0 k 138 (S49 k) (L49 k K) cd49_1000022 (l := []) (by kernel_rfl) trivial _ N X).symm.trans (b49_1000022 k K N X v22_0 v22_1 v22_2 v22_3 v22_4 v22_5 v22_6 v22_7)).symm
theorem b49_1000021 (N : St → Option R) (X : Nat → St → Option R) (v21_0 : Int) (v21_1 : Int) (v21_2 : Int) (v21_3 : Int) (v21_4 : Int) (v21_5 : Bool) (v21_6 : List Int) (v21_7 : List Int) :
    innerS T an49 (modesOf F) 0 k 138 (S49 k) (L49 k K) (ending T Try.f49 an49 0 K) cd49_1000021 (sh sp49_1000021 [.val [] (.int .i64) v21_0, .val [] (.int .i64) v21_1, .val [] (.int .i64) v21_2, .rw 1, .rw 2, .val [] (.int .i64) v21_3, .val [] (.int .i64) v21_4, .val [] .bool v21_5] [⟨0, .arr [] (.int .u8) v21_6⟩, ⟨0, .arr [] (.int .i64) v21_7⟩]) N X = f49_1000021d k (fun yN_4 yN_5 => N (sh fi49_21 [.val [] (.int .i64) v21_0, .val [] (.int .i64) v21_1, .val [] (.int .i64) v21_2, .rw 1, .rw 2, .val [] (.int .i64) v21_3] [⟨0, .arr [] (.int .u8) yN_4⟩, ⟨0, .arr [] (.int .i64) yN_5⟩])) v21_0 v21_1 v21_2 v21_3 v21_4 v21_5 v21_6 v21_7 := by kernel_rfl
theorem l49_1000021 (ws : List PV) (rs : List RowS) (N : St → Option R) (X : Nat → St → Option R) : L49 k K 1000021 ws rs N X = inner T an49 (modesOf F) 0 k 138 (S49 k) (ending T Try.f49 an49 0 K) cd49_1000021 (sh sp49_1000021 ws rs) N X := by
  show L49_1000021 k K ws rs N X = _
  unfold L49_1000021
  split
  rotate_left
  · rfl
  rename_i v21_0 v21_1 v21_2 v21_3 v21_4 v21_5 v21_6 v21_7
  rw [f49_1000021_def]
  exact ((innerS_eq T an49 (modesOf F) 0 k 138 (S49 k) (L49 k K) cd49_1000021 (l := [(1000022, sp49_1000022, cd49_1000022)]) (by kernel_rfl) ⟨l49_1000022 k K, trivial⟩ _ N X).symm.trans (b49_1000021 k K N X v21_0 v21_1 v21_2 v21_3 v21_4 v21_5 v21_6 v21_7)).symm
theorem b49_4 (rec : St → Option R) (N : St → Option R) (X : Nat → St → Option R) (v4_0 : Int) (v4_1 : Int) (v4_2 : Int) (v4_3 : Int) (v4_4 : Int) (v4_5 : Int) (v4_7 : List Int) (v4_8 : List Int) (v4_9 : List (Int × (Int × (Int × (Int × (List Int × Unit)))))) (v4_10 : Int) (v4_11 : Int) (v4_12 : Int) (v4_13 : Int) (v4_14 : List Int) (v4_6 : Int) :
    execS T an49 (modesOf F) 0 k 138 (S49 k) (L49 k K) (ending T Try.f49 an49 0 K) bd49_4 (sh sp49_4 [.val [] (.int .i64) v4_0, .val [] (.int .i64) v4_1, .val [] (.int .i64) v4_2, .rw 1, .rw 2, .val [] (.int .i64) v4_3, .rw 3, .val [] (.int .i64) v4_4, .ptr 4 0, .rw 2, .val [] (.int .i64) v4_5, .val [] (.int .i64) v4_6] [⟨0, .arr [] (.int .u8) v4_7⟩, ⟨0, .arr [] (.int .i64) v4_8⟩, ⟨0, .arr [] (.prod (.int .i64) (.prod (.int .i64) (.prod (.int .i64) (.prod (.int .i64) (.prod (.slice (.int .u8)) .unit))))) v4_9⟩, ⟨0, .vars [.val [] (.int .i64) v4_10, .val [] (.int .i64) v4_11, .val [] (.int .i64) v4_12, .val [] (.int .i64) v4_13, .rw 5]⟩, ⟨0, .arr [] (.int .u8) v4_14⟩]) (fun st => atHead an49 0 bd49_4 st rec) (outX an49 0 4 N X) =
      f49_4b k (fun v4_6 => rec (sh sp49_4 [.val [] (.int .i64) v4_0, .val [] (.int .i64) v4_1, .val [] (.int .i64) v4_2, .rw 1, .rw 2, .val [] (.int .i64) v4_3, .rw 3, .val [] (.int .i64) v4_4, .ptr 4 0, .rw 2, .val [] (.int .i64) v4_5, .val [] (.int .i64) v4_6] [⟨0, .arr [] (.int .u8) v4_7⟩, ⟨0, .arr [] (.int .i64) v4_8⟩, ⟨0, .arr [] (.prod (.int .i64) (.prod (.int .i64) (.prod (.int .i64) (.prod (.int .i64) (.prod (.slice (.int .u8)) .unit))))) v4_9⟩, ⟨0, .vars [.val [] (.int .i64) v4_10, .val [] (.int .i64) v4_11, .val [] (.int .i64) v4_12, .val [] (.int .i64) v4_13, .rw 5]⟩, ⟨0, .arr [] (.int .u8) v4_14⟩])) (fun y4_11 => N (sh jn49_4 [.val [] (.int .i64) v4_0, .val [] (.int .i64) v4_1, .val [] (.int .i64) v4_2, .rw 1, .rw 2, .val [] (.int .i64) v4_3, .rw 3, .val [] (.int .i64) v4_4, .ptr 4 0] [⟨0, .arr [] (.int .u8) v4_7⟩, ⟨0, .arr [] (.int .i64) v4_8⟩, ⟨0, .arr [] (.prod (.int .i64) (.prod (.int .i64) (.prod (.int .i64) (.prod (.int .i64) (.prod (.slice (.int .u8)) .unit))))) v4_9⟩, ⟨0, .vars [.val [] (.int .i64) v4_10, .val [] (.int .i64) v4_11, .val [] (.int .i64) v4_12, .val [] (.int .i64) y4_11, .rw 5]⟩, ⟨0, .arr [] (.int .u8) v4_14⟩])) v4_0 v4_1 v4_2 v4_3 v4_4 v4_5 v4_7 v4_8 v4_9 v4_10 v4_11 v4_12 v4_13 v4_14 v4_6 := by kernel_rfl
theorem i49_4 (N : St → Option R) (X : Nat → St → Option R) (v4_0 : Int) (v4_1 : Int) (v4_2 : Int) (v4_3 : Int) (v4_4 : Int) (v4_5 : Int) (v4_7 : List Int) (v4_8 : List Int) (v4_9 : List (Int × (Int × (Int × (Int × (List Int × Unit)))))) (v4_10 : Int) (v4_11 : Int) (v4_12 : Int) (v4_13 : Int) (v4_14 : List Int) (m : Nat) : ∀ (v4_6 : Int),
    iter (atHead an49 0 bd49_4) m (fun st N' => exec T an49 (modesOf F) 0 k 138 (S49 k) (ending T Try.f49 an49 0 K) bd49_4 st N' (outX an49 0 4 N X)) (sh sp49_4 [.val [] (.int .i64) v4_0, .val [] (.int .i64) v4_1, .val [] (.int .i64) v4_2, .rw 1, .rw 2, .val [] (.int .i64) v4_3, .rw 3, .val [] (.int .i64) v4_4, .ptr 4 0, .rw 2, .val [] (.int .i64) v4_5, .val [] (.int .i64) v4_6] [⟨0, .arr [] (.int .u8) v4_7⟩, ⟨0, .arr [] (.int .i64) v4_8⟩, ⟨0, .arr [] (.prod (.int .i64) (.prod (.int .i64) (.prod (.int .i64) (.prod (.int .i64) (.prod (.slice (.int .u8)) .unit))))) v4_9⟩, ⟨0, .vars [.val [] (.int .i64) v4_10, .val [] (.int .i64) v4_11, .val [] (.int .i64) v4_12, .val [] (.int .i64) v4_13, .rw 5]⟩, ⟨0, .arr [] (.int .u8) v4_14⟩]) = f49_4d k (fun y4_11 => N (sh jn49_4 [.val [] (.int .i64) v4_0, .val [] (.int .i64) v4_1, .val [] (.int .i64) v4_2, .rw 1, .rw 2, .val [] (.int .i64) v4_3, .rw 3, .val [] (.int .i64) v4_4, .ptr 4 0] [⟨0, .arr [] (.int .u8) v4_7⟩, ⟨0, .arr [] (.int .i64) v4_8⟩, ⟨0, .arr [] (.prod (.int .i64) (.prod (.int .i64) (.prod (.int .i64) (.prod (.int .i64) (.prod (.slice (.int .u8)) .unit))))) v4_9⟩, ⟨0, .vars [.val [] (.int .i64) v4_10, .val [] (.int .i64) v4_11, .val [] (.int .i64) v4_12, .val [] (.int .i64) y4_11, .rw 5]⟩, ⟨0, .arr [] (.int .u8) v4_14⟩])) v4_0 v4_1 v4_2 v4_3 v4_4 v4_5 v4_7 v4_8 v4_9 v4_10 v4_11 v4_12 v4_13 v4_14 m v4_6 := by
  induction m with
  | zero => intros; rfl
  | succ m ih =>
    intro v4_6
    simp only [iter]
    rw [← execS_eq T an49 (modesOf F) 0 k 138 (S49 k) (L49 k K) bd49_4 (cuts_of _ _ _ _ _ _ _ _ bd49_4 (l := []) (by kernel_rfl) trivial)]
    refine (b49_4 k K _ N X v4_0 v4_1 v4_2 v4_3 v4_4 v4_5 v4_7 v4_8 v4_9 v4_10 v4_11 v4_12 v4_13 v4_14 v4_6).trans ?_
    simp only [f49_4d, ih]
theorem l49_4 (ws : List PV) (rs : List RowS) (N : St → Option R) (X : Nat → St → Option R) : L49 k K 4 ws rs N X = inner T an49 (modesOf F) 0 k 138 (S49 k) (ending T Try.f49 an49 0 K) cd49_4 (sh sp49_4 ws rs) N X := by
  show L49_4 k K ws rs N X = _
  unfold L49_4
  split
  rotate_left
  · rfl
  rename_i v4_0 v4_1 v4_2 v4_3 v4_4 v4_5 v4_6 v4_7 v4_8 v4_9 v4_10 v4_11 v4_12 v4_13 v4_14
  rw [f49_4_def]
  refine Eq.trans ?_ (show iter (atHead an49 0 bd49_4) k (fun st N' => exec T an49 (modesOf F) 0 k 138 (S49 k) (ending T Try.f49 an49 0 K) bd49_4 st N' (outX an49 0 4 N X)) (sh sp49_4 [.val [] (.int .i64) v4_0, .val [] (.int .i64) v4_1, .val [] (.int .i64) v4_2, .rw 1, .rw 2, .val [] (.int .i64) v4_3, .rw 3, .val [] (.int .i64) v4_4, .ptr 4 0, .rw 2, .val [] (.int .i64) v4_5, .val [] (.int .i64) v4_6] [⟨0, .arr [] (.int .u8) v4_7⟩, ⟨0, .arr [] (.int .i64) v4_8⟩, ⟨0, .arr [] (.prod (.int .i64) (.prod (.int .i64) (.prod (.int .i64) (.prod (.int .i64) (.prod (.slice (.int .u8)) .unit))))) v4_9⟩, ⟨0, .vars [.val [] (.int .i64) v4_10, .val [] (.int .i64) v4_11, .val [] (.int .i64) v4_12, .val [] (.int .i64) v4_13, .rw 5]⟩, ⟨0, .arr [] (.int .u8) v4_14⟩]) = _ from by kernel_rfl)
  exact (i49_4 k K N X v4_0 v4_1 v4_2 v4_3 v4_4 v4_5 v4_7 v4_8 v4_9 v4_10 v4_11 v4_12 v4_13 v4_14 k v4_6).symm
theorem b49_2 (rec : St → Option R) (N : St → Option R) (X : Nat → St → Option R) (v2_0 : Int) (v2_1 : Int) (v2_2 : Int) (v2_3 : Int) (v2_5 : List Int) (v2_6 : List Int) (v2_4 : Int) (v2_7 : List (Int × (Int × (Int × (Int × (List Int × Unit)))))) :
    execS T an49 (modesOf F) 0 k 138 (S49 k) (L49 k K) (ending T Try.f49 an49 0 K) bd49_2 (sh sp49_2 [.val [] (.int .i64) v2_0, .val [] (.int .i64) v2_1, .val [] (.int .i64) v2_2, .rw 1, .rw 2, .val [] (.int .i64) v2_3, .rw 3, .val [] (.int .i64) v2_4] [⟨0, .arr [] (.int .u8) v2_5⟩, ⟨0, .arr [] (.int .i64) v2_6⟩, ⟨0, .arr [] (.prod (.int .i64) (.prod (.int .i64) (.prod (.int .i64) (.prod (.int .i64) (.prod (.slice (.int .u8)) .unit))))) v2_7⟩]) (fun st => atHead an49 0 bd49_2 st rec) (outX an49 0 2 N X) =
      f49_2b k (fun v2_4 v2_7 => rec (sh sp49_2 [.val [] (.int .i64) v2_0, .val [] (.int .i64) v2_1, .val [] (.int .i64) v2_2, .rw 1, .rw 2, .val [] (.int .i64) v2_3, .rw 3, .val [] (.int .i64) v2_4] [⟨0, .arr [] (.int .u8) v2_5⟩, ⟨0, .arr [] (.int .i64) v2_6⟩, ⟨0, .arr [] (.prod (.int .i64) (.prod (.int .i64) (.prod (.int .i64) (.prod (.int .i64) (.prod (.slice (.int .u8)) .unit))))) v2_7⟩])) (fun y2_0 => N (sh jn49_2 [.rw 1] [⟨0, .arr [] (.prod (.int .i64) (.prod (.int .i64) (.prod (.int .i64) (.prod (.int .i64) (.prod (.slice (.int .u8)) .unit))))) y2_0⟩])) v2_0 v2_1 v2_2 v2_3 v2_5 v2_6 v2_4 v2_7 := by kernel_rfl
theorem i49_2 (N : St → Option R) (X : Nat → St → Option R) (v2_0 : Int) (v2_1 : Int) (v2_2 : Int) (v2_3 : Int) (v2_5 : List Int) (v2_6 : List Int) (m : Nat) : ∀ (v2_4 : Int) (v2_7 : List (Int × (Int × (Int × (Int × (List Int × Unit)))))),
    iter (atHead an49 0 bd49_2) m (fun st N' => exec T an49 (modesOf F) 0 k 138 (S49 k) (ending T Try.f49 an49 0 K) bd49_2 st N' (outX an49 0 2 N X)) (sh sp49_2 [.val [] (.int .i64) v2_0, .val [] (.int .i64) v2_1, .val [] (.int .i64) v2_2, .rw 1, .rw 2, .val [] (.int .i64) v2_3, .rw 3, .val [] (.int .i64) v2_4] [⟨0, .arr [] (.int .u8) v2_5⟩, ⟨0, .arr [] (.int .i64) v2_6⟩, ⟨0, .arr [] (.prod (.int .i64) (.prod (.int .i64) (.prod (.int .i64) (.prod (.int .i64) (.prod (.slice (.int .u8)) .unit))))) v2_7⟩]) = f49_2d k (fun y2_0 => N (sh jn49_2 [.rw 1] [⟨0, .arr [] (.prod (.int .i64) (.prod (.int .i64) (.prod (.int .i64) (.prod (.int .i64) (.prod (.slice (.int .u8)) .unit))))) y2_0⟩])) v2_0 v2_1 v2_2 v2_3 v2_5 v2_6 m v2_4 v2_7 := by
  induction m with
  | zero => intros; rfl
  | succ m ih =>
    intro v2_4 v2_7
    simp only [iter]
    rw [← execS_eq T an49 (modesOf F) 0 k 138 (S49 k) (L49 k K) bd49_2 (cuts_of _ _ _ _ _ _ _ _ bd49_2 (l := [(4, sp49_4, cd49_4)]) (by kernel_rfl) ⟨l49_4 k K, trivial⟩)]
    refine (b49_2 k K _ N X v2_0 v2_1 v2_2 v2_3 v2_5 v2_6 v2_4 v2_7).trans ?_
    simp only [f49_2d, ih]
theorem l49_2 (ws : List PV) (rs : List RowS) (N : St → Option R) (X : Nat → St → Option R) : L49 k K 2 ws rs N X = inner T an49 (modesOf F) 0 k 138 (S49 k) (ending T Try.f49 an49 0 K) cd49_2 (sh sp49_2 ws rs) N X := by
  show L49_2 k K ws rs N X = _
  unfold L49_2
  split
  rotate_left
  · rfl
  rename_i v2_0 v2_1 v2_2 v2_3 v2_4 v2_5 v2_6 v2_7
  rw [f49_2_def]
  refine Eq.trans ?_ (show iter (atHead an49 0 bd49_2) k (fun st N' => exec T an49 (modesOf F) 0 k 138 (S49 k) (ending T Try.f49 an49 0 K) bd49_2 st N' (outX an49 0 2 N X)) (sh sp49_2 [.val [] (.int .i64) v2_0, .val [] (.int .i64) v2_1, .val [] (.int .i64) v2_2, .rw 1, .rw 2, .val [] (.int .i64) v2_3, .rw 3, .val [] (.int .i64) v2_4] [⟨0, .arr [] (.int .u8) v2_5⟩, ⟨0, .arr [] (.int .i64) v2_6⟩, ⟨0, .arr [] (.prod (.int .i64) (.prod (.int .i64) (.prod (.int .i64) (.prod (.int .i64) (.prod (.slice (.int .u8)) .unit))))) v2_7⟩]) = _ from by kernel_rfl)
  exact (i49_2 k K N X v2_0 v2_1 v2_2 v2_3 v2_5 v2_6 k v2_4 v2_7).symm
end
theorem q49 (k : Nat) (a0 : Int) (a1 : Int) (a2 : Int) (a3 : Int) (a4 : List ((Int × (Bool × (Int × (Int × (List Int × Unit))))))) (K : List PV → List RowS → Option R) :
    execS T an49 (modesOf F) 0 k 138 (S49 k) (L49 k K) (ending T Try.f49 an49 0 K) (bodyOf Try.f49) ⟨argEnv 0 [.val [] (.int .i64) a0, .val [] (.int .i64) a1, .val [] (.int .i64) a2, .val [] (.int .i64) a3, .val [(0, 0)] (.slice (.prod (.int .i64) (.prod .bool (.prod (.int .i64) (.prod (.int .i64) (.prod (.slice (.int .u8)) .unit)))))) a4] (fun _ => none), rowsOf []⟩ (ending T Try.f49 an49 0 K) (fun _ _ => none) = f49d (k + 1) a0 a1 a2 a3 a4 (fun z0 z1 => K [.rw 1, .val [] (.int .i64) z0] [⟨0, .arr [] (.prod (.int .i64) (.prod (.int .i64) (.prod (.int .i64) (.prod (.int .i64) (.prod (.slice (.int .u8)) .unit))))) z1⟩]) := by kernel_rfl
theorem e49 (k : Nat) (a0 : Int) (a1 : Int) (a2 : Int) (a3 : Int) (a4 : List ((Int × (Bool × (Int × (Int × (List Int × Unit))))))) (K : List PV → List RowS → Option R) : callC T F k 49 [.val [] (.int .i64) a0, .val [] (.int .i64) a1, .val [] (.int .i64) a2, .val [] (.int .i64) a3, .val [(0, 0)] (.slice (.prod (.int .i64) (.prod .bool (.prod (.int .i64) (.prod (.int .i64) (.prod (.slice (.int .u8)) .unit)))))) a4] [] K = f49 k a0 a1 a2 a3 a4 (fun z0 z1 => K [.rw 1, .val [] (.int .i64) z0] [⟨0, .arr [] (.prod (.int .i64) (.prod (.int .i64) (.prod (.int .i64) (.prod (.int .i64) (.prod (.slice (.int .u8)) .unit))))) z1⟩]) := by
  rw [f49_def]
  cases k with
  | zero => rfl
  | succ k =>
    refine Eq.trans (show _ = exec T an49 (modesOf F) 0 k 138 (callC T F k) (ending T Try.f49 an49 0 K) (bodyOf Try.f49) ⟨argEnv 0 [.val [] (.int .i64) a0, .val [] (.int .i64) a1, .val [] (.int .i64) a2, .val [] (.int .i64) a3, .val [(0, 0)] (.slice (.prod (.int .i64) (.prod .bool (.prod (.int .i64) (.prod (.int .i64) (.prod (.slice (.int .u8)) .unit)))))) a4] (fun _ => none), rowsOf []⟩ (ending T Try.f49 an49 0 K) (fun _ _ => none) from by kernel_rfl) ?_
    rw [← S49_eq k, ← execS_eq T an49 (modesOf F) 0 k 138 (S49 k) (L49 k K) (bodyOf Try.f49) (cuts_of _ _ _ _ _ _ _ _ (bodyOf Try.f49) (l := [(0, sp49_0, cd49_0), (1000021, sp49_1000021, cd49_1000021), (2, sp49_2, cd49_2)]) (by kernel_rfl) ⟨l49_0 k K, l49_1000021 k K, l49_2 k K, trivial⟩)]
    exact q49 k a0 a1 a2 a3 a4 K
noncomputable def s49 (k : Nat) (a : List PV) (r : List RowS) (K : List PV → List RowS → Option R) : Option R := match a, r with
  | [.val [] (.int .i64) a0, .val [] (.int .i64) a1, .val [] (.int .i64) a2, .val [] (.int .i64) a3, .val [(0, 0)] (.slice (.prod (.int .i64) (.prod .bool (.prod (.int .i64) (.prod (.int .i64) (.prod (.slice (.int .u8)) .unit)))))) a4], [] => f49 k a0 a1 a2 a3 a4 (fun z0 z1 => K [.rw 1, .val [] (.int .i64) z0] [⟨0, .arr [] (.prod (.int .i64) (.prod (.int .i64) (.prod (.int .i64) (.prod (.int .i64) (.prod (.slice (.int .u8)) .unit))))) z1⟩])
  | a, r => callC T F k 49 a r K
theorem s49_eq (k : Nat) (a : List PV) (r : List RowS) (K : List PV → List RowS → Option R) : s49 k a r K = callC T F k 49 a r K := by
  unfold s49
  split
  · exact (e49 k _ _ _ _ _ K).symm
  · rfl
end
section
variable {R : Type}
noncomputable def S11 (k g : Nat) (a : List PV) (r : List RowS) (K : List PV → List RowS → Option R) : Option R := bif g == 21 then s21 k a r K else bif g == 45 then s45 k a r K else bif g == 48 then s48 k a r K else bif g == 49 then s49 k a r K else callC T F k g a r K
theorem S11_eq (k : Nat) : S11 (R := R) k = callC T F k := by
  funext g a r K
  exact pick_eq (fun e => by subst e; exact s21_eq k a r K) (pick_eq (fun e => by subst e; exact s45_eq k a r K) (pick_eq (fun e => by subst e; exact s48_eq k a r K) (pick_eq (fun e => by subst e; exact s49_eq k a r K) (rfl))))
theorem q11 (k : Nat) (a0 : Int) (a1 : Int) (a2 : Int) (a3 : Int) (a4 : List ((Int × (Bool × (Int × (Int × (List Int × Unit))))))) (K : List PV → List RowS → Option R) :
    execS T an11 (modesOf F) 0 k 44 (S11 k) (fun _ _ _ _ _ => none) (ending T Try.f11 an11 0 K) (bodyOf Try.f11) ⟨argEnv 0 [.val [] (.int .i64) a0, .val [] (.int .i64) a1, .val [] (.int .i64) a2, .val [] (.int .i64) a3, .val [(0, 0)] (.slice (.prod (.int .i64) (.prod .bool (.prod (.int .i64) (.prod (.int .i64) (.prod (.slice (.int .u8)) .unit)))))) a4] (fun _ => none), rowsOf []⟩ (ending T Try.f11 an11 0 K) (fun _ _ => none) = f11d (k + 1) a0 a1 a2 a3 a4 (fun z0 => K [.val [] .bool z0] []) := by kernel_rfl
theorem e11 (k : Nat) (a0 : Int) (a1 : Int) (a2 : Int) (a3 : Int) (a4 : List ((Int × (Bool × (Int × (Int × (List Int × Unit))))))) (K : List PV → List RowS → Option R) : callC T F k 11 [.val [] (.int .i64) a0, .val [] (.int .i64) a1, .val [] (.int .i64) a2, .val [] (.int .i64) a3, .val [(0, 0)] (.slice (.prod (.int .i64) (.prod .bool (.prod (.int .i64) (.prod (.int .i64) (.prod (.slice (.int .u8)) .unit)))))) a4] [] K = f11 k a0 a1 a2 a3 a4 (fun z0 => K [.val [] .bool z0] []) := by
  rw [f11_def]
  cases k with
  | zero => rfl
  | succ k =>
    refine Eq.trans (show _ = exec T an11 (modesOf F) 0 k 44 (callC T F k) (ending T Try.f11 an11 0 K) (bodyOf Try.f11) ⟨argEnv 0 [.val [] (.int .i64) a0, .val [] (.int .i64) a1, .val [] (.int .i64) a2, .val [] (.int .i64) a3, .val [(0, 0)] (.slice (.prod (.int .i64) (.prod .bool (.prod (.int .i64) (.prod (.int .i64) (.prod (.slice (.int .u8)) .unit)))))) a4] (fun _ => none), rowsOf []⟩ (ending T Try.f11 an11 0 K) (fun _ _ => none) from by kernel_rfl) ?_
    rw [← S11_eq k, ← execS_eq T an11 (modesOf F) 0 k 44 (S11 k) (fun _ _ _ _ _ => none) (bodyOf Try.f11) (cuts_of _ _ _ _ _ _ _ _ (bodyOf Try.f11) (l := []) (by kernel_rfl) trivial)]
    exact q11 k a0 a1 a2 a3 a4 K
noncomputable def s11 (k : Nat) (a : List PV) (r : List RowS) (K : List PV → List RowS → Option R) : Option R := match a, r with
  | [.val [] (.int .i64) a0, .val [] (.int .i64) a1, .val [] (.int .i64) a2, .val [] (.int .i64) a3, .val [(0, 0)] (.slice (.prod (.int .i64) (.prod .bool (.prod (.int .i64) (.prod (.int .i64) (.prod (.slice (.int .u8)) .unit)))))) a4], [] => f11 k a0 a1 a2 a3 a4 (fun z0 => K [.val [] .bool z0] [])
  | a, r => callC T F k 11 a r K
theorem s11_eq (k : Nat) (a : List PV) (r : List RowS) (K : List PV → List RowS → Option R) : s11 k a r K = callC T F k 11 a r K := by
  unfold s11
  split
  · exact (e11 k _ _ _ _ _ K).symm
  · rfl
end
section
variable {R : Type}
noncomputable def S52 (k g : Nat) (a : List PV) (r : List RowS) (K : List PV → List RowS → Option R) : Option R := bif g == 33 then s33 k a r K else bif g == 75 then s75 k a r K else bif g == 79 then s79 k a r K else callC T F k g a r K
theorem S52_eq (k : Nat) : S52 (R := R) k = callC T F k := by
  funext g a r K
  exact pick_eq (fun e => by subst e; exact s33_eq k a r K) (pick_eq (fun e => by subst e; exact s75_eq k a r K) (pick_eq (fun e => by subst e; exact s79_eq k a r K) (rfl)))
section
variable {R : Type} (k : Nat) (K : List PV → List RowS → Option R)
noncomputable def L52_1 (ws : List PV) (rs : List RowS) (N : St → Option R) (X : Nat → St → Option R) : Option R := match ws, rs with
  | [.val [] (.int .i64) v1_0, .rw 1, .val [(0, 0)] (.slice (.prod (.int .i64) (.prod (.int .i64) (.prod (.int .i64) (.prod (.int .i64) (.prod (.slice (.int .u8)) .unit)))))) v1_1, .val [] (.int .i64) v1_2, .val [] (.int .i64) v1_3], [⟨0, .arr [] (.int .u8) v1_4⟩] => f52_1 k (fun z0 z1 => K [.rw 1, .val [] (.int .i64) z0] [⟨0, .arr [] (.int .u8) z1⟩]) (fun y1_0 => N (sh jn52_1 [.rw 1] [⟨0, .arr [] (.int .u8) y1_0⟩])) v1_0 v1_1 v1_2 k v1_3 v1_4
  | ws, rs => inner T an52 (modesOf F) 0 k 41 (S52 k) (ending T Try.f52 an52 0 K) cd52_1 (sh sp52_1 ws rs) N X
noncomputable def L52 (id : Nat) (ws : List PV) (rs : List RowS) (N : St → Option R) (X : Nat → St → Option R) : Option R := bif id == 1 then L52_1 k K ws rs N X else none
theorem b52_1 (rec : St → Option R) (N : St → Option R) (X : Nat → St → Option R) (v1_0 : Int) (v1_1 : List ((Int × (Int × (Int × (Int × (List Int × Unit))))))) (v1_2 : Int) (v1_3 : Int) (v1_4 : List Int) :
    execS T an52 (modesOf F) 0 k 41 (S52 k) (L52 k K) (ending T Try.f52 an52 0 K) bd52_1 (sh sp52_1 [.val [] (.int .i64) v1_0, .rw 1, .val [(0, 0)] (.slice (.prod (.int .i64) (.prod (.int .i64) (.prod (.int .i64) (.prod (.int .i64) (.prod (.slice (.int .u8)) .unit)))))) v1_1, .val [] (.int .i64) v1_2, .val [] (.int .i64) v1_3] [⟨0, .arr [] (.int .u8) v1_4⟩]) (fun st => atHead an52 0 bd52_1 st rec) (outX an52 0 1 N X) =
      f52_1b k (fun v1_3 v1_4 => rec (sh sp52_1 [.val [] (.int .i64) v1_0, .rw 1, .val [(0, 0)] (.slice (.prod (.int .i64) (.prod (.int .i64) (.prod (.int .i64) (.prod (.int .i64) (.prod (.slice (.int .u8)) .unit)))))) v1_1, .val [] (.int .i64) v1_2, .val [] (.int .i64) v1_3] [⟨0, .arr [] (.int .u8) v1_4⟩])) (fun z0 z1 => K [.rw 1, .val [] (.int .i64) z0] [⟨0, .arr [] (.int .u8) z1⟩]) (fun y1_0 => N (sh jn52_1 [.rw 1] [⟨0, .arr [] (.int .u8) y1_0⟩])) v1_0 v1_1 v1_2 v1_3 v1_4 := by kernel_rfl
theorem i52_1 (N : St → Option R) (X : Nat → St → Option R) (v1_0 : Int) (v1_1 : List ((Int × (Int × (Int × (Int × (List Int × Unit))))))) (v1_2 : Int) (m : Nat) : ∀ (v1_3 : Int) (v1_4 : List Int),
    iter (atHead an52 0 bd52_1) m (fun st N' => exec T an52 (modesOf F) 0 k 41 (S52 k) (ending T Try.f52 an52 0 K) bd52_1 st N' (outX an52 0 1 N X)) (sh sp52_1 [.val [] (.int .i64) v1_0, .rw 1, .val [(0, 0)] (.slice (.prod (.int .i64) (.prod (.int .i64) (.prod (.int .i64) (.prod (.int .i64) (.prod (.slice (.int .u8)) .unit)))))) v1_1, .val [] (.int .i64) v1_2, .val [] (.int .i64) v1_3] [⟨0, .arr [] (.int .u8) v1_4⟩]) = f52_1d k (fun z0 z1 => K [.rw 1, .val [] (.int .i64) z0] [⟨0, .arr [] (.int .u8) z1⟩]) (fun y1_0 => N (sh jn52_1 [.rw 1] [⟨0, .arr [] (.int .u8) y1_0⟩])) v1_0 v1_1 v1_2 m v1_3 v1_4 := by
  induction m with
  | zero => intros; rfl
  | succ m ih =>
    intro v1_3 v1_4
    simp only [iter]
    rw [← execS_eq T an52 (modesOf F) 0 k 41 (S52 k) (L52 k K) bd52_1 (cuts_of _ _ _ _ _ _ _ _ bd52_1 (l := []) (by kernel_rfl) trivial)]
    refine (b52_1 k K _ N X v1_0 v1_1 v1_2 v1_3 v1_4).trans ?_
    simp only [f52_1d, ih]
theorem l52_1 (ws : List PV) (rs : List RowS) (N : St → Option R) (X : Nat → St → Option R) : L52 k K 1 ws rs N X = inner T an52 (modesOf F) 0 k 41 (S52 k) (ending T Try.f52 an52 0 K) cd52_1 (sh sp52_1 ws rs) N X := by
  show L52_1 k K ws rs N X = _
  unfold L52_1
  split
  rotate_left
  · rfl
  rename_i v1_0 v1_1 v1_2 v1_3 v1_4
  rw [f52_1_def]
  refine Eq.trans ?_ (show iter (atHead an52 0 bd52_1) k (fun st N' => exec T an52 (modesOf F) 0 k 41 (S52 k) (ending T Try.f52 an52 0 K) bd52_1 st N' (outX an52 0 1 N X)) (sh sp52_1 [.val [] (.int .i64) v1_0, .rw 1, .val [(0, 0)] (.slice (.prod (.int .i64) (.prod (.int .i64) (.prod (.int .i64) (.prod (.int .i64) (.prod (.slice (.int .u8)) .unit)))))) v1_1, .val [] (.int .i64) v1_2, .val [] (.int .i64) v1_3] [⟨0, .arr [] (.int .u8) v1_4⟩]) = _ from by kernel_rfl)
  exact (i52_1 k K N X v1_0 v1_1 v1_2 k v1_3 v1_4).symm
end
theorem q52 (k : Nat) (a0 : List ((Int × (Int × (Int × (Int × (List Int × Unit))))))) (a1 : Int) (K : List PV → List RowS → Option R) :
    execS T an52 (modesOf F) 0 k 41 (S52 k) (L52 k K) (ending T Try.f52 an52 0 K) (bodyOf Try.f52) ⟨argEnv 0 [.val [(0, 0)] (.slice (.prod (.int .i64) (.prod (.int .i64) (.prod (.int .i64) (.prod (.int .i64) (.prod (.slice (.int .u8)) .unit)))))) a0, .val [] (.int .i64) a1] (fun _ => none), rowsOf []⟩ (ending T Try.f52 an52 0 K) (fun _ _ => none) = f52d (k + 1) a0 a1 (fun z0 z1 => K [.rw 1, .val [] (.int .i64) z0] [⟨0, .arr [] (.int .u8) z1⟩]) := by kernel_rfl
theorem e52 (k : Nat) (a0 : List ((Int × (Int × (Int × (Int × (List Int × Unit))))))) (a1 : Int) (K : List PV → List RowS → Option R) : callC T F k 52 [.val [(0, 0)] (.slice (.prod (.int .i64) (.prod (.int .i64) (.prod (.int .i64) (.prod (.int .i64) (.prod (.slice (.int .u8)) .unit)))))) a0, .val [] (.int .i64) a1] [] K = f52 k a0 a1 (fun z0 z1 => K [.rw 1, .val [] (.int .i64) z0] [⟨0, .arr [] (.int .u8) z1⟩]) := by
  rw [f52_def]
  cases k with
  | zero => rfl
  | succ k =>
    refine Eq.trans (show _ = exec T an52 (modesOf F) 0 k 41 (callC T F k) (ending T Try.f52 an52 0 K) (bodyOf Try.f52) ⟨argEnv 0 [.val [(0, 0)] (.slice (.prod (.int .i64) (.prod (.int .i64) (.prod (.int .i64) (.prod (.int .i64) (.prod (.slice (.int .u8)) .unit)))))) a0, .val [] (.int .i64) a1] (fun _ => none), rowsOf []⟩ (ending T Try.f52 an52 0 K) (fun _ _ => none) from by kernel_rfl) ?_
    rw [← S52_eq k, ← execS_eq T an52 (modesOf F) 0 k 41 (S52 k) (L52 k K) (bodyOf Try.f52) (cuts_of _ _ _ _ _ _ _ _ (bodyOf Try.f52) (l := [(1, sp52_1, cd52_1)]) (by kernel_rfl) ⟨l52_1 k K, trivial⟩)]
    exact q52 k a0 a1 K
noncomputable def s52 (k : Nat) (a : List PV) (r : List RowS) (K : List PV → List RowS → Option R) : Option R := match a, r with
  | [.val [(0, 0)] (.slice (.prod (.int .i64) (.prod (.int .i64) (.prod (.int .i64) (.prod (.int .i64) (.prod (.slice (.int .u8)) .unit)))))) a0, .val [] (.int .i64) a1], [] => f52 k a0 a1 (fun z0 z1 => K [.rw 1, .val [] (.int .i64) z0] [⟨0, .arr [] (.int .u8) z1⟩])
  | a, r => callC T F k 52 a r K
theorem s52_eq (k : Nat) (a : List PV) (r : List RowS) (K : List PV → List RowS → Option R) : s52 k a r K = callC T F k 52 a r K := by
  unfold s52
  split
  · exact (e52 k _ _ K).symm
  · rfl
end
section
variable {R : Type}
noncomputable def S53 (k g : Nat) (a : List PV) (r : List RowS) (K : List PV → List RowS → Option R) : Option R := bif g == 36 then s36 k a r K else bif g == 40 then s40 k a r K else bif g == 74 then s74 k a r K else bif g == 76 then s76 k a r K else callC T F k g a r K
theorem S53_eq (k : Nat) : S53 (R := R) k = callC T F k := by
  funext g a r K
  exact pick_eq (fun e => by subst e; exact s36_eq k a r K) (pick_eq (fun e => by subst e; exact s40_eq k a r K) (pick_eq (fun e => by subst e; exact s74_eq k a r K) (pick_eq (fun e => by subst e; exact s76_eq k a r K) (rfl))))
section
variable {R : Type} (k : Nat) (K : List PV → List RowS → Option R)
noncomputable def L53_0 (ws : List PV) (rs : List RowS) (N : St → Option R) (X : Nat → St → Option R) : Option R := match ws, rs with
  | [.val [(0, 0)] (.slice (.prod (.int .i64) (.prod (.int .i64) (.prod (.int .i64) (.prod (.int .i64) (.prod (.slice (.int .u8)) .unit)))))) v0_0, .val [] (.int .i64) v0_1, .val [(0, 0)] (.slice (.prod (.int .i64) (.prod (.int .i64) (.prod (.int .i64) (.prod (.int .i64) (.prod (.slice (.int .u8)) .unit)))))) v0_2, .val [] (.int .i64) v0_3, .val [] (.int .i64) v0_4], [] => f53_0 k (fun z0 z1 => K [.rw 1, .val [] (.int .i64) z0] [⟨0, .arr [] (.int .u8) z1⟩]) (N (sh jn53_0 [.val [(0, 0)] (.slice (.prod (.int .i64) (.prod (.int .i64) (.prod (.int .i64) (.prod (.int .i64) (.prod (.slice (.int .u8)) .unit)))))) v0_0] [])) v0_0 v0_1 v0_2 v0_3 k v0_4
  | ws, rs => inner T an53 (modesOf F) 0 k 49 (S53 k) (ending T Try.f53 an53 0 K) cd53_0 (sh sp53_0 ws rs) N X
noncomputable def L53_2 (ws : List PV) (rs : List RowS) (N : St → Option R) (X : Nat → St → Option R) : Option R := match ws, rs with
  | [.rw 1, .val [(0, 0)] (.slice (.prod (.int .i64) (.prod (.int .i64) (.prod (.int .i64) (.prod (.int .i64) (.prod (.slice (.int .u8)) .unit)))))) v2_0, .val [] (.int .i64) v2_1, .val [] (.int .i64) v2_2], [⟨0, .arr [] (.int .u8) v2_3⟩] => f53_2 k (fun y2_0 => N (sh jn53_2 [.rw 1] [⟨0, .arr [] (.int .u8) y2_0⟩])) v2_0 v2_1 k v2_2 v2_3
  | ws, rs => inner T an53 (modesOf F) 0 k 49 (S53 k) (ending T Try.f53 an53 0 K) cd53_2 (sh sp53_2 ws rs) N X
noncomputable def L53 (id : Nat) (ws : List PV) (rs : List RowS) (N : St → Option R) (X : Nat → St → Option R) : Option R := bif id == 0 then L53_0 k K ws rs N X else bif id == 2 then L53_2 k K ws rs N X else none
theorem b53_0 (rec : St → Option R) (N : St → Option R) (X : Nat → St → Option R) (v0_0 : List ((Int × (Int × (Int × (Int × (List Int × Unit))))))) (v0_1 : Int) (v0_2 : List ((Int × (Int × (Int × (Int × (List Int × Unit))))))) (v0_3 : Int) (v0_4 : Int) :
    execS T an53 (modesOf F) 0 k 49 (S53 k) (L53 k K) (ending T Try.f53 an53 0 K) bd53_0 (sh sp53_0 [.val [(0, 0)] (.slice (.prod (.int .i64) (.prod (.int .i64) (.prod (.int .i64) (.prod (.int .i64) (.prod (.slice (.int .u8)) .unit)))))) v0_0, .val [] (.int .i64) v0_1, .val [(0, 0)] (.slice (.prod (.int .i64) (.prod (.int .i64) (.prod (.int .i64) (.prod (.int .i64) (.prod (.slice (.int .u8)) .unit)))))) v0_2, .val [] (.int .i64) v0_3, .val [] (.int .i64) v0_4] []) (fun st => atHead an53 0 bd53_0 st rec) (outX an53 0 0 N X) =
      f53_0b k (fun v0_4 => rec (sh sp53_0 [.val [(0, 0)] (.slice (.prod (.int .i64) (.prod (.int .i64) (.prod (.int .i64) (.prod (.int .i64) (.prod (.slice (.int .u8)) .unit)))))) v0_0, .val [] (.int .i64) v0_1, .val [(0, 0)] (.slice (.prod (.int .i64) (.prod (.int .i64) (.prod (.int .i64) (.prod (.int .i64) (.prod (.slice (.int .u8)) .unit)))))) v0_2, .val [] (.int .i64) v0_3, .val [] (.int .i64) v0_4] [])) (fun z0 z1 => K [.rw 1, .val [] (.int .i64) z0] [⟨0, .arr [] (.int .u8) z1⟩]) (N (sh jn53_0 [.val [(0, 0)] (.slice (.prod (.int .i64) (.prod (.int .i64) (.prod (.int .i64) (.prod (.int .i64) (.prod (.slice (.int .u8)) .unit)))))) v0_0] [])) v0_0 v0_1 v0_2 v0_3 v0_4 := by kernel_rfl
theorem i53_0 (N : St → Option R) (X : Nat → St → Option R) (v0_0 : List ((Int × (Int × (Int × (Int × (List Int × Unit))))))) (v0_1 : Int) (v0_2 : List ((Int × (Int × (Int × (Int × (List Int × Unit))))))) (v0_3 : Int) (m : Nat) : ∀ (v0_4 : Int),
    iter (atHead an53 0 bd53_0) m (fun st N' => exec T an53 (modesOf F) 0 k 49 (S53 k) (ending T Try.f53 an53 0 K) bd53_0 st N' (outX an53 0 0 N X)) (sh sp53_0 [.val [(0, 0)] (.slice (.prod (.int .i64) (.prod (.int .i64) (.prod (.int .i64) (.prod (.int .i64) (.prod (.slice (.int .u8)) .unit)))))) v0_0, .val [] (.int .i64) v0_1, .val [(0, 0)] (.slice (.prod (.int .i64) (.prod (.int .i64) (.prod (.int .i64) (.prod (.int .i64) (.prod (.slice (.int .u8)) .unit)))))) v0_2, .val [] (.int .i64) v0_3, .val [] (.int .i64) v0_4] []) = f53_0d k (fun z0 z1 => K [.rw 1, .val [] (.int .i64) z0] [⟨0, .arr [] (.int .u8) z1⟩]) (N (sh jn53_0 [.val [(0, 0)] (.slice (.prod (.int .i64) (.prod (.int .i64) (.prod (.int .i64) (.prod (.int .i64) (.prod (.slice (.int .u8)) .unit)))))) v0_0] [])) v0_0 v0_1 v0_2 v0_3 m v0_4 := by
  induction m with
  | zero => intros; rfl
  | succ m ih =>
    intro v0_4
    simp only [iter]
    rw [← execS_eq T an53 (modesOf F) 0 k 49 (S53 k) (L53 k K) bd53_0 (cuts_of _ _ _ _ _ _ _ _ bd53_0 (l := []) (by kernel_rfl) trivial)]
    refine (b53_0 k K _ N X v0_0 v0_1 v0_2 v0_3 v0_4).trans ?_
    simp only [f53_0d, ih]
theorem l53_0 (ws : List PV) (rs : List RowS) (N : St → Option R) (X : Nat → St → Option R) : L53 k K 0 ws rs N X = inner T an53 (modesOf F) 0 k 49 (S53 k) (ending T Try.f53 an53 0 K) cd53_0 (sh sp53_0 ws rs) N X := by
  show L53_0 k K ws rs N X = _
  unfold L53_0
  split
  rotate_left
  · rfl
  rename_i v0_0 v0_1 v0_2 v0_3 v0_4
  rw [f53_0_def]
  refine Eq.trans ?_ (show iter (atHead an53 0 bd53_0) k (fun st N' => exec T an53 (modesOf F) 0 k 49 (S53 k) (ending T Try.f53 an53 0 K) bd53_0 st N' (outX an53 0 0 N X)) (sh sp53_0 [.val [(0, 0)] (.slice (.prod (.int .i64) (.prod (.int .i64) (.prod (.int .i64) (.prod (.int .i64) (.prod (.slice (.int .u8)) .unit)))))) v0_0, .val [] (.int .i64) v0_1, .val [(0, 0)] (.slice (.prod (.int .i64) (.prod (.int .i64) (.prod (.int .i64) (.prod (.int .i64) (.prod (.slice (.int .u8)) .unit)))))) v0_2, .val [] (.int .i64) v0_3, .val [] (.int .i64) v0_4] []) = _ from by kernel_rfl)
  exact (i53_0 k K N X v0_0 v0_1 v0_2 v0_3 k v0_4).symm
theorem b53_2 (rec : St → Option R) (N : St → Option R) (X : Nat → St → Option R) (v2_0 : List ((Int × (Int × (Int × (Int × (List Int × Unit))))))) (v2_1 : Int) (v2_2 : Int) (v2_3 : List Int) :
    execS T an53 (modesOf F) 0 k 49 (S53 k) (L53 k K) (ending T Try.f53 an53 0 K) bd53_2 (sh sp53_2 [.rw 1, .val [(0, 0)] (.slice (.prod (.int .i64) (.prod (.int .i64) (.prod (.int .i64) (.prod (.int .i64) (.prod (.slice (.int .u8)) .unit)))))) v2_0, .val [] (.int .i64) v2_1, .val [] (.int .i64) v2_2] [⟨0, .arr [] (.int .u8) v2_3⟩]) (fun st => atHead an53 0 bd53_2 st rec) (outX an53 0 2 N X) =
      f53_2b k (fun v2_2 v2_3 => rec (sh sp53_2 [.rw 1, .val [(0, 0)] (.slice (.prod (.int .i64) (.prod (.int .i64) (.prod (.int .i64) (.prod (.int .i64) (.prod (.slice (.int .u8)) .unit)))))) v2_0, .val [] (.int .i64) v2_1, .val [] (.int .i64) v2_2] [⟨0, .arr [] (.int .u8) v2_3⟩])) (fun y2_0 => N (sh jn53_2 [.rw 1] [⟨0, .arr [] (.int .u8) y2_0⟩])) v2_0 v2_1 v2_2 v2_3 := by kernel_rfl
theorem i53_2 (N : St → Option R) (X : Nat → St → Option R) (v2_0 : List ((Int × (Int × (Int × (Int × (List Int × Unit))))))) (v2_1 : Int) (m : Nat) : ∀ (v2_2 : Int) (v2_3 : List Int),
    iter (atHead an53 0 bd53_2) m (fun st N' => exec T an53 (modesOf F) 0 k 49 (S53 k) (ending T Try.f53 an53 0 K) bd53_2 st N' (outX an53 0 2 N X)) (sh sp53_2 [.rw 1, .val [(0, 0)] (.slice (.prod (.int .i64) (.prod (.int .i64) (.prod (.int .i64) (.prod (.int .i64) (.prod (.slice (.int .u8)) .unit)))))) v2_0, .val [] (.int .i64) v2_1, .val [] (.int .i64) v2_2] [⟨0, .arr [] (.int .u8) v2_3⟩]) = f53_2d k (fun y2_0 => N (sh jn53_2 [.rw 1] [⟨0, .arr [] (.int .u8) y2_0⟩])) v2_0 v2_1 m v2_2 v2_3 := by
  induction m with
  | zero => intros; rfl
  | succ m ih =>
    intro v2_2 v2_3
    simp only [iter]
    rw [← execS_eq T an53 (modesOf F) 0 k 49 (S53 k) (L53 k K) bd53_2 (cuts_of _ _ _ _ _ _ _ _ bd53_2 (l := []) (by kernel_rfl) trivial)]
    refine (b53_2 k K _ N X v2_0 v2_1 v2_2 v2_3).trans ?_
    simp only [f53_2d, ih]
theorem l53_2 (ws : List PV) (rs : List RowS) (N : St → Option R) (X : Nat → St → Option R) : L53 k K 2 ws rs N X = inner T an53 (modesOf F) 0 k 49 (S53 k) (ending T Try.f53 an53 0 K) cd53_2 (sh sp53_2 ws rs) N X := by
  show L53_2 k K ws rs N X = _
  unfold L53_2
  split
  rotate_left
  · rfl
  rename_i v2_0 v2_1 v2_2 v2_3
  rw [f53_2_def]
  refine Eq.trans ?_ (show iter (atHead an53 0 bd53_2) k (fun st N' => exec T an53 (modesOf F) 0 k 49 (S53 k) (ending T Try.f53 an53 0 K) bd53_2 st N' (outX an53 0 2 N X)) (sh sp53_2 [.rw 1, .val [(0, 0)] (.slice (.prod (.int .i64) (.prod (.int .i64) (.prod (.int .i64) (.prod (.int .i64) (.prod (.slice (.int .u8)) .unit)))))) v2_0, .val [] (.int .i64) v2_1, .val [] (.int .i64) v2_2] [⟨0, .arr [] (.int .u8) v2_3⟩]) = _ from by kernel_rfl)
  exact (i53_2 k K N X v2_0 v2_1 k v2_2 v2_3).symm
end
theorem q53 (k : Nat) (a0 : List ((Int × (Int × (Int × (Int × (List Int × Unit))))))) (a1 : Int) (K : List PV → List RowS → Option R) :
    execS T an53 (modesOf F) 0 k 49 (S53 k) (L53 k K) (ending T Try.f53 an53 0 K) (bodyOf Try.f53) ⟨argEnv 0 [.val [(0, 0)] (.slice (.prod (.int .i64) (.prod (.int .i64) (.prod (.int .i64) (.prod (.int .i64) (.prod (.slice (.int .u8)) .unit)))))) a0, .val [] (.int .i64) a1] (fun _ => none), rowsOf []⟩ (ending T Try.f53 an53 0 K) (fun _ _ => none) = f53d (k + 1) a0 a1 (fun z0 z1 => K [.rw 1, .val [] (.int .i64) z0] [⟨0, .arr [] (.int .u8) z1⟩]) := by kernel_rfl
theorem e53 (k : Nat) (a0 : List ((Int × (Int × (Int × (Int × (List Int × Unit))))))) (a1 : Int) (K : List PV → List RowS → Option R) : callC T F k 53 [.val [(0, 0)] (.slice (.prod (.int .i64) (.prod (.int .i64) (.prod (.int .i64) (.prod (.int .i64) (.prod (.slice (.int .u8)) .unit)))))) a0, .val [] (.int .i64) a1] [] K = f53 k a0 a1 (fun z0 z1 => K [.rw 1, .val [] (.int .i64) z0] [⟨0, .arr [] (.int .u8) z1⟩]) := by
  rw [f53_def]
  cases k with
  | zero => rfl
  | succ k =>
    refine Eq.trans (show _ = exec T an53 (modesOf F) 0 k 49 (callC T F k) (ending T Try.f53 an53 0 K) (bodyOf Try.f53) ⟨argEnv 0 [.val [(0, 0)] (.slice (.prod (.int .i64) (.prod (.int .i64) (.prod (.int .i64) (.prod (.int .i64) (.prod (.slice (.int .u8)) .unit)))))) a0, .val [] (.int .i64) a1] (fun _ => none), rowsOf []⟩ (ending T Try.f53 an53 0 K) (fun _ _ => none) from by kernel_rfl) ?_
    rw [← S53_eq k, ← execS_eq T an53 (modesOf F) 0 k 49 (S53 k) (L53 k K) (bodyOf Try.f53) (cuts_of _ _ _ _ _ _ _ _ (bodyOf Try.f53) (l := [(0, sp53_0, cd53_0), (2, sp53_2, cd53_2)]) (by kernel_rfl) ⟨l53_0 k K, l53_2 k K, trivial⟩)]
    exact q53 k a0 a1 K
noncomputable def s53 (k : Nat) (a : List PV) (r : List RowS) (K : List PV → List RowS → Option R) : Option R := match a, r with
  | [.val [(0, 0)] (.slice (.prod (.int .i64) (.prod (.int .i64) (.prod (.int .i64) (.prod (.int .i64) (.prod (.slice (.int .u8)) .unit)))))) a0, .val [] (.int .i64) a1], [] => f53 k a0 a1 (fun z0 z1 => K [.rw 1, .val [] (.int .i64) z0] [⟨0, .arr [] (.int .u8) z1⟩])
  | a, r => callC T F k 53 a r K
theorem s53_eq (k : Nat) (a : List PV) (r : List RowS) (K : List PV → List RowS → Option R) : s53 k a r K = callC T F k 53 a r K := by
  unfold s53
  split
  · exact (e53 k _ _ K).symm
  · rfl
end
section
variable {R : Type}
noncomputable def S54 (k g : Nat) (a : List PV) (r : List RowS) (K : List PV → List RowS → Option R) : Option R := bif g == 76 then s76 k a r K else bif g == 82 then s82 k a r K else callC T F k g a r K
theorem S54_eq (k : Nat) : S54 (R := R) k = callC T F k := by
  funext g a r K
  exact pick_eq (fun e => by subst e; exact s76_eq k a r K) (pick_eq (fun e => by subst e; exact s82_eq k a r K) (rfl))
section
variable {R : Type} (k : Nat) (K : List PV → List RowS → Option R)
noncomputable def L54_1 (ws : List PV) (rs : List RowS) (N : St → Option R) (X : Nat → St → Option R) : Option R := match ws, rs with
  | [.val [(0, 0)] (.slice (.int .u8)) v1_0, .val [] (.int .i64) v1_1, .rw 1, .rw 2, .val [] (.int .i64) v1_2], [⟨0, .arr [] (.prod (.int .i64) (.prod (.int .i64) (.prod (.int .i64) (.prod (.int .i64) (.prod (.slice (.int .u8)) .unit))))) v1_3⟩, ⟨0, .arr [] (.int .i64) v1_4⟩] => f54_1 k (fun y1_2 y1_3 y1_4 => N (sh jn54_1 [.val [(0, 0)] (.slice (.int .u8)) v1_0, .val [] (.int .i64) v1_1, .rw 1, .rw 2, .val [] (.int .i64) y1_2] [⟨0, .arr [] (.prod (.int .i64) (.prod (.int .i64) (.prod (.int .i64) (.prod (.int .i64) (.prod (.slice (.int .u8)) .unit))))) y1_3⟩, ⟨0, .arr [] (.int .i64) y1_4⟩])) v1_0 v1_1 v1_2 v1_3 v1_4
  | ws, rs => inner T an54 (modesOf F) 0 k 50 (S54 k) (ending T Try.f54 an54 0 K) cd54_1 (sh sp54_1 ws rs) N X
noncomputable def L54_0 (ws : List PV) (rs : List RowS) (N : St → Option R) (X : Nat → St → Option R) : Option R := match ws, rs with
  | [.val [(0, 0)] (.slice (.int .u8)) v0_0, .val [] (.int .i64) v0_1, .rw 1, .rw 2, .val [] (.int .i64) v0_2], [⟨0, .arr [] (.prod (.int .i64) (.prod (.int .i64) (.prod (.int .i64) (.prod (.int .i64) (.prod (.slice (.int .u8)) .unit))))) v0_3⟩, ⟨0, .arr [] (.int .i64) v0_4⟩] => f54_0 k (fun y0_0 y0_1 => N (sh jn54_0 [.rw 1, .rw 2] [⟨0, .arr [] (.prod (.int .i64) (.prod (.int .i64) (.prod (.int .i64) (.prod (.int .i64) (.prod (.slice (.int .u8)) .unit))))) y0_0⟩, ⟨0, .arr [] (.int .i64) y0_1⟩])) v0_0 v0_1 k v0_2 v0_3 v0_4
  | ws, rs => inner T an54 (modesOf F) 0 k 50 (S54 k) (ending T Try.f54 an54 0 K) cd54_0 (sh sp54_0 ws rs) N X
noncomputable def L54 (id : Nat) (ws : List PV) (rs : List RowS) (N : St → Option R) (X : Nat → St → Option R) : Option R := bif id == 1 then L54_1 k K ws rs N X else bif id == 0 then L54_0 k K ws rs N X else none
theorem b54_1 (N : St → Option R) (X : Nat → St → Option R) (v1_0 : List Int) (v1_1 : Int) (v1_2 : Int) (v1_3 : List (Int × (Int × (Int × (Int × (List Int × Unit)))))) (v1_4 : List Int) :
    innerS T an54 (modesOf F) 0 k 50 (S54 k) (L54 k K) (ending T Try.f54 an54 0 K) cd54_1 (sh sp54_1 [.val [(0, 0)] (.slice (.int .u8)) v1_0, .val [] (.int .i64) v1_1, .rw 1, .rw 2, .val [] (.int .i64) v1_2] [⟨0, .arr [] (.prod (.int .i64) (.prod (.int .i64) (.prod (.int .i64) (.prod (.int .i64) (.prod (.slice (.int .u8)) .unit))))) v1_3⟩, ⟨0, .arr [] (.int .i64) v1_4⟩]) N X = f54_1d k (fun y1_2 y1_3 y1_4 => N (sh jn54_1 [.val [(0, 0)] (.slice (.int .u8)) v1_0, .val [] (.int .i64) v1_1, .rw 1, .rw 2, .val [] (.int .i64) y1_2] [⟨0, .arr [] (.prod (.int .i64) (.prod (.int .i64) (.prod (.int .i64) (.prod (.int .i64) (.prod (.slice (.int .u8)) .unit))))) y1_3⟩, ⟨0, .arr [] (.int .i64) y1_4⟩])) v1_0 v1_1 v1_2 v1_3 v1_4 := by kernel_rfl
theorem l54_1 (ws : List PV) (rs : List RowS) (N : St → Option R) (X : Nat → St → Option R) : L54 k K 1 ws rs N X = inner T an54 (modesOf F) 0 k 50 (S54 k) (ending T Try.f54 an54 0 K) cd54_1 (sh sp54_1 ws rs) N X := by
  show L54_1 k K ws rs N X = _
  unfold L54_1
  split
  rotate_left
  · rfl
  rename_i v1_0 v1_1 v1_2 v1_3 v1_4
  rw [f54_1_def]
  exact ((innerS_eq T an54 (modesOf F) 0 k 50 (S54 k) (L54 k K) cd54_1 (l := []) (by kernel_rfl) trivial _ N X).symm.trans (b54_1 k K N X v1_0 v1_1 v1_2 v1_3 v1_4)).symm
theorem b54_0 (rec : St → Option R) (N : St → Option R) (X : Nat → St → Option R) (v0_0 : List Int) (v0_1 : Int) (v0_2 : Int) (v0_3 : List (Int × (Int × (Int × (Int × (List Int × Unit)))))) (v0_4 : List Int) :
    execS T an54 (modesOf F) 0 k 50 (S54 k) (L54 k K) (ending T Try.f54 an54 0 K) bd54_0 (sh sp54_0 [.val [(0, 0)] (.slice (.int .u8)) v0_0, .val [] (.int .i64) v0_1, .rw 1, .rw 2, .val [] (.int .i64) v0_2] [⟨0, .arr [] (.prod (.int .i64) (.prod (.int .i64) (.prod (.int .i64) (.prod (.int .i64) (.prod (.slice (.int .u8)) .unit))))) v0_3⟩, ⟨0, .arr [] (.int .i64) v0_4⟩]) (fun st => atHead an54 0 bd54_0 st rec) (outX an54 0 0 N X) =
      f54_0b k (fun v0_2 v0_3 v0_4 => rec (sh sp54_0 [.val [(0, 0)] (.slice (.int .u8)) v0_0, .val [] (.int .i64) v0_1, .rw 1, .rw 2, .val [] (.int .i64) v0_2] [⟨0, .arr [] (.prod (.int .i64) (.prod (.int .i64) (.prod (.int .i64) (.prod (.int .i64) (.prod (.slice (.int .u8)) .unit))))) v0_3⟩, ⟨0, .arr [] (.int .i64) v0_4⟩])) (fun y0_0 y0_1 => N (sh jn54_0 [.rw 1, .rw 2] [⟨0, .arr [] (.prod (.int .i64) (.prod (.int .i64) (.prod (.int .i64) (.prod (.int .i64) (.prod (.slice (.int .u8)) .unit))))) y0_0⟩, ⟨0, .arr [] (.int .i64) y0_1⟩])) v0_0 v0_1 v0_2 v0_3 v0_4 := by kernel_rfl
theorem i54_0 (N : St → Option R) (X : Nat → St → Option R) (v0_0 : List Int) (v0_1 : Int) (m : Nat) : ∀ (v0_2 : Int) (v0_3 : List (Int × (Int × (Int × (Int × (List Int × Unit)))))) (v0_4 : List Int),
    iter (atHead an54 0 bd54_0) m (fun st N' => exec T an54 (modesOf F) 0 k 50 (S54 k) (ending T Try.f54 an54 0 K) bd54_0 st N' (outX an54 0 0 N X)) (sh sp54_0 [.val [(0, 0)] (.slice (.int .u8)) v0_0, .val [] (.int .i64) v0_1, .rw 1, .rw 2, .val [] (.int .i64) v0_2] [⟨0, .arr [] (.prod (.int .i64) (.prod (.int .i64) (.prod (.int .i64) (.prod (.int .i64) (.prod (.slice (.int .u8)) .unit))))) v0_3⟩, ⟨0, .arr [] (.int .i64) v0_4⟩]) = f54_0d k (fun y0_0 y0_1 => N (sh jn54_0 [.rw 1, .rw 2] [⟨0, .arr [] (.prod (.int .i64) (.prod (.int .i64) (.prod (.int .i64) (.prod (.int .i64) (.prod (.slice (.int .u8)) .unit))))) y0_0⟩, ⟨0, .arr [] (.int .i64) y0_1⟩])) v0_0 v0_1 m v0_2 v0_3 v0_4 := by
  induction m with
  | zero => intros; rfl
  | succ m ih =>
    intro v0_2 v0_3 v0_4
    simp only [iter]
    rw [← execS_eq T an54 (modesOf F) 0 k 50 (S54 k) (L54 k K) bd54_0 (cuts_of _ _ _ _ _ _ _ _ bd54_0 (l := [(1, sp54_1, cd54_1)]) (by kernel_rfl) ⟨l54_1 k K, trivial⟩)]
    refine (b54_0 k K _ N X v0_0 v0_1 v0_2 v0_3 v0_4).trans ?_
    simp only [f54_0d, ih]
theorem l54_0 (ws : List PV) (rs : List RowS) (N : St → Option R) (X : Nat → St → Option R) : L54 k K 0 ws rs N X = inner T an54 (modesOf F) 0 k 50 (S54 k) (ending T Try.f54 an54 0 K) cd54_0 (sh sp54_0 ws rs) N X := by
  show L54_0 k K ws rs N X = _
  unfold L54_0
  split
  rotate_left
  · rfl
  rename_i v0_0 v0_1 v0_2 v0_3 v0_4
  rw [f54_0_def]
  refine Eq.trans ?_ (show iter (atHead an54 0 bd54_0) k (fun st N' => exec T an54 (modesOf F) 0 k 50 (S54 k) (ending T Try.f54 an54 0 K) bd54_0 st N' (outX an54 0 0 N X)) (sh sp54_0 [.val [(0, 0)] (.slice (.int .u8)) v0_0, .val [] (.int .i64) v0_1, .rw 1, .rw 2, .val [] (.int .i64) v0_2] [⟨0, .arr [] (.prod (.int .i64) (.prod (.int .i64) (.prod (.int .i64) (.prod (.int .i64) (.prod (.slice (.int .u8)) .unit))))) v0_3⟩, ⟨0, .arr [] (.int .i64) v0_4⟩]) = _ from by kernel_rfl)
  exact (i54_0 k K N X v0_0 v0_1 k v0_2 v0_3 v0_4).symm
end
theorem q54 (k : Nat) (a0 : List Int) (a1 : Int) (K : List PV → List RowS → Option R) :
    execS T an54 (modesOf F) 0 k 50 (S54 k) (L54 k K) (ending T Try.f54 an54 0 K) (bodyOf Try.f54) ⟨argEnv 0 [.val [(0, 0)] (.slice (.int .u8)) a0, .val [] (.int .i64) a1] (fun _ => none), rowsOf []⟩ (ending T Try.f54 an54 0 K) (fun _ _ => none) = f54d (k + 1) a0 a1 (fun z0 z1 z2 => K [.rw 1, .rw 2, .val [] (.int .i64) z0] [⟨0, .arr [] (.prod (.int .i64) (.prod (.int .i64) (.prod (.int .i64) (.prod (.int .i64) (.prod (.slice (.int .u8)) .unit))))) z1⟩, ⟨0, .arr [] (.int .i64) z2⟩]) := by kernel_rfl
theorem e54 (k : Nat) (a0 : List Int) (a1 : Int) (K : List PV → List RowS → Option R) : callC T F k 54 [.val [(0, 0)] (.slice (.int .u8)) a0, .val [] (.int .i64) a1] [] K = f54 k a0 a1 (fun z0 z1 z2 => K [.rw 1, .rw 2, .val [] (.int .i64) z0] [⟨0, .arr [] (.prod (.int .i64) (.prod (.int .i64) (.prod (.int .i64) (.prod (.int .i64) (.prod (.slice (.int .u8)) .unit))))) z1⟩, ⟨0, .arr [] (.int .i64) z2⟩]) := by
  rw [f54_def]
  cases k with
  | zero => rfl
  | succ k =>
    refine Eq.trans (show _ = exec T an54 (modesOf F) 0 k 50 (callC T F k) (ending T Try.f54 an54 0 K) (bodyOf Try.f54) ⟨argEnv 0 [.val [(0, 0)] (.slice (.int .u8)) a0, .val [] (.int .i64) a1] (fun _ => none), rowsOf []⟩ (ending T Try.f54 an54 0 K) (fun _ _ => none) from by kernel_rfl) ?_
    rw [← S54_eq k, ← execS_eq T an54 (modesOf F) 0 k 50 (S54 k) (L54 k K) (bodyOf Try.f54) (cuts_of _ _ _ _ _ _ _ _ (bodyOf Try.f54) (l := [(0, sp54_0, cd54_0)]) (by kernel_rfl) ⟨l54_0 k K, trivial⟩)]
    exact q54 k a0 a1 K
noncomputable def s54 (k : Nat) (a : List PV) (r : List RowS) (K : List PV → List RowS → Option R) : Option R := match a, r with
  | [.val [(0, 0)] (.slice (.int .u8)) a0, .val [] (.int .i64) a1], [] => f54 k a0 a1 (fun z0 z1 z2 => K [.rw 1, .rw 2, .val [] (.int .i64) z0] [⟨0, .arr [] (.prod (.int .i64) (.prod (.int .i64) (.prod (.int .i64) (.prod (.int .i64) (.prod (.slice (.int .u8)) .unit))))) z1⟩, ⟨0, .arr [] (.int .i64) z2⟩])
  | a, r => callC T F k 54 a r K
theorem s54_eq (k : Nat) (a : List PV) (r : List RowS) (K : List PV → List RowS → Option R) : s54 k a r K = callC T F k 54 a r K := by
  unfold s54
  split
  · exact (e54 k _ _ K).symm
  · rfl
end
section
variable {R : Type}
noncomputable def S55 (k g : Nat) (a : List PV) (r : List RowS) (K : List PV → List RowS → Option R) : Option R := callC T F k g a r K
theorem S55_eq (k : Nat) : S55 (R := R) k = callC T F k := by
  funext g a r K
  exact rfl
section
variable {R : Type} (k : Nat) (K : List PV → List RowS → Option R)
noncomputable def L55_0 (ws : List PV) (rs : List RowS) (N : St → Option R) (X : Nat → St → Option R) : Option R := match ws, rs with
  | [.val [(0, 0)] (.slice (.int .i64)) v0_0, .val [(0, 0)] (.slice (.int .i64)) v0_1, .val [] (.int .i64) v0_2, .val [] (.int .i64) v0_3], [] => f55_0 k (fun z0 => K [.val [] .bool z0] []) (N (sh jn55_0 [] [])) v0_0 v0_1 v0_2 k v0_3
  | ws, rs => inner T an55 (modesOf F) 0 k 26 (S55 k) (ending T Try.f55 an55 0 K) cd55_0 (sh sp55_0 ws rs) N X
noncomputable def L55 (id : Nat) (ws : List PV) (rs : List RowS) (N : St → Option R) (X : Nat → St → Option R) : Option R := bif id == 0 then L55_0 k K ws rs N X else none
theorem b55_0 (rec : St → Option R) (N : St → Option R) (X : Nat → St → Option R) (v0_0 : List Int) (v0_1 : List Int) (v0_2 : Int) (v0_3 : Int) :
    execS T an55 (modesOf F) 0 k 26 (S55 k) (L55 k K) (ending T Try.f55 an55 0 K) bd55_0 (sh sp55_0 [.val [(0, 0)] (.slice (.int .i64)) v0_0, .val [(0, 0)] (.slice (.int .i64)) v0_1, .val [] (.int .i64) v0_2, .val [] (.int .i64) v0_3] []) (fun st => atHead an55 0 bd55_0 st rec) (outX an55 0 0 N X) =
      f55_0b k (fun v0_3 => rec (sh sp55_0 [.val [(0, 0)] (.slice (.int .i64)) v0_0, .val [(0, 0)] (.slice (.int .i64)) v0_1, .val [] (.int .i64) v0_2, .val [] (.int .i64) v0_3] [])) (fun z0 => K [.val [] .bool z0] []) (N (sh jn55_0 [] [])) v0_0 v0_1 v0_2 v0_3 := by kernel_rfl
theorem i55_0 (N : St → Option R) (X : Nat → St → Option R) (v0_0 : List Int) (v0_1 : List Int) (v0_2 : Int) (m : Nat) : ∀ (v0_3 : Int),
    iter (atHead an55 0 bd55_0) m (fun st N' => exec T an55 (modesOf F) 0 k 26 (S55 k) (ending T Try.f55 an55 0 K) bd55_0 st N' (outX an55 0 0 N X)) (sh sp55_0 [.val [(0, 0)] (.slice (.int .i64)) v0_0, .val [(0, 0)] (.slice (.int .i64)) v0_1, .val [] (.int .i64) v0_2, .val [] (.int .i64) v0_3] []) = f55_0d k (fun z0 => K [.val [] .bool z0] []) (N (sh jn55_0 [] [])) v0_0 v0_1 v0_2 m v0_3 := by
  induction m with
  | zero => intros; rfl
  | succ m ih =>
    intro v0_3
    simp only [iter]
    rw [← execS_eq T an55 (modesOf F) 0 k 26 (S55 k) (L55 k K) bd55_0 (cuts_of _ _ _ _ _ _ _ _ bd55_0 (l := []) (by kernel_rfl) trivial)]
    refine (b55_0 k K _ N X v0_0 v0_1 v0_2 v0_3).trans ?_
    simp only [f55_0d, ih]
theorem l55_0 (ws : List PV) (rs : List RowS) (N : St → Option R) (X : Nat → St → Option R) : L55 k K 0 ws rs N X = inner T an55 (modesOf F) 0 k 26 (S55 k) (ending T Try.f55 an55 0 K) cd55_0 (sh sp55_0 ws rs) N X := by
  show L55_0 k K ws rs N X = _
  unfold L55_0
  split
  rotate_left
  · rfl
  rename_i v0_0 v0_1 v0_2 v0_3
  rw [f55_0_def]
  refine Eq.trans ?_ (show iter (atHead an55 0 bd55_0) k (fun st N' => exec T an55 (modesOf F) 0 k 26 (S55 k) (ending T Try.f55 an55 0 K) bd55_0 st N' (outX an55 0 0 N X)) (sh sp55_0 [.val [(0, 0)] (.slice (.int .i64)) v0_0, .val [(0, 0)] (.slice (.int .i64)) v0_1, .val [] (.int .i64) v0_2, .val [] (.int .i64) v0_3] []) = _ from by kernel_rfl)
  exact (i55_0 k K N X v0_0 v0_1 v0_2 k v0_3).symm
end
theorem q55 (k : Nat) (a0 : List Int) (a1 : List Int) (K : List PV → List RowS → Option R) :
    execS T an55 (modesOf F) 0 k 26 (S55 k) (L55 k K) (ending T Try.f55 an55 0 K) (bodyOf Try.f55) ⟨argEnv 0 [.val [(0, 0)] (.slice (.int .i64)) a0, .val [(0, 0)] (.slice (.int .i64)) a1] (fun _ => none), rowsOf []⟩ (ending T Try.f55 an55 0 K) (fun _ _ => none) = f55d (k + 1) a0 a1 (fun z0 => K [.val [] .bool z0] []) := by kernel_rfl
theorem e55 (k : Nat) (a0 : List Int) (a1 : List Int) (K : List PV → List RowS → Option R) : callC T F k 55 [.val [(0, 0)] (.slice (.int .i64)) a0, .val [(0, 0)] (.slice (.int .i64)) a1] [] K = f55 k a0 a1 (fun z0 => K [.val [] .bool z0] []) := by
  rw [f55_def]
  cases k with
  | zero => rfl
  | succ k =>
    refine Eq.trans (show _ = exec T an55 (modesOf F) 0 k 26 (callC T F k) (ending T Try.f55 an55 0 K) (bodyOf Try.f55) ⟨argEnv 0 [.val [(0, 0)] (.slice (.int .i64)) a0, .val [(0, 0)] (.slice (.int .i64)) a1] (fun _ => none), rowsOf []⟩ (ending T Try.f55 an55 0 K) (fun _ _ => none) from by kernel_rfl) ?_
    rw [← S55_eq k, ← execS_eq T an55 (modesOf F) 0 k 26 (S55 k) (L55 k K) (bodyOf Try.f55) (cuts_of _ _ _ _ _ _ _ _ (bodyOf Try.f55) (l := [(0, sp55_0, cd55_0)]) (by kernel_rfl) ⟨l55_0 k K, trivial⟩)]
    exact q55 k a0 a1 K
noncomputable def s55 (k : Nat) (a : List PV) (r : List RowS) (K : List PV → List RowS → Option R) : Option R := match a, r with
  | [.val [(0, 0)] (.slice (.int .i64)) a0, .val [(0, 0)] (.slice (.int .i64)) a1], [] => f55 k a0 a1 (fun z0 => K [.val [] .bool z0] [])
  | a, r => callC T F k 55 a r K
theorem s55_eq (k : Nat) (a : List PV) (r : List RowS) (K : List PV → List RowS → Option R) : s55 k a r K = callC T F k 55 a r K := by
  unfold s55
  split
  · exact (e55 k _ _ K).symm
  · rfl
end
section
variable {R : Type}
noncomputable def S13 (k g : Nat) (a : List PV) (r : List RowS) (K : List PV → List RowS → Option R) : Option R := bif g == 21 then s21 k a r K else bif g == 32 then s32 k a r K else bif g == 45 then s45 k a r K else bif g == 46 then s46 k a r K else bif g == 52 then s52 k a r K else bif g == 53 then s53 k a r K else bif g == 54 then s54 k a r K else bif g == 55 then s55 k a r K else callC T F k g a r K
theorem S13_eq (k : Nat) : S13 (R := R) k = callC T F k := by
  funext g a r K
  exact pick_eq (fun e => by subst e; exact s21_eq k a r K) (pick_eq (fun e => by subst e; exact s32_eq k a r K) (pick_eq (fun e => by subst e; exact s45_eq k a r K) (pick_eq (fun e => by subst e; exact s46_eq k a r K) (pick_eq (fun e => by subst e; exact s52_eq k a r K) (pick_eq (fun e => by subst e; exact s53_eq k a r K) (pick_eq (fun e => by subst e; exact s54_eq k a r K) (pick_eq (fun e => by subst e; exact s55_eq k a r K) (rfl))))))))
theorem q13 (k : Nat) (a0 : List ((Int × (Int × (Int × (Int × (List Int × Unit))))))) (a1 : Int) (a2 : List Int) (K : List PV → List RowS → Option R) :
    execS T an13 (modesOf F) 0 k 66 (S13 k) (fun _ _ _ _ _ => none) (ending T Try.f13 an13 0 K) (bodyOf Try.f13) ⟨argEnv 0 [.val [(0, 0)] (.slice (.prod (.int .i64) (.prod (.int .i64) (.prod (.int .i64) (.prod (.int .i64) (.prod (.slice (.int .u8)) .unit)))))) a0, .val [] (.int .i64) a1, .val [(0, 0)] (.slice (.int .u8)) a2] (fun _ => none), rowsOf []⟩ (ending T Try.f13 an13 0 K) (fun _ _ => none) = f13d (k + 1) a0 a1 a2 (fun z0 => K [.val [] .bool z0] []) := by kernel_rfl
theorem e13 (k : Nat) (a0 : List ((Int × (Int × (Int × (Int × (List Int × Unit))))))) (a1 : Int) (a2 : List Int) (K : List PV → List RowS → Option R) : callC T F k 13 [.val [(0, 0)] (.slice (.prod (.int .i64) (.prod (.int .i64) (.prod (.int .i64) (.prod (.int .i64) (.prod (.slice (.int .u8)) .unit)))))) a0, .val [] (.int .i64) a1, .val [(0, 0)] (.slice (.int .u8)) a2] [] K = f13 k a0 a1 a2 (fun z0 => K [.val [] .bool z0] []) := by
  rw [f13_def]
  cases k with
  | zero => rfl
  | succ k =>
    refine Eq.trans (show _ = exec T an13 (modesOf F) 0 k 66 (callC T F k) (ending T Try.f13 an13 0 K) (bodyOf Try.f13) ⟨argEnv 0 [.val [(0, 0)] (.slice (.prod (.int .i64) (.prod (.int .i64) (.prod (.int .i64) (.prod (.int .i64) (.prod (.slice (.int .u8)) .unit)))))) a0, .val [] (.int .i64) a1, .val [(0, 0)] (.slice (.int .u8)) a2] (fun _ => none), rowsOf []⟩ (ending T Try.f13 an13 0 K) (fun _ _ => none) from by kernel_rfl) ?_
    rw [← S13_eq k, ← execS_eq T an13 (modesOf F) 0 k 66 (S13 k) (fun _ _ _ _ _ => none) (bodyOf Try.f13) (cuts_of _ _ _ _ _ _ _ _ (bodyOf Try.f13) (l := []) (by kernel_rfl) trivial)]
    exact q13 k a0 a1 a2 K
noncomputable def s13 (k : Nat) (a : List PV) (r : List RowS) (K : List PV → List RowS → Option R) : Option R := match a, r with
  | [.val [(0, 0)] (.slice (.prod (.int .i64) (.prod (.int .i64) (.prod (.int .i64) (.prod (.int .i64) (.prod (.slice (.int .u8)) .unit)))))) a0, .val [] (.int .i64) a1, .val [(0, 0)] (.slice (.int .u8)) a2], [] => f13 k a0 a1 a2 (fun z0 => K [.val [] .bool z0] [])
  | a, r => callC T F k 13 a r K
theorem s13_eq (k : Nat) (a : List PV) (r : List RowS) (K : List PV → List RowS → Option R) : s13 k a r K = callC T F k 13 a r K := by
  unfold s13
  split
  · exact (e13 k _ _ _ K).symm
  · rfl
end
end Go.Proofs.Ytahdmfboidjkoaa.PM
