/- The small machine's run is the typed form (printed by a program of this work). -/
import Derived.Test.YtahdmfboidjkoaaPW3
set_option linter.unusedVariables false
set_option linter.unusedSimpArgs false
set_option maxRecDepth 100000
namespace Go.Proofs.Ytahdmfboidjkoaa.PM
open Go
section
variable {R : Type}
noncomputable def S9 (k g : Nat) (a : List PV) (r : List RowS) (K : List PV → List RowS → Option R) : Option R := bif g == 21 then s21 k a r K else bif g == 32 then s32 k a r K else bif g == 43 then s43 k a r K else bif g == 44 then s44 k a r K else bif g == 45 then s45 k a r K else callC T F k g a r K
theorem S9_eq (k : Nat) : S9 (R := R) k = callC T F k := by
  funext g a r K
  exact pick_eq (fun e => by subst e; exact s21_eq k a r K) (pick_eq (fun e => by subst e; exact s32_eq k a r K) (pick_eq (fun e => by subst e; exact s43_eq k a r K) (pick_eq (fun e => by subst e; exact s44_eq k a r K) (pick_eq (fun e => by subst e; exact s45_eq k a r K) (rfl)))))
theorem q9 (k : Nat) (a0 : List Int) (a1 : List Int) (a2 : Int) (K : List PV → List RowS → Option R) :
    execS T an9 (modesOf F) 0 k 45 (S9 k) (fun _ _ _ _ _ => none) (ending T Try.f9 an9 0 K) (bodyOf Try.f9) ⟨argEnv 0 [.val [(0, 0)] (.slice (.int .u8)) a0, .val [(0, 0)] (.slice (.int .u8)) a1, .val [] (.int .i64) a2] (fun _ => none), rowsOf []⟩ (ending T Try.f9 an9 0 K) (fun _ _ => none) = f9d (k + 1) a0 a1 a2 (fun z0 => K [.val [] .bool z0] []) := by kernel_rfl
theorem e9 (k : Nat) (a0 : List Int) (a1 : List Int) (a2 : Int) (K : List PV → List RowS → Option R) : callC T F k 9 [.val [(0, 0)] (.slice (.int .u8)) a0, .val [(0, 0)] (.slice (.int .u8)) a1, .val [] (.int .i64) a2] [] K = f9 k a0 a1 a2 (fun z0 => K [.val [] .bool z0] []) := by
  rw [f9_def]
  cases k with
  | zero => rfl
  | succ k =>
    refine Eq.trans (show _ = exec T an9 (modesOf F) 0 k 45 (callC T F k) (ending T Try.f9 an9 0 K) (bodyOf Try.f9) ⟨argEnv 0 [.val [(0, 0)] (.slice (.int .u8)) a0, .val [(0, 0)] (.slice (.int .u8)) a1, .val [] (.int .i64) a2] (fun _ => none), rowsOf []⟩ (ending T Try.f9 an9 0 K) (fun _ _ => none) from by kernel_rfl) ?_
    rw [← S9_eq k, ← execS_eq T an9 (modesOf F) 0 k 45 (S9 k) (fun _ _ _ _ _ => none) (bodyOf Try.f9) (cuts_of _ _ _ _ _ _ _ _ (bodyOf Try.f9) (l := []) (by kernel_rfl) trivial)]
    exact q9 k a0 a1 a2 K
noncomputable def s9 (k : Nat) (a : List PV) (r : List RowS) (K : List PV → List RowS → Option R) : Option R := match a, r with
  | [.val [(0, 0)] (.slice (.int .u8)) a0, .val [(0, 0)] (.slice (.int .u8)) a1, .val [] (.int .i64) a2], [] => f9 k a0 a1 a2 (fun z0 => K [.val [] .bool z0] [])
  | a, r => callC T F k 9 a r K
theorem s9_eq (k : Nat) (a : List PV) (r : List RowS) (K : List PV → List RowS → Option R) : s9 k a r K = callC T F k 9 a r K := by
  unfold s9
  split
  · exact (e9 k _ _ _ K).symm
  · rfl
end
section
variable {R : Type}
noncomputable def S46 (k g : Nat) (a : List PV) (r : List RowS) (K : List PV → List RowS → Option R) : Option R := bif g == 75 then s75 k a r K else bif g == 80 then s80 k a r K else callC T F k g a r K
theorem S46_eq (k : Nat) : S46 (R := R) k = callC T F k := by
  funext g a r K
  exact pick_eq (fun e => by subst e; exact s75_eq k a r K) (pick_eq (fun e => by subst e; exact s80_eq k a r K) (rfl))
theorem q46 (k : Nat) (a0 : List Int) (a1 : Int) (K : List PV → List RowS → Option R) :
    execS T an46 (modesOf F) 0 k 27 (S46 k) (fun _ _ _ _ _ => none) (ending T Try.f46 an46 0 K) (bodyOf Try.f46) ⟨argEnv 0 [.val [(0, 0)] (.slice (.int .u8)) a0, .val [] (.int .i64) a1] (fun _ => none), rowsOf []⟩ (ending T Try.f46 an46 0 K) (fun _ _ => none) = f46d (k + 1) a0 a1 (fun z0 z1 z2 => K [.rw 1, .rw 2, .val [] (.int .i64) z0] [⟨0, .arr [] (.prod (.int .i64) (.prod (.int .i64) (.prod (.int .i64) (.prod (.int .i64) (.prod (.slice (.int .u8)) .unit))))) z1⟩, ⟨0, .arr [] (.int .i64) z2⟩]) := by kernel_rfl
theorem e46 (k : Nat) (a0 : List Int) (a1 : Int) (K : List PV → List RowS → Option R) : callC T F k 46 [.val [(0, 0)] (.slice (.int .u8)) a0, .val [] (.int .i64) a1] [] K = f46 k a0 a1 (fun z0 z1 z2 => K [.rw 1, .rw 2, .val [] (.int .i64) z0] [⟨0, .arr [] (.prod (.int .i64) (.prod (.int .i64) (.prod (.int .i64) (.prod (.int .i64) (.prod (.slice (.int .u8)) .unit))))) z1⟩, ⟨0, .arr [] (.int .i64) z2⟩]) := by
  rw [f46_def]
  cases k with
  | zero => rfl
  | succ k =>
    refine Eq.trans (show _ = exec T an46 (modesOf F) 0 k 27 (callC T F k) (ending T Try.f46 an46 0 K) (bodyOf Try.f46) ⟨argEnv 0 [.val [(0, 0)] (.slice (.int .u8)) a0, .val [] (.int .i64) a1] (fun _ => none), rowsOf []⟩ (ending T Try.f46 an46 0 K) (fun _ _ => none) from by kernel_rfl) ?_
    rw [← S46_eq k, ← execS_eq T an46 (modesOf F) 0 k 27 (S46 k) (fun _ _ _ _ _ => none) (bodyOf Try.f46) (cuts_of _ _ _ _ _ _ _ _ (bodyOf Try.f46) (l := []) (by kernel_rfl) trivial)]
    exact q46 k a0 a1 K
noncomputable def s46 (k : Nat) (a : List PV) (r : List RowS) (K : List PV → List RowS → Option R) : Option R := match a, r with
  | [.val [(0, 0)] (.slice (.int .u8)) a0, .val [] (.int .i64) a1], [] => f46 k a0 a1 (fun z0 z1 z2 => K [.rw 1, .rw 2, .val [] (.int .i64) z0] [⟨0, .arr [] (.prod (.int .i64) (.prod (.int .i64) (.prod (.int .i64) (.prod (.int .i64) (.prod (.slice (.int .u8)) .unit))))) z1⟩, ⟨0, .arr [] (.int .i64) z2⟩])
  | a, r => callC T F k 46 a r K
theorem s46_eq (k : Nat) (a : List PV) (r : List RowS) (K : List PV → List RowS → Option R) : s46 k a r K = callC T F k 46 a r K := by
  unfold s46
  split
  · exact (e46 k _ _ K).symm
  · rfl
end
section
variable {R : Type}
theorem e47 (k : Nat) (a0 : List Int) (K : List PV → List RowS → Option R) : callC T F k 47 [.val [(0, 0)] (.slice (.int .i64)) a0] [] K = f47 k a0 (fun z0 => K [.rw 1] [⟨0, .arr [] (.int .i64) z0⟩]) := by
  rw [f47_def]
  cases k with
  | zero => rfl
  | succ k => exact clone_call (m := [.lend (.int .i64)]) (ty := (.int .i64)) (bytes := 8) (by kernel_rfl) a0 K
noncomputable def s47 (k : Nat) (a : List PV) (r : List RowS) (K : List PV → List RowS → Option R) : Option R := match a, r with
  | [.val [(0, 0)] (.slice (.int .i64)) a0], [] => f47 k a0 (fun z0 => K [.rw 1] [⟨0, .arr [] (.int .i64) z0⟩])
  | a, r => callC T F k 47 a r K
theorem s47_eq (k : Nat) (a : List PV) (r : List RowS) (K : List PV → List RowS → Option R) : s47 k a r K = callC T F k 47 a r K := by
  unfold s47
  split
  · exact (e47 k _ K).symm
  · rfl
end
section
variable {R : Type}
noncomputable def S10 (k g : Nat) (a : List PV) (r : List RowS) (K : List PV → List RowS → Option R) : Option R := bif g == 21 then s21 k a r K else bif g == 42 then s42 k a r K else bif g == 43 then s43 k a r K else bif g == 45 then s45 k a r K else bif g == 46 then s46 k a r K else bif g == 47 then s47 k a r K else callC T F k g a r K
theorem S10_eq (k : Nat) : S10 (R := R) k = callC T F k := by
  funext g a r K
  exact pick_eq (fun e => by subst e; exact s21_eq k a r K) (pick_eq (fun e => by subst e; exact s42_eq k a r K) (pick_eq (fun e => by subst e; exact s43_eq k a r K) (pick_eq (fun e => by subst e; exact s45_eq k a r K) (pick_eq (fun e => by subst e; exact s46_eq k a r K) (pick_eq (fun e => by subst e; exact s47_eq k a r K) (rfl))))))
section
variable {R : Type} (k : Nat) (K : List PV → List RowS → Option R)
noncomputable def L10_1000012 (ws : List PV) (rs : List RowS) (N : St → Option R) (X : Nat → St → Option R) : Option R := match ws, rs with
  | [.val [(0, 0)] (.slice (.int .u8)) v12_0, .val [] (.int .i64) v12_1, .rw 1, .rw 2, .rw 3, .val [] (.int .i64) v12_2, .val [] (.int .i64) v12_3, .val [] (.int .i64) v12_4, .rw 4, .val [] (.int .i64) v12_5, .val [] (.int .i64) v12_6, .val [] .bool v12_7], [⟨0, .arr [] (.prod (.int .i64) (.prod (.int .i64) (.prod (.int .i64) (.prod (.int .i64) (.prod (.slice (.int .u8)) .unit))))) v12_8⟩, ⟨0, .arr [] (.prod (.int .i64) (.prod (.int .i64) (.prod (.int .i64) (.prod (.int .i64) (.prod (.slice (.int .u8)) .unit))))) v12_9⟩, ⟨0, .arr [] (.int .u8) v12_10⟩, ⟨0, .arr [] (.int .i64) v12_11⟩] => f10_1000012 k (fun yN_3 => N (sh fi10_12 [.val [(0, 0)] (.slice (.int .u8)) v12_0, .val [] (.int .i64) v12_1, .rw 1, .rw 2, .rw 3, .val [] (.int .i64) v12_2, .val [] (.int .i64) yN_3, .rw 4, .val [] (.int .i64) v12_5, .val [] (.int .i64) v12_6] [⟨0, .arr [] (.prod (.int .i64) (.prod (.int .i64) (.prod (.int .i64) (.prod (.int .i64) (.prod (.slice (.int .u8)) .unit))))) v12_8⟩, ⟨0, .arr [] (.prod (.int .i64) (.prod (.int .i64) (.prod (.int .i64) (.prod (.int .i64) (.prod (.slice (.int .u8)) .unit))))) v12_9⟩, ⟨0, .arr [] (.int .u8) v12_10⟩, ⟨0, .arr [] (.int .i64) v12_11⟩])) v12_0 v12_1 v12_2 v12_3 v12_4 v12_5 v12_6 v12_7 v12_8 v12_9 v12_10 v12_11
  | ws, rs => inner T an10 (modesOf F) 0 k 92 (S10 k) (ending T Try.f10 an10 0 K) cd10_1000012 (sh sp10_1000012 ws rs) N X
noncomputable def L10_0 (ws : List PV) (rs : List RowS) (N : St → Option R) (X : Nat → St → Option R) : Option R := match ws, rs with
  | [.val [(0, 0)] (.slice (.int .u8)) v0_0, .val [] (.int .i64) v0_1, .rw 1, .rw 2, .rw 3, .val [] (.int .i64) v0_2, .rw 4, .val [] (.int .i64) v0_3, .val [] (.int .i64) v0_4], [⟨0, .arr [] (.prod (.int .i64) (.prod (.int .i64) (.prod (.int .i64) (.prod (.int .i64) (.prod (.slice (.int .u8)) .unit))))) v0_5⟩, ⟨0, .arr [] (.prod (.int .i64) (.prod (.int .i64) (.prod (.int .i64) (.prod (.int .i64) (.prod (.slice (.int .u8)) .unit))))) v0_6⟩, ⟨0, .arr [] (.int .u8) v0_7⟩, ⟨0, .arr [] (.int .i64) v0_8⟩] => f10_0 k (fun z0 => K [.val [] .bool z0] []) (fun y0_1 => N (sh jn10_0 [.rw 1, .rw 2] [⟨0, .arr [] (.prod (.int .i64) (.prod (.int .i64) (.prod (.int .i64) (.prod (.int .i64) (.prod (.slice (.int .u8)) .unit))))) v0_5⟩, ⟨0, .arr [] (.prod (.int .i64) (.prod (.int .i64) (.prod (.int .i64) (.prod (.int .i64) (.prod (.slice (.int .u8)) .unit))))) y0_1⟩])) v0_0 v0_1 v0_3 v0_5 v0_8 k v0_2 v0_4 v0_6 v0_7
  | ws, rs => inner T an10 (modesOf F) 0 k 92 (S10 k) (ending T Try.f10 an10 0 K) cd10_0 (sh sp10_0 ws rs) N X
noncomputable def L10 (id : Nat) (ws : List PV) (rs : List RowS) (N : St → Option R) (X : Nat → St → Option R) : Option R := bif id == 1000012 then L10_1000012 k K ws rs N X else bif id == 0 then L10_0 k K ws rs N X else none
theorem b10_1000012 (N : St → Option R) (X : Nat → St → Option R) (v12_0 : List Int) (v12_1 : Int) (v12_2 : Int) (v12_3 : Int) (v12_4 : Int) (v12_5 : Int) (v12_6 : Int) (v12_7 : Bool) (v12_8 : List (Int × (Int × (Int × (Int × (List Int × Unit)))))) (v12_9 : List (Int × (Int × (Int × (Int × (List Int × Unit)))))) (v12_10 : List Int) (v12_11 : List Int) :
    innerS T an10 (modesOf F) 0 k 92 (S10 k) (L10 k K) (ending T Try.f10 an10 0 K) cd10_1000012 (sh sp10_1000012 [.val [(0, 0)] (.slice (.int .u8)) v12_0, .val [] (.int .i64) v12_1, .rw 1, .rw 2, .rw 3, .val [] (.int .i64) v12_2, .val [] (.int .i64) v12_3, .val [] (.int .i64) v12_4, .rw 4, .val [] (.int .i64) v12_5, .val [] (.int .i64) v12_6, .val [] .bool v12_7] [⟨0, .arr [] (.prod (.int .i64) (.prod (.int .i64) (.prod (.int .i64) (.prod (.int .i64) (.prod (.slice (.int .u8)) .unit))))) v12_8⟩, ⟨0, .arr [] (.prod (.int .i64) (.prod (.int .i64) (.prod (.int .i64) (.prod (.int .i64) (.prod (.slice (.int .u8)) .unit))))) v12_9⟩, ⟨0, .arr [] (.int .u8) v12_10⟩, ⟨0, .arr [] (.int .i64) v12_11⟩]) N X = f10_1000012d k (fun yN_3 => N (sh fi10_12 [.val [(0, 0)] (.slice (.int .u8)) v12_0, .val [] (.int .i64) v12_1, .rw 1, .rw 2, .rw 3, .val [] (.int .i64) v12_2, .val [] (.int .i64) yN_3, .rw 4, .val [] (.int .i64) v12_5, .val [] (.int .i64) v12_6] [⟨0, .arr [] (.prod (.int .i64) (.prod (.int .i64) (.prod (.int .i64) (.prod (.int .i64) (.prod (.slice (.int .u8)) .unit))))) v12_8⟩, ⟨0, .arr [] (.prod (.int .i64) (.prod (.int .i64) (.prod (.int .i64) (.prod (.int .i64) (.prod (.slice (.int .u8)) .unit))))) v12_9⟩, ⟨0, .arr [] (.int .u8) v12_10⟩, ⟨0, .arr [] (.int .i64) v12_11⟩])) v12_0 v12_1 v12_2 v12_3 v12_4 v12_5 v12_6 v12_7 v12_8 v12_9 v12_10 v12_11 := by kernel_rfl
theorem l10_1000012 (ws : List PV) (rs : List RowS) (N : St → Option R) (X : Nat → St → Option R) : L10 k K 1000012 ws rs N X = inner T an10 (modesOf F) 0 k 92 (S10 k) (ending T Try.f10 an10 0 K) cd10_1000012 (sh sp10_1000012 ws rs) N X := by
  show L10_1000012 k K ws rs N X = _
  unfold L10_1000012
  split
  rotate_left
  · rfl
  rename_i v12_0 v12_1 v12_2 v12_3 v12_4 v12_5 v12_6 v12_7 v12_8 v12_9 v12_10 v12_11
  rw [f10_1000012_def]
  exact ((innerS_eq T an10 (modesOf F) 0 k 92 (S10 k) (L10 k K) cd10_1000012 (l := []) (by kernel_rfl) trivial _ N X).symm.trans (b10_1000012 k K N X v12_0 v12_1 v12_2 v12_3 v12_4 v12_5 v12_6 v12_7 v12_8 v12_9 v12_10 v12_11)).symm
theorem b10_0 (rec : St → Option R) (N : St → Option R) (X : Nat → St → Option R) (v0_0 : List Int) (v0_1 : Int) (v0_3 : Int) (v0_5 : List (Int × (Int × (Int × (Int × (List Int × Unit)))))) (v0_8 : List Int) (v0_2 : Int) (v0_4 : Int) (v0_6 : List (Int × (Int × (Int × (Int × (List Int × Unit)))))) (v0_7 : List Int) :
    execS T an10 (modesOf F) 0 k 92 (S10 k) (L10 k K) (ending T Try.f10 an10 0 K) bd10_0 (sh sp10_0 [.val [(0, 0)] (.slice (.int .u8)) v0_0, .val [] (.int .i64) v0_1, .rw 1, .rw 2, .rw 3, .val [] (.int .i64) v0_2, .rw 4, .val [] (.int .i64) v0_3, .val [] (.int .i64) v0_4] [⟨0, .arr [] (.prod (.int .i64) (.prod (.int .i64) (.prod (.int .i64) (.prod (.int .i64) (.prod (.slice (.int .u8)) .unit))))) v0_5⟩, ⟨0, .arr [] (.prod (.int .i64) (.prod (.int .i64) (.prod (.int .i64) (.prod (.int .i64) (.prod (.slice (.int .u8)) .unit))))) v0_6⟩, ⟨0, .arr [] (.int .u8) v0_7⟩, ⟨0, .arr [] (.int .i64) v0_8⟩]) (fun st => atHead an10 0 bd10_0 st rec) (outX an10 0 0 N X) =
      f10_0b k (fun v0_2 v0_4 v0_6 v0_7 => rec (sh sp10_0 [.val [(0, 0)] (.slice (.int .u8)) v0_0, .val [] (.int .i64) v0_1, .rw 1, .rw 2, .rw 3, .val [] (.int .i64) v0_2, .rw 4, .val [] (.int .i64) v0_3, .val [] (.int .i64) v0_4] [⟨0, .arr [] (.prod (.int .i64) (.prod (.int .i64) (.prod (.int .i64) (.prod (.int .i64) (.prod (.slice (.int .u8)) .unit))))) v0_5⟩, ⟨0, .arr [] (.prod (.int .i64) (.prod (.int .i64) (.prod (.int .i64) (.prod (.int .i64) (.prod (.slice (.int .u8)) .unit))))) v0_6⟩, ⟨0, .arr [] (.int .u8) v0_7⟩, ⟨0, .arr [] (.int .i64) v0_8⟩])) (fun z0 => K [.val [] .bool z0] []) (fun y0_1 => N (sh jn10_0 [.rw 1, .rw 2] [⟨0, .arr [] (.prod (.int .i64) (.prod (.int .i64) (.prod (.int .i64) (.prod (.int .i64) (.prod (.slice (.int .u8)) .unit))))) v0_5⟩, ⟨0, .arr [] (.prod (.int .i64) (.prod (.int .i64) (.prod (.int .i64) (.prod (.int .i64) (.prod (.slice (.int .u8)) .unit))))) y0_1⟩])) v0_0 v0_1 v0_3 v0_5 v0_8 v0_2 v0_4 v0_6 v0_7 := by kernel_rfl
theorem i10_0 (N : St → Option R) (X : Nat → St → Option R) (v0_0 : List Int) (v0_1 : Int) (v0_3 : Int) (v0_5 : List (Int × (Int × (Int × (Int × (List Int × Unit)))))) (v0_8 : List Int) (m : Nat) : ∀ (v0_2 : Int) (v0_4 : Int) (v0_6 : List (Int × (Int × (Int × (Int × (List Int × Unit)))))) (v0_7 : List Int),
    iter (atHead an10 0 bd10_0) m (fun st N' => exec T an10 (modesOf F) 0 k 92 (S10 k) (ending T Try.f10 an10 0 K) bd10_0 st N' (outX an10 0 0 N X)) (sh sp10_0 [.val [(0, 0)] (.slice (.int .u8)) v0_0, .val [] (.int .i64) v0_1, .rw 1, .rw 2, .rw 3, .val [] (.int .i64) v0_2, .rw 4, .val [] (.int .i64) v0_3, .val [] (.int .i64) v0_4] [⟨0, .arr [] (.prod (.int .i64) (.prod (.int .i64) (.prod (.int .i64) (.prod (.int .i64) (.prod (.slice (.int .u8)) .unit))))) v0_5⟩, ⟨0, .arr [] (.prod (.int .i64) (.prod (.int .i64) (.prod (.int .i64) (.prod (.int .i64) (.prod (.slice (.int .u8)) .unit))))) v0_6⟩, ⟨0, .arr [] (.int .u8) v0_7⟩, ⟨0, .arr [] (.int .i64) v0_8⟩]) = f10_0d k (fun z0 => K [.val [] .bool z0] []) (fun y0_1 => N (sh jn10_0 [.rw 1, .rw 2] [⟨0, .arr [] (.prod (.int .i64) (.prod (.int .i64) (.prod (.int .i64) (.prod (.int .i64) (.prod (.slice (.int .u8)) .unit))))) v0_5⟩, ⟨0, .arr [] (.prod (.int .i64) (.prod (.int .i64) (.prod (.int .i64) (.prod (.int .i64) (.prod (.slice (.int .u8)) .unit))))) y0_1⟩])) v0_0 v0_1 v0_3 v0_5 v0_8 m v0_2 v0_4 v0_6 v0_7 := by
  induction m with
  | zero => intros; rfl
  | succ m ih =>
    intro v0_2 v0_4 v0_6 v0_7
    simp only [iter]
    rw [← execS_eq T an10 (modesOf F) 0 k 92 (S10 k) (L10 k K) bd10_0 (cuts_of _ _ _ _ _ _ _ _ bd10_0 (l := [(1000012, sp10_1000012, cd10_1000012)]) (by kernel_rfl) ⟨l10_1000012 k K, trivial⟩)]
    refine (b10_0 k K _ N X v0_0 v0_1 v0_3 v0_5 v0_8 v0_2 v0_4 v0_6 v0_7).trans ?_
    simp only [f10_0d, ih]
theorem l10_0 (ws : List PV) (rs : List RowS) (N : St → Option R) (X : Nat → St → Option R) : L10 k K 0 ws rs N X = inner T an10 (modesOf F) 0 k 92 (S10 k) (ending T Try.f10 an10 0 K) cd10_0 (sh sp10_0 ws rs) N X := by
  show L10_0 k K ws rs N X = _
  unfold L10_0
  split
  rotate_left
  · rfl
  rename_i v0_0 v0_1 v0_2 v0_3 v0_4 v0_5 v0_6 v0_7 v0_8
  rw [f10_0_def]
  refine Eq.trans ?_ (show iter (atHead an10 0 bd10_0) k (fun st N' => exec T an10 (modesOf F) 0 k 92 (S10 k) (ending T Try.f10 an10 0 K) bd10_0 st N' (outX an10 0 0 N X)) (sh sp10_0 [.val [(0, 0)] (.slice (.int .u8)) v0_0, .val [] (.int .i64) v0_1, .rw 1, .rw 2, .rw 3, .val [] (.int .i64) v0_2, .rw 4, .val [] (.int .i64) v0_3, .val [] (.int .i64) v0_4] [⟨0, .arr [] (.prod (.int .i64) (.prod (.int .i64) (.prod (.int .i64) (.prod (.int .i64) (.prod (.slice (.int .u8)) .unit))))) v0_5⟩, ⟨0, .arr [] (.prod (.int .i64) (.prod (.int .i64) (.prod (.int .i64) (.prod (.int .i64) (.prod (.slice (.int .u8)) .unit))))) v0_6⟩, ⟨0, .arr [] (.int .u8) v0_7⟩, ⟨0, .arr [] (.int .i64) v0_8⟩]) = _ from by kernel_rfl)
  exact (i10_0 k K N X v0_0 v0_1 v0_3 v0_5 v0_8 k v0_2 v0_4 v0_6 v0_7).symm
end
theorem q10 (k : Nat) (a0 : List Int) (a1 : Int) (a2 : List Int) (K : List PV → List RowS → Option R) :
    execS T an10 (modesOf F) 0 k 92 (S10 k) (L10 k K) (ending T Try.f10 an10 0 K) (bodyOf Try.f10) ⟨argEnv 0 [.val [(0, 0)] (.slice (.int .u8)) a0, .val [] (.int .i64) a1, .val [(0, 0)] (.slice (.int .i64)) a2] (fun _ => none), rowsOf []⟩ (ending T Try.f10 an10 0 K) (fun _ _ => none) = f10d (k + 1) a0 a1 a2 (fun z0 => K [.val [] .bool z0] []) := by kernel_rfl
theorem e10 (k : Nat) (a0 : List Int) (a1 : Int) (a2 : List Int) (K : List PV → List RowS → Option R) : callC T F k 10 [.val [(0, 0)] (.slice (.int .u8)) a0, .val [] (.int .i64) a1, .val [(0, 0)] (.slice (.int .i64)) a2] [] K = f10 k a0 a1 a2 (fun z0 => K [.val [] .bool z0] []) := by
  rw [f10_def]
  cases k with
  | zero => rfl
  | succ k =>
    refine Eq.trans (show _ = exec T an10 (modesOf F) 0 k 92 (callC T F k) (ending T Try.f10 an10 0 K) (bodyOf Try.f10) ⟨argEnv 0 [.val [(0, 0)] (.slice (.int .u8)) a0, .val [] (.int .i64) a1, .val [(0, 0)] (.slice (.int .i64)) a2] (fun _ => none), rowsOf []⟩ (ending T Try.f10 an10 0 K) (fun _ _ => none) from by kernel_rfl) ?_
    rw [← S10_eq k, ← execS_eq T an10 (modesOf F) 0 k 92 (S10 k) (L10 k K) (bodyOf Try.f10) (cuts_of _ _ _ _ _ _ _ _ (bodyOf Try.f10) (l := [(0, sp10_0, cd10_0)]) (by kernel_rfl) ⟨l10_0 k K, trivial⟩)]
    exact q10 k a0 a1 a2 K
noncomputable def s10 (k : Nat) (a : List PV) (r : List RowS) (K : List PV → List RowS → Option R) : Option R := match a, r with
  | [.val [(0, 0)] (.slice (.int .u8)) a0, .val [] (.int .i64) a1, .val [(0, 0)] (.slice (.int .i64)) a2], [] => f10 k a0 a1 a2 (fun z0 => K [.val [] .bool z0] [])
  | a, r => callC T F k 10 a r K
theorem s10_eq (k : Nat) (a : List PV) (r : List RowS) (K : List PV → List RowS → Option R) : s10 k a r K = callC T F k 10 a r K := by
  unfold s10
  split
  · exact (e10 k _ _ _ K).symm
  · rfl
end
section
variable {R : Type}
noncomputable def S83 (k g : Nat) (a : List PV) (r : List RowS) (K : List PV → List RowS → Option R) : Option R := bif g == 30 then s30 k a r K else callC T F k g a r K
theorem S83_eq (k : Nat) : S83 (R := R) k = callC T F k := by
  funext g a r K
  exact pick_eq (fun e => by subst e; exact s30_eq k a r K) (rfl)
section
variable {R : Type} (k : Nat) (K : List PV → List RowS → Option R)
noncomputable def L83_0 (ws : List PV) (rs : List RowS) (N : St → Option R) (X : Nat → St → Option R) : Option R := match ws, rs with
  | [.val [(0, 0)] (.slice (.prod (.int .i64) (.prod .bool (.prod (.int .i64) (.prod (.int .i64) (.prod (.slice (.int .u8)) .unit)))))) v0_0, .val [] (.int .i64) v0_1, .val [] (.int .i64) v0_2], [] => f83_0 k (fun z0 => K [.val [] (.int .i64) z0] []) (N (sh jn83_0 [] [])) v0_0 v0_1 k v0_2
  | ws, rs => inner T an83 (modesOf F) 0 k 21 (S83 k) (ending T Try.f83 an83 0 K) cd83_0 (sh sp83_0 ws rs) N X
noncomputable def L83 (id : Nat) (ws : List PV) (rs : List RowS) (N : St → Option R) (X : Nat → St → Option R) : Option R := bif id == 0 then L83_0 k K ws rs N X else none
theorem b83_0 (rec : St → Option R) (N : St → Option R) (X : Nat → St → Option R) (v0_0 : List ((Int × (Bool × (Int × (Int × (List Int × Unit))))))) (v0_1 : Int) (v0_2 : Int) :
    execS T an83 (modesOf F) 0 k 21 (S83 k) (L83 k K) (ending T Try.f83 an83 0 K) bd83_0 (sh sp83_0 [.val [(0, 0)] (.slice (.prod (.int .i64) (.prod .bool (.prod (.int .i64) (.prod (.int .i64) (.prod (.slice (.int .u8)) .unit)))))) v0_0, .val [] (.int .i64) v0_1, .val [] (.int .i64) v0_2] []) (fun st => atHead an83 0 bd83_0 st rec) (outX an83 0 0 N X) =
      f83_0b k (fun v0_2 => rec (sh sp83_0 [.val [(0, 0)] (.slice (.prod (.int .i64) (.prod .bool (.prod (.int .i64) (.prod (.int .i64) (.prod (.slice (.int .u8)) .unit)))))) v0_0, .val [] (.int .i64) v0_1, .val [] (.int .i64) v0_2] [])) (fun z0 => K [.val [] (.int .i64) z0] []) (N (sh jn83_0 [] [])) v0_0 v0_1 v0_2 := by kernel_rfl
theorem i83_0 (N : St → Option R) (X : Nat → St → Option R) (v0_0 : List ((Int × (Bool × (Int × (Int × (List Int × Unit))))))) (v0_1 : Int) (m : Nat) : ∀ (v0_2 : Int),
    iter (atHead an83 0 bd83_0) m (fun st N' => exec T an83 (modesOf F) 0 k 21 (S83 k) (ending T Try.f83 an83 0 K) bd83_0 st N' (outX an83 0 0 N X)) (sh sp83_0 [.val [(0, 0)] (.slice (.prod (.int .i64) (.prod .bool (.prod (.int .i64) (.prod (.int .i64) (.prod (.slice (.int .u8)) .unit)))))) v0_0, .val [] (.int .i64) v0_1, .val [] (.int .i64) v0_2] []) = f83_0d k (fun z0 => K [.val [] (.int .i64) z0] []) (N (sh jn83_0 [] [])) v0_0 v0_1 m v0_2 := by
  induction m with
  | zero => intros; rfl
  | succ m ih =>
    intro v0_2
    simp only [iter]
    rw [← execS_eq T an83 (modesOf F) 0 k 21 (S83 k) (L83 k K) bd83_0 (cuts_of _ _ _ _ _ _ _ _ bd83_0 (l := []) (by kernel_rfl) trivial)]
    refine (b83_0 k K _ N X v0_0 v0_1 v0_2).trans ?_
    simp only [f83_0d, ih]
theorem l83_0 (ws : List PV) (rs : List RowS) (N : St → Option R) (X : Nat → St → Option R) : L83 k K 0 ws rs N X = inner T an83 (modesOf F) 0 k 21 (S83 k) (ending T Try.f83 an83 0 K) cd83_0 (sh sp83_0 ws rs) N X := by
  show L83_0 k K ws rs N X = _
  unfold L83_0
  split
  rotate_left
  · rfl
  rename_i v0_0 v0_1 v0_2
  rw [f83_0_def]
  refine Eq.trans ?_ (show iter (atHead an83 0 bd83_0) k (fun st N' => exec T an83 (modesOf F) 0 k 21 (S83 k) (ending T Try.f83 an83 0 K) bd83_0 st N' (outX an83 0 0 N X)) (sh sp83_0 [.val [(0, 0)] (.slice (.prod (.int .i64) (.prod .bool (.prod (.int .i64) (.prod (.int .i64) (.prod (.slice (.int .u8)) .unit)))))) v0_0, .val [] (.int .i64) v0_1, .val [] (.int .i64) v0_2] []) = _ from by kernel_rfl)
  exact (i83_0 k K N X v0_0 v0_1 k v0_2).symm
end
theorem q83 (k : Nat) (a0 : List ((Int × (Bool × (Int × (Int × (List Int × Unit))))))) (K : List PV → List RowS → Option R) :
    execS T an83 (modesOf F) 0 k 21 (S83 k) (L83 k K) (ending T Try.f83 an83 0 K) (bodyOf Try.f83) ⟨argEnv 0 [.val [(0, 0)] (.slice (.prod (.int .i64) (.prod .bool (.prod (.int .i64) (.prod (.int .i64) (.prod (.slice (.int .u8)) .unit)))))) a0] (fun _ => none), rowsOf []⟩ (ending T Try.f83 an83 0 K) (fun _ _ => none) = f83d (k + 1) a0 (fun z0 => K [.val [] (.int .i64) z0] []) := by kernel_rfl
theorem e83 (k : Nat) (a0 : List ((Int × (Bool × (Int × (Int × (List Int × Unit))))))) (K : List PV → List RowS → Option R) : callC T F k 83 [.val [(0, 0)] (.slice (.prod (.int .i64) (.prod .bool (.prod (.int .i64) (.prod (.int .i64) (.prod (.slice (.int .u8)) .unit)))))) a0] [] K = f83 k a0 (fun z0 => K [.val [] (.int .i64) z0] []) := by
  rw [f83_def]
  cases k with
  | zero => rfl
  | succ k =>
    refine Eq.trans (show _ = exec T an83 (modesOf F) 0 k 21 (callC T F k) (ending T Try.f83 an83 0 K) (bodyOf Try.f83) ⟨argEnv 0 [.val [(0, 0)] (.slice (.prod (.int .i64) (.prod .bool (.prod (.int .i64) (.prod (.int .i64) (.prod (.slice (.int .u8)) .unit)))))) a0] (fun _ => none), rowsOf []⟩ (ending T Try.f83 an83 0 K) (fun _ _ => none) from by kernel_rfl) ?_
    rw [← S83_eq k, ← execS_eq T an83 (modesOf F) 0 k 21 (S83 k) (L83 k K) (bodyOf Try.f83) (cuts_of _ _ _ _ _ _ _ _ (bodyOf Try.f83) (l := [(0, sp83_0, cd83_0)]) (by kernel_rfl) ⟨l83_0 k K, trivial⟩)]
    exact q83 k a0 K
noncomputable def s83 (k : Nat) (a : List PV) (r : List RowS) (K : List PV → List RowS → Option R) : Option R := match a, r with
  | [.val [(0, 0)] (.slice (.prod (.int .i64) (.prod .bool (.prod (.int .i64) (.prod (.int .i64) (.prod (.slice (.int .u8)) .unit)))))) a0], [] => f83 k a0 (fun z0 => K [.val [] (.int .i64) z0] [])
  | a, r => callC T F k 83 a r K
theorem s83_eq (k : Nat) (a : List PV) (r : List RowS) (K : List PV → List RowS → Option R) : s83 k a r K = callC T F k 83 a r K := by
  unfold s83
  split
  · exact (e83 k _ K).symm
  · rfl
end
section
variable {R : Type}
noncomputable def S48 (k g : Nat) (a : List PV) (r : List RowS) (K : List PV → List RowS → Option R) : Option R := bif g == 35 then s35 k a r K else bif g == 41 then s41 k a r K else bif g == 70 then s70 k a r K else bif g == 75 then s75 k a r K else bif g == 83 then s83 k a r K else callC T F k g a r K
theorem S48_eq (k : Nat) : S48 (R := R) k = callC T F k := by
  funext g a r K
  exact pick_eq (fun e => by subst e; exact s35_eq k a r K) (pick_eq (fun e => by subst e; exact s41_eq k a r K) (pick_eq (fun e => by subst e; exact s70_eq k a r K) (pick_eq (fun e => by subst e; exact s75_eq k a r K) (pick_eq (fun e => by subst e; exact s83_eq k a r K) (rfl)))))
section
variable {R : Type} (k : Nat) (K : List PV → List RowS → Option R)
noncomputable def L48_0 (ws : List PV) (rs : List RowS) (N : St → Option R) (X : Nat → St → Option R) : Option R := match ws, rs with
  | [.val [] (.int .i64) v0_0, .val [] (.int .i64) v0_1, .val [] (.int .i64) v0_2, .val [] (.int .i64) v0_3, .rw 1, .rw 2, .val [(0, 0)] (.slice (.prod (.int .i64) (.prod .bool (.prod (.int .i64) (.prod (.int .i64) (.prod (.slice (.int .u8)) .unit)))))) v0_4, .val [] (.int .i64) v0_5, .val [] (.int .i64) v0_6], [⟨0, .arr [] (.int .u8) v0_7⟩, ⟨0, .arr [] (.int .i64) v0_8⟩] => f48_0 k (fun y0_4 y0_5 => N (sh jn48_0 [.val [] (.int .i64) v0_0, .val [] (.int .i64) v0_1, .val [] (.int .i64) v0_2, .val [] (.int .i64) v0_3, .rw 1, .rw 2] [⟨0, .arr [] (.int .u8) y0_4⟩, ⟨0, .arr [] (.int .i64) y0_5⟩])) v0_0 v0_1 v0_2 v0_3 v0_4 v0_5 k v0_6 v0_7 v0_8
  | ws, rs => inner T an48 (modesOf F) 0 k 152 (S48 k) (ending T Try.f48 an48 0 K) cd48_0 (sh sp48_0 ws rs) N X
noncomputable def L48_1000022 (ws : List PV) (rs : List RowS) (N : St → Option R) (X : Nat → St → Option R) : Option R := match ws, rs with
  | [.val [] (.int .i64) v22_0, .val [] (.int .i64) v22_1, .val [] (.int .i64) v22_2, .rw 1, .rw 2, .val [] (.int .i64) v22_3, .val [] (.int .i64) v22_4, .val [] .bool v22_5], [⟨0, .arr [] (.int .u8) v22_6⟩, ⟨0, .arr [] (.int .i64) v22_7⟩] => f48_1000022 k (fun yN_4 => N (sh fi48_22 [.val [] (.int .i64) v22_0, .val [] (.int .i64) v22_1, .val [] (.int .i64) v22_2, .rw 1, .rw 2, .val [] (.int .i64) v22_3, .val [] (.int .i64) yN_4] [⟨0, .arr [] (.int .u8) v22_6⟩, ⟨0, .arr [] (.int .i64) v22_7⟩])) v22_0 v22_1 v22_2 v22_3 v22_4 v22_5 v22_6 v22_7
  | ws, rs => inner T an48 (modesOf F) 0 k 152 (S48 k) (ending T Try.f48 an48 0 K) cd48_1000022 (sh sp48_1000022 ws rs) N X
noncomputable def L48_1000021 (ws : List PV) (rs : List RowS) (N : St → Option R) (X : Nat → St → Option R) : Option R := match ws, rs with
  | [.val [] (.int .i64) v21_0, .val [] (.int .i64) v21_1, .val [] (.int .i64) v21_2, .rw 1, .rw 2, .val [] (.int .i64) v21_3, .val [] (.int .i64) v21_4, .val [] .bool v21_5], [⟨0, .arr [] (.int .u8) v21_6⟩, ⟨0, .arr [] (.int .i64) v21_7⟩] => f48_1000021 k (fun yN_4 yN_5 => N (sh fi48_21 [.val [] (.int .i64) v21_0, .val [] (.int .i64) v21_1, .val [] (.int .i64) v21_2, .rw 1, .rw 2, .val [] (.int .i64) v21_3] [⟨0, .arr [] (.int .u8) yN_4⟩, ⟨0, .arr [] (.int .i64) yN_5⟩])) v21_0 v21_1 v21_2 v21_3 v21_4 v21_5 v21_6 v21_7
  | ws, rs => inner T an48 (modesOf F) 0 k 152 (S48 k) (ending T Try.f48 an48 0 K) cd48_1000021 (sh sp48_1000021 ws rs) N X
noncomputable def L48_1000035 (ws : List PV) (rs : List RowS) (N : St → Option R) (X : Nat → St → Option R) : Option R := match ws, rs with
  | [.val [] (.int .i64) v35_0, .val [] (.int .i64) v35_1, .val [] (.int .i64) v35_2, .rw 1, .rw 2, .val [] (.int .i64) v35_3, .rw 3, .val [] (.int .i64) v35_4, .ptr 4 0, .val [] (.int .i64) v35_5, .val [] (.int .i64) v35_6, .val [] .bool v35_7], [⟨0, .arr [] (.int .u8) v35_8⟩, ⟨0, .arr [] (.int .i64) v35_9⟩, ⟨0, .arr [] (.prod (.int .i64) (.prod (.int .i64) (.prod (.int .i64) (.prod (.int .i64) (.prod (.slice (.int .u8)) .unit))))) v35_10⟩, ⟨0, .vars [.val [] (.int .i64) v35_11, .val [] (.int .i64) v35_12, .val [] (.int .i64) v35_13, .val [] (.int .i64) v35_14, .rw 5]⟩, ⟨0, .arr [] (.int .u8) v35_15⟩] => f48_1000035 k (fun yN_13 => N (sh fi48_35 [.val [] (.int .i64) v35_0, .val [] (.int .i64) v35_1, .val [] (.int .i64) v35_2, .rw 1, .rw 2, .val [] (.int .i64) v35_3, .rw 3, .val [] (.int .i64) v35_4, .ptr 4 0, .val [] (.int .i64) v35_5, .val [] (.int .i64) v35_6] [⟨0, .arr [] (.int .u8) v35_8⟩, ⟨0, .arr [] (.int .i64) v35_9⟩, ⟨0, .arr [] (.prod (.int .i64) (.prod (.int .i64) (.prod (.int .i64) (.prod (.int .i64) (.prod (.slice (.int .u8)) .unit))))) v35_10⟩, ⟨0, .vars [.val [] (.int .i64) v35_11, .val [] (.int .i64) v35_12, .val [] (.int .i64) v35_13, .val [] (.int .i64) yN_13, .rw 5]⟩, ⟨0, .arr [] (.int .u8) v35_15⟩])) v35_0 v35_1 v35_2 v35_3 v35_4 v35_5 v35_6 v35_7 v35_8 v35_9 v35_10 v35_11 v35_12 v35_13 v35_14 v35_15
  | ws, rs => inner T an48 (modesOf F) 0 k 152 (S48 k) (ending T Try.f48 an48 0 K) cd48_1000035 (sh sp48_1000035 ws rs) N X
noncomputable def L48_4 (ws : List PV) (rs : List RowS) (N : St → Option R) (X : Nat → St → Option R) : Option R := match ws, rs with
  | [.val [] (.int .i64) v4_0, .val [] (.int .i64) v4_1, .val [] (.int .i64) v4_2, .rw 1, .rw 2, .val [] (.int .i64) v4_3, .rw 3, .val [] (.int .i64) v4_4, .ptr 4 0, .val [] (.int .i64) v4_5, .val [] (.int .i64) v4_6], [⟨0, .arr [] (.int .u8) v4_7⟩, ⟨0, .arr [] (.int .i64) v4_8⟩, ⟨0, .arr [] (.prod (.int .i64) (.prod (.int .i64) (.prod (.int .i64) (.prod (.int .i64) (.prod (.slice (.int .u8)) .unit))))) v4_9⟩, ⟨0, .vars [.val [] (.int .i64) v4_10, .val [] (.int .i64) v4_11, .val [] (.int .i64) v4_12, .val [] (.int .i64) v4_13, .rw 5]⟩, ⟨0, .arr [] (.int .u8) v4_14⟩] => f48_4 k (fun y4_7 y4_12 => N (sh jn48_4 [.val [] (.int .i64) v4_0, .val [] (.int .i64) v4_1, .val [] (.int .i64) v4_2, .rw 1, .rw 2, .val [] (.int .i64) v4_3, .rw 3, .ptr 4 0, .val [] (.int .i64) v4_5, .val [] (.int .i64) v4_6] [⟨0, .arr [] (.int .u8) v4_7⟩, ⟨0, .arr [] (.int .i64) y4_7⟩, ⟨0, .arr [] (.prod (.int .i64) (.prod (.int .i64) (.prod (.int .i64) (.prod (.int .i64) (.prod (.slice (.int .u8)) .unit))))) v4_9⟩, ⟨0, .vars [.val [] (.int .i64) v4_10, .val [] (.int .i64) v4_11, .val [] (.int .i64) v4_12, .val [] (.int .i64) y4_12, .rw 5]⟩, ⟨0, .arr [] (.int .u8) v4_14⟩])) v4_0 v4_1 v4_2 v4_3 v4_4 v4_5 v4_6 v4_7 v4_9 v4_10 v4_11 v4_12 v4_14 k v4_8 v4_13
  | ws, rs => inner T an48 (modesOf F) 0 k 152 (S48 k) (ending T Try.f48 an48 0 K) cd48_4 (sh sp48_4 ws rs) N X
noncomputable def L48_2 (ws : List PV) (rs : List RowS) (N : St → Option R) (X : Nat → St → Option R) : Option R := match ws, rs with
  | [.val [] (.int .i64) v2_0, .val [] (.int .i64) v2_1, .val [] (.int .i64) v2_2, .rw 1, .rw 2, .val [] (.int .i64) v2_3, .rw 3, .val [] (.int .i64) v2_4, .val [] (.int .i64) v2_5], [⟨0, .arr [] (.int .u8) v2_6⟩, ⟨0, .arr [] (.int .i64) v2_7⟩, ⟨0, .arr [] (.prod (.int .i64) (.prod (.int .i64) (.prod (.int .i64) (.prod (.int .i64) (.prod (.slice (.int .u8)) .unit))))) v2_8⟩] => f48_2 k (fun y2_0 => N (sh jn48_2 [.rw 1] [⟨0, .arr [] (.prod (.int .i64) (.prod (.int .i64) (.prod (.int .i64) (.prod (.int .i64) (.prod (.slice (.int .u8)) .unit))))) y2_0⟩])) v2_0 v2_1 v2_2 v2_3 v2_4 v2_6 k v2_5 v2_7 v2_8
  | ws, rs => inner T an48 (modesOf F) 0 k 152 (S48 k) (ending T Try.f48 an48 0 K) cd48_2 (sh sp48_2 ws rs) N X
noncomputable def L48 (id : Nat) (ws : List PV) (rs : List RowS) (N : St → Option R) (X : Nat → St → Option R) : Option R := bif id == 0 then L48_0 k K ws rs N X else bif id == 1000022 then L48_1000022 k K ws rs N X else bif id == 1000021 then L48_1000021 k K ws rs N X else bif id == 1000035 then L48_1000035 k K ws rs N X else bif id == 4 then L48_4 k K ws rs N X else bif id == 2 then L48_2 k K ws rs N X else none
theorem b48_0 (rec : St → Option R) (N : St → Option R) (X : Nat → St → Option R) (v0_0 : Int) (v0_1 : Int) (v0_2 : Int) (v0_3 : Int) (v0_4 : List ((Int × (Bool × (Int × (Int × (List Int × Unit))))))) (v0_5 : Int) (v0_6 : Int) (v0_7 : List Int) (v0_8 : List Int) :
    execS T an48 (modesOf F) 0 k 152 (S48 k) (L48 k K) (ending T Try.f48 an48 0 K) bd48_0 (sh sp48_0 [.val [] (.int .i64) v0_0, .val [] (.int .i64) v0_1, .val [] (.int .i64) v0_2, .val [] (.int .i64) v0_3, .rw 1, .rw 2, .val [(0, 0)] (.slice (.prod (.int .i64) (.prod .bool (.prod (.int .i64) (.prod (.int .i64) (.prod (.slice (.int .u8)) .unit)))))) v0_4, .val [] (.int .i64) v0_5, .val [] (.int .i64) v0_6] [⟨0, .arr [] (.int .u8) v0_7⟩, ⟨0, .arr [] (.int .i64) v0_8⟩]) (fun st => atHead an48 0 bd48_0 st rec) (outX an48 0 0 N X) =
      f48_0b k (fun v0_6 v0_7 v0_8 => rec (sh sp48_0 [.val [] (.int .i64) v0_0, .val [] (.int .i64) v0_1, .val [] (.int .i64) v0_2, .val [] (.int .i64) v0_3, .rw 1, .rw 2, .val [(0, 0)] (.slice (.prod (.int .i64) (.prod .bool (.prod (.int .i64) (.prod (.int .i64) (.prod (.slice (.int .u8)) .unit)))))) v0_4, .val [] (.int .i64) v0_5, .val [] (.int .i64) v0_6] [⟨0, .arr [] (.int .u8) v0_7⟩, ⟨0, .arr [] (.int .i64) v0_8⟩])) (fun y0_4 y0_5 => N (sh jn48_0 [.val [] (.int .i64) v0_0, .val [] (.int .i64) v0_1, .val [] (.int .i64) v0_2, .val [] (.int .i64) v0_3, .rw 1, .rw 2] [⟨0, .arr [] (.int .u8) y0_4⟩, ⟨0, .arr [] (.int .i64) y0_5⟩])) v0_0 v0_1 v0_2 v0_3 v0_4 v0_5 v0_6 v0_7 v0_8 := by kernel_rfl
theorem i48_0 (N : St → Option R) (X : Nat → St → Option R) (v0_0 : Int) (v0_1 : Int) (v0_2 : Int) (v0_3 : Int) (v0_4 : List ((Int × (Bool × (Int × (Int × (List Int × Unit))))))) (v0_5 : Int) (m : Nat) : ∀ (v0_6 : Int) (v0_7 : List Int) (v0_8 : List Int),
    iter (atHead an48 0 bd48_0) m (fun st N' => exec T an48 (modesOf F) 0 k 152 (S48 k) (ending T Try.f48 an48 0 K) bd48_0 st N' (outX an48 0 0 N X)) (sh sp48_0 [.val [] (.int .i64) v0_0, .val [] (.int .i64) v0_1, .val [] (.int .i64) v0_2, .val [] (.int .i64) v0_3, .rw 1, .rw 2, .val [(0, 0)] (.slice (.prod (.int .i64) (.prod .bool (.prod (.int .i64) (.prod (.int .i64) (.prod (.slice (.int .u8)) .unit)))))) v0_4, .val [] (.int .i64) v0_5, .val [] (.int .i64) v0_6] [⟨0, .arr [] (.int .u8) v0_7⟩, ⟨0, .arr [] (.int .i64) v0_8⟩]) = f48_0d k (fun y0_4 y0_5 => N (sh jn48_0 [.val [] (.int .i64) v0_0, .val [] (.int .i64) v0_1, .val [] (.int .i64) v0_2, .val [] (.int .i64) v0_3, .rw 1, .rw 2] [⟨0, .arr [] (.int .u8) y0_4⟩, ⟨0, .arr [] (.int .i64) y0_5⟩])) v0_0 v0_1 v0_2 v0_3 v0_4 v0_5 m v0_6 v0_7 v0_8 := by
  induction m with
  | zero => intros; rfl
  | succ m ih =>
    intro v0_6 v0_7 v0_8
    simp only [iter]
    rw [← execS_eq T an48 (modesOf F) 0 k 152 (S48 k) (L48 k K) bd48_0 (cuts_of _ _ _ _ _ _ _ _ bd48_0 (l := []) (by kernel_rfl) trivial)]
    refine (b48_0 k K _ N X v0_0 v0_1 v0_2 v0_3 v0_4 v0_5 v0_6 v0_7 v0_8).trans ?_
    simp only [f48_0d, ih]
theorem l48_0 (ws : List PV) (rs : List RowS) (N : St → Option R) (X : Nat → St → Option R) : L48 k K 0 ws rs N X = inner T an48 (modesOf F) 0 k 152 (S48 k) (ending T Try.f48 an48 0 K) cd48_0 (sh sp48_0 ws rs) N X := by
  show L48_0 k K ws rs N X = _
  unfold L48_0
  split
  rotate_left
  · rfl
  rename_i v0_0 v0_1 v0_2 v0_3 v0_4 v0_5 v0_6 v0_7 v0_8
  rw [f48_0_def]
  refine Eq.trans ?_ (show iter (atHead an48 0 bd48_0) k (fun st N' => exec T an48 (modesOf F) 0 k 152 (S48 k) (ending T Try.f48 an48 0 K) bd48_0 st N' (outX an48 0 0 N X)) (sh sp48_0 [.val [] (.int .i64) v0_0, .val [] (.int .i64) v0_1, .val [] (.int .i64) v0_2, .val [] (.int .i64) v0_3, .rw 1, .rw 2, .val [(0, 0)] (.slice (.prod (.int .i64) (.prod .bool (.prod (.int .i64) (.prod (.int .i64) (.prod (.slice (.int .u8)) .unit)))))) v0_4, .val [] (.int .i64) v0_5, .val [] (.int .i64) v0_6] [⟨0, .arr [] (.int .u8) v0_7⟩, ⟨0, .arr [] (.int .i64) v0_8⟩]) = _ from by kernel_rfl)
  exact (i48_0 k K N X v0_0 v0_1 v0_2 v0_3 v0_4 v0_5 k v0_6 v0_7 v0_8).symm
theorem b48_1000022 (N : St → Option R) (X : Nat → St → Option R) (v22_0 : Int) (v22_1 : Int) (v22_2 : Int) (v22_3 : Int) (v22_4 : Int) (v22_5 : Bool) (v22_6 : List Int) (v22_7 : List Int) :
    innerS T an48 (modesOf F) 0 k 152 (S48 k) (L48 k K) (ending T Try.f48 an48 0 K) cd48_1000022 (sh sp48_1000022 [.val [] (.int .i64) v22_0, .val [] (.int .i64) v22_1, .val [] (.int .i64) v22_2, .rw 1, .rw 2, .val [] (.int .i64) v22_3, .val [] (.int .i64) v22_4, .val [] .bool v22_5] [⟨0, .arr [] (.int .u8) v22_6⟩, ⟨0, .arr [] (.int .i64) v22_7⟩]) N X = f48_1000022d k (fun yN_4 => N (sh fi48_22 [.val [] (.int .i64) v22_0, .val [] (.int .i64) v22_1, .val [] (.int .i64) v22_2, .rw 1, .rw 2, .val [] (.int .i64) v22_3, .val [] (.int .i64) yN_4] [⟨0, .arr [] (.int .u8) v22_6⟩, ⟨0, .arr [] (.int .i64) v22_7⟩])) v22_0 v22_1 v22_2 v22_3 v22_4 v22_5 v22_6 v22_7 := by kernel_rfl
theorem l48_1000022 (ws : List PV) (rs : List RowS) (N : St → Option R) (X : Nat → St → Option R) : L48 k K 1000022 ws rs N X = inner T an48 (modesOf F) 0 k 152 (S48 k) (ending T Try.f48 an48 0 K) cd48_1000022 (sh sp48_1000022 ws rs) N X := by
  show L48_1000022 k K ws rs N X = _
  unfold L48_1000022
  split
  rotate_left
  · rfl
  rename_i v22_0 v22_1 v22_2 v22_3 v22_4 v22_5 v22_6 v22_7
  rw [f48_1000022_def]
  exact ((innerS_eq T an48 (modesOf F) 0 k 152 (S48 k) (L48 k K) cd48_1000022 (l := []) (by kernel_rfl) trivial _ N X).symm.trans (b48_1000022 k K N X v22_0 v22_1 v22_2 v22_3 v22_4 v22_5 v22_6 v22_7)).symm
theorem b48_1000021 (N : St → Option R) (X : Nat → St → Option R) (v21_0 : Int) (v21_1 : Int) (v21_2 : Int) (v21_3 : Int) (v21_4 : Int) (v21_5 : Bool) (v21_6 : List Int) (v21_7 : List Int) :
    innerS T an48 (modesOf F) 0 k 152 (S48 k) (L48 k K) (ending T Try.f48 an48 0 K) cd48_1000021 (sh sp48_1000021 [.val [] (.int .i64) v21_0, .val [] (.int .i64) v21_1, .val [] (.int .i64) v21_2, .rw 1, .rw 2, .val [] (.int .i64) v21_3, .val [] (.int .i64) v21_4, .val [] .bool v21_5] [⟨0, .arr [] (.int .u8) v21_6⟩, ⟨0, .arr [] (.int .i64) v21_7⟩]) N X = f48_1000021d k (fun yN_4 yN_5 => N (sh fi48_21 [.val [] (.int .i64) v21_0, .val [] (.int .i64) v21_1, .val [] (.int .i64) v21_2, .rw 1, .rw 2, .val [] (.int .i64) v21_3] [⟨0, .arr [] (.int .u8) yN_4⟩, ⟨0, .arr [] (.int .i64) yN_5⟩])) v21_0 v21_1 v21_2 v21_3 v21_4 v21_5 v21_6 v21_7 := by kernel_rfl
theorem l48_1000021 (ws : List PV) (rs : List RowS) (N : St → Option R) (X : Nat → St → Option R) : L48 k K 1000021 ws rs N X = inner T an48 (modesOf F) 0 k 152 (S48 k) (ending T Try.f48 an48 0 K) cd48_1000021 (sh sp48_1000021 ws rs) N X := by
  show L48_1000021 k K ws rs N X = _
  unfold L48_1000021
  split
  rotate_left
  · rfl
  rename_i v21_0 v21_1 v21_2 v21_3 v21_4 v21_5 v21_6 v21_7
  rw [f48_1000021_def]
  exact ((innerS_eq T an48 (modesOf F) 0 k 152 (S48 k) (L48 k K) cd48_1000021 (l := [(1000022, sp48_1000022, cd48_1000022)]) (by kernel_rfl) ⟨l48_1000022 k K, trivial⟩ _ N X).symm.trans (b48_1000021 k K N X v21_0 v21_1 v21_2 v21_3 v21_4 v21_5 v21_6 v21_7)).symm
theorem b48_1000035 (N : St → Option R) (X : Nat → St → Option R) (v35_0 : Int) (v35_1 : Int) (v35_2 : Int) (v35_3 : Int) (v35_4 : Int) (v35_5 : Int) (v35_6 : Int) (v35_7 : Bool) (v35_8 : List Int) (v35_9 : List Int) (v35_10 : List (Int × (Int × (Int × (Int × (List Int × Unit)))))) (v35_11 : Int) (v35_12 : Int) (v35_13 : Int) (v35_14 : Int) (v35_15 : List Int) :
    innerS T an48 (modesOf F) 0 k 152 (S48 k) (L48 k K) (ending T Try.f48 an48 0 K) cd48_1000035 (sh sp48_1000035 [.val [] (.int .i64) v35_0, .val [] (.int .i64) v35_1, .val [] (.int .i64) v35_2, .rw 1, .rw 2, .val [] (.int .i64) v35_3, .rw 3, .val [] (.int .i64) v35_4, .ptr 4 0, .val [] (.int .i64) v35_5, .val [] (.int .i64) v35_6, .val [] .bool v35_7] [⟨0, .arr [] (.int .u8) v35_8⟩, ⟨0, .arr [] (.int .i64) v35_9⟩, ⟨0, .arr [] (.prod (.int .i64) (.prod (.int .i64) (.prod (.int .i64) (.prod (.int .i64) (.prod (.slice (.int .u8)) .unit))))) v35_10⟩, ⟨0, .vars [.val [] (.int .i64) v35_11, .val [] (.int .i64) v35_12, .val [] (.int .i64) v35_13, .val [] (.int .i64) v35_14, .rw 5]⟩, ⟨0, .arr [] (.int .u8) v35_15⟩]) N X = f48_1000035d k (fun yN_13 => N (sh fi48_35 [.val [] (.int .i64) v35_0, .val [] (.int .i64) v35_1, .val [] (.int .i64) v35_2, .rw 1, .rw 2, .val [] (.int .i64) v35_3, .rw 3, .val [] (.int .i64) v35_4, .ptr 4 0, .val [] (.int .i64) v35_5, .val [] (.int .i64) v35_6] [⟨0, .arr [] (.int .u8) v35_8⟩, ⟨0, .arr [] (.int .i64) v35_9⟩, ⟨0, .arr [] (.prod (.int .i64) (.prod (.int .i64) (.prod (.int .i64) (.prod (.int .i64) (.prod (.slice (.int .u8)) .unit))))) v35_10⟩, ⟨0, .vars [.val [] (.int .i64) v35_11, .val [] (.int .i64) v35_12, .val [] (.int .i64) v35_13, .val [] (.int .i64) yN_13, .rw 5]⟩, ⟨0, .arr [] (.int .u8) v35_15⟩])) v35_0 v35_1 v35_2 v35_3 v35_4 v35_5 v35_6 v35_7 v35_8 v35_9 v35_10 v35_11 v35_12 v35_13 v35_14 v35_15 := by kernel_rfl
theorem l48_1000035 (ws : List PV) (rs : List RowS) (N : St → Option R) (X : Nat → St → Option R) : L48 k K 1000035 ws rs N X = inner T an48 (modesOf F) 0 k 152 (S48 k) (ending T Try.f48 an48 0 K) cd48_1000035 (sh sp48_1000035 ws rs) N X := by
  show L48_1000035 k K ws rs N X = _
  unfold L48_1000035
  split
  rotate_left
  · rfl
  rename_i v35_0 v35_1 v35_2 v35_3 v35_4 v35_5 v35_6 v35_7 v35_8 v35_9 v35_10 v35_11 v35_12 v35_13 v35_14 v35_15
  rw [f48_1000035_def]
  exact ((innerS_eq T an48 (modesOf F) 0 k 152 (S48 k) (L48 k K) cd48_1000035 (l := []) (by kernel_rfl) trivial _ N X).symm.trans (b48_1000035 k K N X v35_0 v35_1 v35_2 v35_3 v35_4 v35_5 v35_6 v35_7 v35_8 v35_9 v35_10 v35_11 v35_12 v35_13 v35_14 v35_15)).symm
theorem b48_4 (rec : St → Option R) (N : St → Option R) (X : Nat → St → Option R) (v4_0 : Int) (v4_1 : Int) (v4_2 : Int) (v4_3 : Int) (v4_4 : Int) (v4_5 : Int) (v4_6 : Int) (v4_7 : List Int) (v4_9 : List (Int × (Int × (Int × (Int × (List Int × Unit)))))) (v4_10 : Int) (v4_11 : Int) (v4_12 : Int) (v4_14 : List Int) (v4_8 : List Int) (v4_13 : Int) :
    execS T an48 (modesOf F) 0 k 152 (S48 k) (L48 k K) (ending T Try.f48 an48 0 K) bd48_4 (sh sp48_4 [.val [] (.int .i64) v4_0, .val [] (.int .i64) v4_1, .val [] (.int .i64) v4_2, .rw 1, .rw 2, .val [] (.int .i64) v4_3, .rw 3, .val [] (.int .i64) v4_4, .ptr 4 0, .val [] (.int .i64) v4_5, .val [] (.int .i64) v4_6] [⟨0, .arr [] (.int .u8) v4_7⟩, ⟨0, .arr [] (.int .i64) v4_8⟩, ⟨0, .arr [] (.prod (.int .i64) (.prod (.int .i64) (.prod (.int .i64) (.prod (.int .i64) (.prod (.slice (.int .u8)) .unit))))) v4_9⟩, ⟨0, .vars [.val [] (.int .i64) v4_10, .val [] (.int .i64) v4_11, .val [] (.int .i64) v4_12, .val [] (.int .i64) v4_13, .rw 5]⟩, ⟨0, .arr [] (.int .u8) v4_14⟩]) (fun st => atHead an48 0 bd48_4 st rec) (outX an48 0 4 N X) =
      f48_4b k (fun v4_8 v4_13 => rec (sh sp48_4 [.val [] (.int .i64) v4_0, .val [] (.int .i64) v4_1, .val [] (.int .i64) v4_2, .rw 1, .rw 2, .val [] (.int .i64) v4_3, .rw 3, .val [] (.int .i64) v4_4, .ptr 4 0, .val [] (.int .i64) v4_5, .val [] (.int .i64) v4_6] [⟨0, .arr [] (.int .u8) v4_7⟩, ⟨0, .arr [] (.int .i64) v4_8⟩, ⟨0, .arr [] (.prod (.int .i64) (.prod (.int .i64) (.prod (.int .i64) (.prod (.int .i64) (.prod (.slice (.int .u8)) .unit))))) v4_9⟩, ⟨0, .vars [.val [] (.int .i64) v4_10, .val [] (.int .i64) v4_11, .val [] (.int .i64) v4_12, .val [] (.int .i64) v4_13, .rw 5]⟩, ⟨0, .arr [] (.int .u8) v4_14⟩])) (fun y4_7 y4_12 => N (sh jn48_4 [.val [] (.int .i64) v4_0, .val [] (.int .i64) v4_1, .val [] (.int .i64) v4_2, .rw 1, .rw 2, .val [] (.int .i64) v4_3, .rw 3, .ptr 4 0, .val [] (.int .i64) v4_5, .val [] (.int .i64) v4_6] [⟨0, .arr [] (.int .u8) v4_7⟩, ⟨0, .arr [] (.int .i64) y4_7⟩, ⟨0, .arr [] (.prod (.int .i64) (.prod (.int .i64) (.prod (.int .i64) (.prod (.int .i64) (.prod (.slice (.int .u8)) .unit))))) v4_9⟩, ⟨0, .vars [.val [] (.int .i64) v4_10, .val [] (.int .i64) v4_11, .val [] (.int .i64) v4_12, .val [] (.int .i64) y4_12, .rw 5]⟩, ⟨0, .arr [] (.int .u8) v4_14⟩])) v4_0 v4_1 v4_2 v4_3 v4_4 v4_5 v4_6 v4_7 v4_9 v4_10 v4_11 v4_12 v4_14 v4_8 v4_13 := by kernel_rfl
theorem i48_4 (N : St → Option R) (X : Nat → St → Option R) (v4_0 : Int) (v4_1 : Int) (v4_2 : Int) (v4_3 : Int) (v4_4 : Int) (v4_5 : Int) (v4_6 : Int) (v4_7 : List Int) (v4_9 : List (Int × (Int × (Int × (Int × (List Int × Unit)))))) (v4_10 : Int) (v4_11 : Int) (v4_12 : Int) (v4_14 : List Int) (m : Nat) : ∀ (v4_8 : List Int) (v4_13 : Int),
    iter (atHead an48 0 bd48_4) m (fun st N' => exec T an48 (modesOf F) 0 k 152 (S48 k) (ending T Try.f48 an48 0 K) bd48_4 st N' (outX an48 0 4 N X)) (sh sp48_4 [.val [] (.int .i64) v4_0, .val [] (.int .i64) v4_1, .val [] (.int .i64) v4_2, .rw 1, .rw 2, .val [] (.int .i64) v4_3, .rw 3, .val [] (.int .i64) v4_4, .ptr 4 0, .val [] (.int .i64) v4_5, .val [] (.int .i64) v4_6] [⟨0, .arr [] (.int .u8) v4_7⟩, ⟨0, .arr [] (.int .i64) v4_8⟩, ⟨0, .arr [] (.prod (.int .i64) (.prod (.int .i64) (.prod (.int .i64) (.prod (.int .i64) (.prod (.slice (.int .u8)) .unit))))) v4_9⟩, ⟨0, .vars [.val [] (.int .i64) v4_10, .val [] (.int .i64) v4_11, .val [] (.int .i64) v4_12, .val [] (.int .i64) v4_13, .rw 5]⟩, ⟨0, .arr [] (.int .u8) v4_14⟩]) = f48_4d k (fun y4_7 y4_12 => N (sh jn48_4 [.val [] (.int .i64) v4_0, .val [] (.int .i64) v4_1, .val [] (.int .i64) v4_2, .rw 1, .rw 2, .val [] (.int .i64) v4_3, .rw 3, .ptr 4 0, .val [] (.int .i64) v4_5, .val [] (.int .i64) v4_6] [⟨0, .arr [] (.int .u8) v4_7⟩, ⟨0, .arr [] (.int .i64) y4_7⟩, ⟨0, .arr [] (.prod (.int .i64) (.prod (.int .i64) (.prod (.int .i64) (.prod (.int .i64) (.prod (.slice (.int .u8)) .unit))))) v4_9⟩, ⟨0, .vars [.val [] (.int .i64) v4_10, .val [] (.int .i64) v4_11, .val [] (.int .i64) v4_12, .val [] (.int .i64) y4_12, .rw 5]⟩, ⟨0, .arr [] (.int .u8) v4_14⟩])) v4_0 v4_1 v4_2 v4_3 v4_4 v4_5 v4_6 v4_7 v4_9 v4_10 v4_11 v4_12 v4_14 m v4_8 v4_13 := by
  induction m with
  | zero => intros; rfl
  | succ m ih =>
    intro v4_8 v4_13
    simp only [iter]
    rw [← execS_eq T an48 (modesOf F) 0 k 152 (S48 k) (L48 k K) bd48_4 (cuts_of _ _ _ _ _ _ _ _ bd48_4 (l := [(1000035, sp48_1000035, cd48_1000035)]) (by kernel_rfl) ⟨l48_1000035 k K, trivial⟩)]
    refine (b48_4 k K _ N X v4_0 v4_1 v4_2 v4_3 v4_4 v4_5 v4_6 v4_7 v4_9 v4_10 v4_11 v4_12 v4_14 v4_8 v4_13).trans ?_
    simp only [f48_4d, ih]
theorem l48_4 (ws : List PV) (rs : List RowS) (N : St → Option R) (X : Nat → St → Option R) : L48 k K 4 ws rs N X = inner T an48 (modesOf F) 0 k 152 (S48 k) (ending T Try.f48 an48 0 K) cd48_4 (sh sp48_4 ws rs) N X := by
  show L48_4 k K ws rs N X = _
  unfold L48_4
  split
  rotate_left
  · rfl
  rename_i v4_0 v4_1 v4_2 v4_3 v4_4 v4_5 v4_6 v4_7 v4_8 v4_9 v4_10 v4_11 v4_12 v4_13 v4_14
  rw [f48_4_def]
  refine Eq.trans ?_ (show iter (atHead an48 0 bd48_4) k (fun st N' => exec T an48 (modesOf F) 0 k 152 (S48 k) (ending T Try.f48 an48 0 K) bd48_4 st N' (outX an48 0 4 N X)) (sh sp48_4 [.val [] (.int .i64) v4_0, .val [] (.int .i64) v4_1, .val [] (.int .i64) v4_2, .rw 1, .rw 2, .val [] (.int .i64) v4_3, .rw 3, .val [] (.int .i64) v4_4, .ptr 4 0, .val [] (.int .i64) v4_5, .val [] (.int .i64) v4_6] [⟨0, .arr [] (.int .u8) v4_7⟩, ⟨0, .arr [] (.int .i64) v4_8⟩, ⟨0, .arr [] (.prod (.int .i64) (.prod (.int .i64) (.prod (.int .i64) (.prod (.int .i64) (.prod (.slice (.int .u8)) .unit))))) v4_9⟩, ⟨0, .vars [.val [] (.int .i64) v4_10, .val [] (.int .i64) v4_11, .val [] (.int .i64) v4_12, .val [] (.int .i64) v4_13, .rw 5]⟩, ⟨0, .arr [] (.int .u8) v4_14⟩]) = _ from by kernel_rfl)
  exact (i48_4 k K N X v4_0 v4_1 v4_2 v4_3 v4_4 v4_5 v4_6 v4_7 v4_9 v4_10 v4_11 v4_12 v4_14 k v4_8 v4_13).symm
theorem b48_2 (rec : St → Option R) (N : St → Option R) (X : Nat → St → Option R) (v2_0 : Int) (v2_1 : Int) (v2_2 : Int) (v2_3 : Int) (v2_4 : Int) (v2_6 : List Int) (v2_5 : Int) (v2_7 : List Int) (v2_8 : List (Int × (Int × (Int × (Int × (List Int × Unit)))))) :
    execS T an48 (modesOf F) 0 k 152 (S48 k) (L48 k K) (ending T Try.f48 an48 0 K) bd48_2 (sh sp48_2 [.val [] (.int .i64) v2_0, .val [] (.int .i64) v2_1, .val [] (.int .i64) v2_2, .rw 1, .rw 2, .val [] (.int .i64) v2_3, .rw 3, .val [] (.int .i64) v2_4, .val [] (.int .i64) v2_5] [⟨0, .arr [] (.int .u8) v2_6⟩, ⟨0, .arr [] (.int .i64) v2_7⟩, ⟨0, .arr [] (.prod (.int .i64) (.prod (.int .i64) (.prod (.int .i64) (.prod (.int .i64) (.prod (.slice (.int .u8)) .unit))))) v2_8⟩]) (fun st => atHead an48 0 bd48_2 st rec) (outX an48 0 2 N X) =
      f48_2b k (fun v2_5 v2_7 v2_8 => rec (sh sp48_2 [.val [] (.int .i64) v2_0, .val [] (.int .i64) v2_1, .val [] (.int .i64) v2_2, .rw 1, .rw 2, .val [] (.int .i64) v2_3, .rw 3, .val [] (.int .i64) v2_4, .val [] (.int .i64) v2_5] [⟨0, .arr [] (.int .u8) v2_6⟩, ⟨0, .arr [] (.int .i64) v2_7⟩, ⟨0, .arr [] (.prod (.int .i64) (.prod (.int .i64) (.prod (.int .i64) (.prod (.int .i64) (.prod (.slice (.int .u8)) .unit))))) v2_8⟩])) (fun y2_0 => N (sh jn48_2 [.rw 1] [⟨0, .arr [] (.prod (.int .i64) (.prod (.int .i64) (.prod (.int .i64) (.prod (.int .i64) (.prod (.slice (.int .u8)) .unit))))) y2_0⟩])) v2_0 v2_1 v2_2 v2_3 v2_4 v2_6 v2_5 v2_7 v2_8 := by kernel_rfl
theorem i48_2 (N : St → Option R) (X : Nat → St → Option R) (v2_0 : Int) (v2_1 : Int) (v2_2 : Int) (v2_3 : Int) (v2_4 : Int) (v2_6 : List Int) (m : Nat) : ∀ (v2_5 : Int) (v2_7 : List Int) (v2_8 : List (Int × (Int × (Int × (Int × (List Int × Unit)))))),
    iter (atHead an48 0 bd48_2) m (fun st N' => exec T an48 (modesOf F) 0 k 152 (S48 k) (ending T Try.f48 an48 0 K) bd48_2 st N' (outX an48 0 2 N X)) (sh sp48_2 [.val [] (.int .i64) v2_0, .val [] (.int .i64) v2_1, .val [] (.int .i64) v2_2, .rw 1, .rw 2, .val [] (.int .i64) v2_3, .rw 3, .val [] (.int .i64) v2_4, .val [] (.int .i64) v2_5] [⟨0, .arr [] (.int .u8) v2_6⟩, ⟨0, .arr [] (.int .i64) v2_7⟩, ⟨0, .arr [] (.prod (.int .i64) (.prod (.int .i64) (.prod (.int .i64) (.prod (.int .i64) (.prod (.slice (.int .u8)) .unit))))) v2_8⟩]) = f48_2d k (fun y2_0 => N (sh jn48_2 [.rw 1] [⟨0, .arr [] (.prod (.int .i64) (.prod (.int .i64) (.prod (.int .i64) (.prod (.int .i64) (.prod (.slice (.int .u8)) .unit))))) y2_0⟩])) v2_0 v2_1 v2_2 v2_3 v2_4 v2_6 m v2_5 v2_7 v2_8 := by
  induction m with
  | zero => intros; rfl
  | succ m ih =>
    intro v2_5 v2_7 v2_8
    simp only [iter]
    rw [← execS_eq T an48 (modesOf F) 0 k 152 (S48 k) (L48 k K) bd48_2 (cuts_of _ _ _ _ _ _ _ _ bd48_2 (l := [(4, sp48_4, cd48_4)]) (by kernel_rfl) ⟨l48_4 k K, trivial⟩)]
    refine (b48_2 k K _ N X v2_0 v2_1 v2_2 v2_3 v2_4 v2_6 v2_5 v2_7 v2_8).trans ?_
    simp only [f48_2d, ih]
theorem l48_2 (ws : List PV) (rs : List RowS) (N : St → Option R) (X : Nat → St → Option R) : L48 k K 2 ws rs N X = inner T an48 (modesOf F) 0 k 152 (S48 k) (ending T Try.f48 an48 0 K) cd48_2 (sh sp48_2 ws rs) N X := by
  show L48_2 k K ws rs N X = _
  unfold L48_2
  split
  rotate_left
  · rfl
  rename_i v2_0 v2_1 v2_2 v2_3 v2_4 v2_5 v2_6 v2_7 v2_8
  rw [f48_2_def]
  refine Eq.trans ?_ (show iter (atHead an48 0 bd48_2) k (fun st N' => exec T an48 (modesOf F) 0 k 152 (S48 k) (ending T Try.f48 an48 0 K) bd48_2 st N' (outX an48 0 2 N X)) (sh sp48_2 [.val [] (.int .i64) v2_0, .val [] (.int .i64) v2_1, .val [] (.int .i64) v2_2, .rw 1, .rw 2, .val [] (.int .i64) v2_3, .rw 3, .val [] (.int .i64) v2_4, .val [] (.int .i64) v2_5] [⟨0, .arr [] (.int .u8) v2_6⟩, ⟨0, .arr [] (.int .i64) v2_7⟩, ⟨0, .arr [] (.prod (.int .i64) (.prod (.int .i64) (.prod (.int .i64) (.prod (.int .i64) (.prod (.slice (.int .u8)) .unit))))) v2_8⟩]) = _ from by kernel_rfl)
  exact (i48_2 k K N X v2_0 v2_1 v2_2 v2_3 v2_4 v2_6 k v2_5 v2_7 v2_8).symm
end
theorem q48 (k : Nat) (a0 : Int) (a1 : Int) (a2 : Int) (a3 : Int) (a4 : List ((Int × (Bool × (Int × (Int × (List Int × Unit))))))) (K : List PV → List RowS → Option R) :
    execS T an48 (modesOf F) 0 k 152 (S48 k) (L48 k K) (ending T Try.f48 an48 0 K) (bodyOf Try.f48) ⟨argEnv 0 [.val [] (.int .i64) a0, .val [] (.int .i64) a1, .val [] (.int .i64) a2, .val [] (.int .i64) a3, .val [(0, 0)] (.slice (.prod (.int .i64) (.prod .bool (.prod (.int .i64) (.prod (.int .i64) (.prod (.slice (.int .u8)) .unit)))))) a4] (fun _ => none), rowsOf []⟩ (ending T Try.f48 an48 0 K) (fun _ _ => none) = f48d (k + 1) a0 a1 a2 a3 a4 (fun z0 z1 => K [.rw 1, .val [] (.int .i64) z0] [⟨0, .arr [] (.prod (.int .i64) (.prod (.int .i64) (.prod (.int .i64) (.prod (.int .i64) (.prod (.slice (.int .u8)) .unit))))) z1⟩]) := by kernel_rfl
theorem e48 (k : Nat) (a0 : Int) (a1 : Int) (a2 : Int) (a3 : Int) (a4 : List ((Int × (Bool × (Int × (Int × (List Int × Unit))))))) (K : List PV → List RowS → Option R) : callC T F k 48 [.val [] (.int .i64) a0, .val [] (.int .i64) a1, .val [] (.int .i64) a2, .val [] (.int .i64) a3, .val [(0, 0)] (.slice (.prod (.int .i64) (.prod .bool (.prod (.int .i64) (.prod (.int .i64) (.prod (.slice (.int .u8)) .unit)))))) a4] [] K = f48 k a0 a1 a2 a3 a4 (fun z0 z1 => K [.rw 1, .val [] (.int .i64) z0] [⟨0, .arr [] (.prod (.int .i64) (.prod (.int .i64) (.prod (.int .i64) (.prod (.int .i64) (.prod (.slice (.int .u8)) .unit))))) z1⟩]) := by
  rw [f48_def]
  cases k with
  | zero => rfl
  | succ k =>
    refine Eq.trans (show _ = exec T an48 (modesOf F) 0 k 152 (callC T F k) (ending T Try.f48 an48 0 K) (bodyOf Try.f48) ⟨argEnv 0 [.val [] (.int .i64) a0, .val [] (.int .i64) a1, .val [] (.int .i64) a2, .val [] (.int .i64) a3, .val [(0, 0)] (.slice (.prod (.int .i64) (.prod .bool (.prod (.int .i64) (.prod (.int .i64) (.prod (.slice (.int .u8)) .unit)))))) a4] (fun _ => none), rowsOf []⟩ (ending T Try.f48 an48 0 K) (fun _ _ => none) from by kernel_rfl) ?_
    rw [← S48_eq k, ← execS_eq T an48 (modesOf F) 0 k 152 (S48 k) (L48 k K) (bodyOf Try.f48) (cuts_of _ _ _ _ _ _ _ _ (bodyOf Try.f48) (l := [(0, sp48_0, cd48_0), (1000021, sp48_1000021, cd48_1000021), (2, sp48_2, cd48_2)]) (by kernel_rfl) ⟨l48_0 k K, l48_1000021 k K, l48_2 k K, trivial⟩)]
    exact q48 k a0 a1 a2 a3 a4 K
noncomputable def s48 (k : Nat) (a : List PV) (r : List RowS) (K : List PV → List RowS → Option R) : Option R := match a, r with
  | [.val [] (.int .i64) a0, .val [] (.int .i64) a1, .val [] (.int .i64) a2, .val [] (.int .i64) a3, .val [(0, 0)] (.slice (.prod (.int .i64) (.prod .bool (.prod (.int .i64) (.prod (.int .i64) (.prod (.slice (.int .u8)) .unit)))))) a4], [] => f48 k a0 a1 a2 a3 a4 (fun z0 z1 => K [.rw 1, .val [] (.int .i64) z0] [⟨0, .arr [] (.prod (.int .i64) (.prod (.int .i64) (.prod (.int .i64) (.prod (.int .i64) (.prod (.slice (.int .u8)) .unit))))) z1⟩])
  | a, r => callC T F k 48 a r K
theorem s48_eq (k : Nat) (a : List PV) (r : List RowS) (K : List PV → List RowS → Option R) : s48 k a r K = callC T F k 48 a r K := by
  unfold s48
  split
  · exact (e48 k _ _ _ _ _ K).symm
  · rfl
end
end Go.Proofs.Ytahdmfboidjkoaa.PM
