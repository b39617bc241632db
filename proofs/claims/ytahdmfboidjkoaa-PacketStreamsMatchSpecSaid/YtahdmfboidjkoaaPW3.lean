/- The small machine's run is the typed form (printed by a program of this work). -/
import Derived.Test.YtahdmfboidjkoaaPW2
set_option linter.unusedVariables false
set_option linter.unusedSimpArgs false
set_option maxRecDepth 100000
namespace Go.Proofs.Ytahdmfboidjkoaa.PM
open Go
section
variable {R : Type}
noncomputable def S7 (k g : Nat) (a : List PV) (r : List RowS) (K : List PV → List RowS → Option R) : Option R := bif g == 21 then s21 k a r K else bif g == 32 then s32 k a r K else bif g == 33 then s33 k a r K else bif g == 34 then s34 k a r K else bif g == 35 then s35 k a r K else bif g == 36 then s36 k a r K else bif g == 37 then s37 k a r K else bif g == 38 then s38 k a r K else bif g == 39 then s39 k a r K else callC T F k g a r K
theorem S7_eq (k : Nat) : S7 (R := R) k = callC T F k := by
  funext g a r K
  exact pick_eq (fun e => by subst e; exact s21_eq k a r K) (pick_eq (fun e => by subst e; exact s32_eq k a r K) (pick_eq (fun e => by subst e; exact s33_eq k a r K) (pick_eq (fun e => by subst e; exact s34_eq k a r K) (pick_eq (fun e => by subst e; exact s35_eq k a r K) (pick_eq (fun e => by subst e; exact s36_eq k a r K) (pick_eq (fun e => by subst e; exact s37_eq k a r K) (pick_eq (fun e => by subst e; exact s38_eq k a r K) (pick_eq (fun e => by subst e; exact s39_eq k a r K) (rfl)))))))))
theorem q7 (k : Nat) (a0 : Int) (a1 : Int) (a2 : Int) (a3 : Int) (a4 : List Int) (a5 : Int) (a6 : List Int) (K : List PV → List RowS → Option R) :
    execS T an7 (modesOf F) 0 k 87 (S7 k) (fun _ _ _ _ _ => none) (ending T Try.f7 an7 0 K) (bodyOf Try.f7) ⟨argEnv 0 [.agg [.val [] (.int .i64) a0, .val [] (.int .i64) a1, .val [] (.int .i64) a2, .val [] (.int .i64) a3, .val [(0, 0)] (.slice (.int .u8)) a4], .val [] (.int .i64) a5, .val [(0, 0)] (.slice (.int .u8)) a6] (fun _ => none), rowsOf []⟩ (ending T Try.f7 an7 0 K) (fun _ _ => none) = f7d (k + 1) a0 a1 a2 a3 a4 a5 a6 (fun z0 => K [.val [] .bool z0] []) := by kernel_rfl
theorem e7 (k : Nat) (a0 : Int) (a1 : Int) (a2 : Int) (a3 : Int) (a4 : List Int) (a5 : Int) (a6 : List Int) (K : List PV → List RowS → Option R) : callC T F k 7 [.agg [.val [] (.int .i64) a0, .val [] (.int .i64) a1, .val [] (.int .i64) a2, .val [] (.int .i64) a3, .val [(0, 0)] (.slice (.int .u8)) a4], .val [] (.int .i64) a5, .val [(0, 0)] (.slice (.int .u8)) a6] [] K = f7 k a0 a1 a2 a3 a4 a5 a6 (fun z0 => K [.val [] .bool z0] []) := by
  rw [f7_def]
  cases k with
  | zero => rfl
  | succ k =>
    refine Eq.trans (show _ = exec T an7 (modesOf F) 0 k 87 (callC T F k) (ending T Try.f7 an7 0 K) (bodyOf Try.f7) ⟨argEnv 0 [.agg [.val [] (.int .i64) a0, .val [] (.int .i64) a1, .val [] (.int .i64) a2, .val [] (.int .i64) a3, .val [(0, 0)] (.slice (.int .u8)) a4], .val [] (.int .i64) a5, .val [(0, 0)] (.slice (.int .u8)) a6] (fun _ => none), rowsOf []⟩ (ending T Try.f7 an7 0 K) (fun _ _ => none) from by kernel_rfl) ?_
    rw [← S7_eq k, ← execS_eq T an7 (modesOf F) 0 k 87 (S7 k) (fun _ _ _ _ _ => none) (bodyOf Try.f7) (cuts_of _ _ _ _ _ _ _ _ (bodyOf Try.f7) (l := []) (by kernel_rfl) trivial)]
    exact q7 k a0 a1 a2 a3 a4 a5 a6 K
noncomputable def s7 (k : Nat) (a : List PV) (r : List RowS) (K : List PV → List RowS → Option R) : Option R := match a, r with
  | [.agg [.val [] (.int .i64) a0, .val [] (.int .i64) a1, .val [] (.int .i64) a2, .val [] (.int .i64) a3, .val [(0, 0)] (.slice (.int .u8)) a4], .val [] (.int .i64) a5, .val [(0, 0)] (.slice (.int .u8)) a6], [] => f7 k a0 a1 a2 a3 a4 a5 a6 (fun z0 => K [.val [] .bool z0] [])
  | a, r => callC T F k 7 a r K
theorem s7_eq (k : Nat) (a : List PV) (r : List RowS) (K : List PV → List RowS → Option R) : s7 k a r K = callC T F k 7 a r K := by
  unfold s7
  split
  · exact (e7 k _ _ _ _ _ _ _ K).symm
  · rfl
end
section
variable {R : Type}
noncomputable def S42 (k g : Nat) (a : List PV) (r : List RowS) (K : List PV → List RowS → Option R) : Option R := callC T F k g a r K
theorem S42_eq (k : Nat) : S42 (R := R) k = callC T F k := by
  funext g a r K
  exact rfl
section
variable {R : Type} (k : Nat) (K : List PV → List RowS → Option R)
noncomputable def L42_1000003 (ws : List PV) (rs : List RowS) (N : St → Option R) (X : Nat → St → Option R) : Option R := match ws, rs with
  | [.val [] (.int .i64) v3_0, .val [] (.int .i64) v3_1, .val [] .bool v3_2], [] => f42_1000003 k (fun yN_0 => N (sh fi42_3 [.val [] (.int .i64) yN_0] [])) v3_0 v3_1 v3_2
  | ws, rs => inner T an42 (modesOf F) 0 k 14 (S42 k) (ending T Try.f42 an42 0 K) cd42_1000003 (sh sp42_1000003 ws rs) N X
noncomputable def L42 (id : Nat) (ws : List PV) (rs : List RowS) (N : St → Option R) (X : Nat → St → Option R) : Option R := bif id == 1000003 then L42_1000003 k K ws rs N X else none
theorem b42_1000003 (N : St → Option R) (X : Nat → St → Option R) (v3_0 : Int) (v3_1 : Int) (v3_2 : Bool) :
    innerS T an42 (modesOf F) 0 k 14 (S42 k) (L42 k K) (ending T Try.f42 an42 0 K) cd42_1000003 (sh sp42_1000003 [.val [] (.int .i64) v3_0, .val [] (.int .i64) v3_1, .val [] .bool v3_2] []) N X = f42_1000003d k (fun yN_0 => N (sh fi42_3 [.val [] (.int .i64) yN_0] [])) v3_0 v3_1 v3_2 := by kernel_rfl
theorem l42_1000003 (ws : List PV) (rs : List RowS) (N : St → Option R) (X : Nat → St → Option R) : L42 k K 1000003 ws rs N X = inner T an42 (modesOf F) 0 k 14 (S42 k) (ending T Try.f42 an42 0 K) cd42_1000003 (sh sp42_1000003 ws rs) N X := by
  show L42_1000003 k K ws rs N X = _
  unfold L42_1000003
  split
  rotate_left
  · rfl
  rename_i v3_0 v3_1 v3_2
  rw [f42_1000003_def]
  exact ((innerS_eq T an42 (modesOf F) 0 k 14 (S42 k) (L42 k K) cd42_1000003 (l := []) (by kernel_rfl) trivial _ N X).symm.trans (b42_1000003 k K N X v3_0 v3_1 v3_2)).symm
end
theorem q42 (k : Nat) (a0 : Int) (a1 : Int) (K : List PV → List RowS → Option R) :
    execS T an42 (modesOf F) 0 k 14 (S42 k) (L42 k K) (ending T Try.f42 an42 0 K) (bodyOf Try.f42) ⟨argEnv 0 [.val [] (.int .i64) a0, .val [] (.int .i64) a1] (fun _ => none), rowsOf []⟩ (ending T Try.f42 an42 0 K) (fun _ _ => none) = f42d (k + 1) a0 a1 (fun z0 => K [.val [] (.int .i64) z0] []) := by kernel_rfl
theorem e42 (k : Nat) (a0 : Int) (a1 : Int) (K : List PV → List RowS → Option R) : callC T F k 42 [.val [] (.int .i64) a0, .val [] (.int .i64) a1] [] K = f42 k a0 a1 (fun z0 => K [.val [] (.int .i64) z0] []) := by
  rw [f42_def]
  cases k with
  | zero => rfl
  | succ k =>
    refine Eq.trans (show _ = exec T an42 (modesOf F) 0 k 14 (callC T F k) (ending T Try.f42 an42 0 K) (bodyOf Try.f42) ⟨argEnv 0 [.val [] (.int .i64) a0, .val [] (.int .i64) a1] (fun _ => none), rowsOf []⟩ (ending T Try.f42 an42 0 K) (fun _ _ => none) from by kernel_rfl) ?_
    rw [← S42_eq k, ← execS_eq T an42 (modesOf F) 0 k 14 (S42 k) (L42 k K) (bodyOf Try.f42) (cuts_of _ _ _ _ _ _ _ _ (bodyOf Try.f42) (l := [(1000003, sp42_1000003, cd42_1000003)]) (by kernel_rfl) ⟨l42_1000003 k K, trivial⟩)]
    exact q42 k a0 a1 K
noncomputable def s42 (k : Nat) (a : List PV) (r : List RowS) (K : List PV → List RowS → Option R) : Option R := match a, r with
  | [.val [] (.int .i64) a0, .val [] (.int .i64) a1], [] => f42 k a0 a1 (fun z0 => K [.val [] (.int .i64) z0] [])
  | a, r => callC T F k 42 a r K
theorem s42_eq (k : Nat) (a : List PV) (r : List RowS) (K : List PV → List RowS → Option R) : s42 k a r K = callC T F k 42 a r K := by
  unfold s42
  split
  · exact (e42 k _ _ K).symm
  · rfl
end
section
variable {R : Type}
noncomputable def S8 (k g : Nat) (a : List PV) (r : List RowS) (K : List PV → List RowS → Option R) : Option R := bif g == 21 then s21 k a r K else bif g == 22 then s22 k a r K else bif g == 24 then s24 k a r K else bif g == 28 then s28 k a r K else bif g == 40 then s40 k a r K else bif g == 41 then s41 k a r K else bif g == 42 then s42 k a r K else callC T F k g a r K
theorem S8_eq (k : Nat) : S8 (R := R) k = callC T F k := by
  funext g a r K
  exact pick_eq (fun e => by subst e; exact s21_eq k a r K) (pick_eq (fun e => by subst e; exact s22_eq k a r K) (pick_eq (fun e => by subst e; exact s24_eq k a r K) (pick_eq (fun e => by subst e; exact s28_eq k a r K) (pick_eq (fun e => by subst e; exact s40_eq k a r K) (pick_eq (fun e => by subst e; exact s41_eq k a r K) (pick_eq (fun e => by subst e; exact s42_eq k a r K) (rfl)))))))
theorem q8 (k : Nat) (a0 : Int) (a1 : Bool) (a2 : Int) (a3 : Int) (a4 : List Int) (a5 : List Int) (a6 : Int) (K : List PV → List RowS → Option R) :
    execS T an8 (modesOf F) 0 k 78 (S8 k) (fun _ _ _ _ _ => none) (ending T Try.f8 an8 0 K) (bodyOf Try.f8) ⟨argEnv 0 [.agg [.val [] (.int .i64) a0, .val [] .bool a1, .val [] (.int .i64) a2, .val [] (.int .i64) a3, .val [(0, 0)] (.slice (.int .u8)) a4], .val [(0, 0)] (.slice (.int .u8)) a5, .val [] (.int .i64) a6] (fun _ => none), rowsOf []⟩ (ending T Try.f8 an8 0 K) (fun _ _ => none) = f8d (k + 1) a0 a1 a2 a3 a4 a5 a6 (fun z0 => K [.val [] .bool z0] []) := by kernel_rfl
theorem e8 (k : Nat) (a0 : Int) (a1 : Bool) (a2 : Int) (a3 : Int) (a4 : List Int) (a5 : List Int) (a6 : Int) (K : List PV → List RowS → Option R) : callC T F k 8 [.agg [.val [] (.int .i64) a0, .val [] .bool a1, .val [] (.int .i64) a2, .val [] (.int .i64) a3, .val [(0, 0)] (.slice (.int .u8)) a4], .val [(0, 0)] (.slice (.int .u8)) a5, .val [] (.int .i64) a6] [] K = f8 k a0 a1 a2 a3 a4 a5 a6 (fun z0 => K [.val [] .bool z0] []) := by
  rw [f8_def]
  cases k with
  | zero => rfl
  | succ k =>
    refine Eq.trans (show _ = exec T an8 (modesOf F) 0 k 78 (callC T F k) (ending T Try.f8 an8 0 K) (bodyOf Try.f8) ⟨argEnv 0 [.agg [.val [] (.int .i64) a0, .val [] .bool a1, .val [] (.int .i64) a2, .val [] (.int .i64) a3, .val [(0, 0)] (.slice (.int .u8)) a4], .val [(0, 0)] (.slice (.int .u8)) a5, .val [] (.int .i64) a6] (fun _ => none), rowsOf []⟩ (ending T Try.f8 an8 0 K) (fun _ _ => none) from by kernel_rfl) ?_
    rw [← S8_eq k, ← execS_eq T an8 (modesOf F) 0 k 78 (S8 k) (fun _ _ _ _ _ => none) (bodyOf Try.f8) (cuts_of _ _ _ _ _ _ _ _ (bodyOf Try.f8) (l := []) (by kernel_rfl) trivial)]
    exact q8 k a0 a1 a2 a3 a4 a5 a6 K
noncomputable def s8 (k : Nat) (a : List PV) (r : List RowS) (K : List PV → List RowS → Option R) : Option R := match a, r with
  | [.agg [.val [] (.int .i64) a0, .val [] .bool a1, .val [] (.int .i64) a2, .val [] (.int .i64) a3, .val [(0, 0)] (.slice (.int .u8)) a4], .val [(0, 0)] (.slice (.int .u8)) a5, .val [] (.int .i64) a6], [] => f8 k a0 a1 a2 a3 a4 a5 a6 (fun z0 => K [.val [] .bool z0] [])
  | a, r => callC T F k 8 a r K
theorem s8_eq (k : Nat) (a : List PV) (r : List RowS) (K : List PV → List RowS → Option R) : s8 k a r K = callC T F k 8 a r K := by
  unfold s8
  split
  · exact (e8 k _ _ _ _ _ _ _ K).symm
  · rfl
end
section
variable {R : Type}
noncomputable def S79 (k g : Nat) (a : List PV) (r : List RowS) (K : List PV → List RowS → Option R) : Option R := callC T F k g a r K
theorem S79_eq (k : Nat) : S79 (R := R) k = callC T F k := by
  funext g a r K
  exact rfl
theorem q79 (k : Nat) (K : List PV → List RowS → Option R) :
    execS T an79 (modesOf F) 0 k 2 (S79 k) (fun _ _ _ _ _ => none) (ending T Try.f79 an79 0 K) (bodyOf Try.f79) ⟨argEnv 0 [] (fun _ => none), rowsOf []⟩ (ending T Try.f79 an79 0 K) (fun _ _ => none) = f79d (k + 1) (fun z0 => K [.rw 1] [⟨0, .arr [] (.int .u8) z0⟩]) := by kernel_rfl
theorem e79 (k : Nat) (K : List PV → List RowS → Option R) : callC T F k 79 [] [] K = f79 k (fun z0 => K [.rw 1] [⟨0, .arr [] (.int .u8) z0⟩]) := by
  rw [f79_def]
  cases k with
  | zero => rfl
  | succ k =>
    refine Eq.trans (show _ = exec T an79 (modesOf F) 0 k 2 (callC T F k) (ending T Try.f79 an79 0 K) (bodyOf Try.f79) ⟨argEnv 0 [] (fun _ => none), rowsOf []⟩ (ending T Try.f79 an79 0 K) (fun _ _ => none) from by kernel_rfl) ?_
    rw [← S79_eq k, ← execS_eq T an79 (modesOf F) 0 k 2 (S79 k) (fun _ _ _ _ _ => none) (bodyOf Try.f79) (cuts_of _ _ _ _ _ _ _ _ (bodyOf Try.f79) (l := []) (by kernel_rfl) trivial)]
    exact q79 k K
noncomputable def s79 (k : Nat) (a : List PV) (r : List RowS) (K : List PV → List RowS → Option R) : Option R := match a, r with
  | [], [] => f79 k (fun z0 => K [.rw 1] [⟨0, .arr [] (.int .u8) z0⟩])
  | a, r => callC T F k 79 a r K
theorem s79_eq (k : Nat) (a : List PV) (r : List RowS) (K : List PV → List RowS → Option R) : s79 k a r K = callC T F k 79 a r K := by
  unfold s79
  split
  · exact (e79 k K).symm
  · rfl
end
section
variable {R : Type}
noncomputable def S97 (k g : Nat) (a : List PV) (r : List RowS) (K : List PV → List RowS → Option R) : Option R := bif g == 32 then s32 k a r K else bif g == 79 then s79 k a r K else callC T F k g a r K
theorem S97_eq (k : Nat) : S97 (R := R) k = callC T F k := by
  funext g a r K
  exact pick_eq (fun e => by subst e; exact s32_eq k a r K) (pick_eq (fun e => by subst e; exact s79_eq k a r K) (rfl))
theorem q97 (k : Nat) (a0 : List Int) (K : List PV → List RowS → Option R) :
    execS T an97 (modesOf F) 0 k 18 (S97 k) (fun _ _ _ _ _ => none) (ending T Try.f97 an97 0 K) (bodyOf Try.f97) ⟨argEnv 0 [.val [(0, 0)] (.slice (.int .u8)) a0] (fun _ => none), rowsOf []⟩ (ending T Try.f97 an97 0 K) (fun _ _ => none) = f97d (k + 1) a0 (fun z0 => K [.val [] .bool z0] []) := by kernel_rfl
theorem e97 (k : Nat) (a0 : List Int) (K : List PV → List RowS → Option R) : callC T F k 97 [.val [(0, 0)] (.slice (.int .u8)) a0] [] K = f97 k a0 (fun z0 => K [.val [] .bool z0] []) := by
  rw [f97_def]
  cases k with
  | zero => rfl
  | succ k =>
    refine Eq.trans (show _ = exec T an97 (modesOf F) 0 k 18 (callC T F k) (ending T Try.f97 an97 0 K) (bodyOf Try.f97) ⟨argEnv 0 [.val [(0, 0)] (.slice (.int .u8)) a0] (fun _ => none), rowsOf []⟩ (ending T Try.f97 an97 0 K) (fun _ _ => none) from by kernel_rfl) ?_
    rw [← S97_eq k, ← execS_eq T an97 (modesOf F) 0 k 18 (S97 k) (fun _ _ _ _ _ => none) (bodyOf Try.f97) (cuts_of _ _ _ _ _ _ _ _ (bodyOf Try.f97) (l := []) (by kernel_rfl) trivial)]
    exact q97 k a0 K
noncomputable def s97 (k : Nat) (a : List PV) (r : List RowS) (K : List PV → List RowS → Option R) : Option R := match a, r with
  | [.val [(0, 0)] (.slice (.int .u8)) a0], [] => f97 k a0 (fun z0 => K [.val [] .bool z0] [])
  | a, r => callC T F k 97 a r K
theorem s97_eq (k : Nat) (a : List PV) (r : List RowS) (K : List PV → List RowS → Option R) : s97 k a r K = callC T F k 97 a r K := by
  unfold s97
  split
  · exact (e97 k _ K).symm
  · rfl
end
section
variable {R : Type}
noncomputable def S80 (k g : Nat) (a : List PV) (r : List RowS) (K : List PV → List RowS → Option R) : Option R := bif g == 37 then s37 k a r K else bif g == 79 then s79 k a r K else bif g == 97 then s97 k a r K else callC T F k g a r K
theorem S80_eq (k : Nat) : S80 (R := R) k = callC T F k := by
  funext g a r K
  exact pick_eq (fun e => by subst e; exact s37_eq k a r K) (pick_eq (fun e => by subst e; exact s79_eq k a r K) (pick_eq (fun e => by subst e; exact s97_eq k a r K) (rfl)))
section
variable {R : Type} (k : Nat) (K : List PV → List RowS → Option R)
noncomputable def L80_1000011 (ws : List PV) (rs : List RowS) (N : St → Option R) (X : Nat → St → Option R) : Option R := match ws, rs with
  | [.val [(0, 0)] (.slice (.int .u8)) v11_0, .val [] (.int .i64) v11_1, .rw 1, .rw 2, .val [] (.int .i64) v11_2, .val [] (.int .i64) v11_3, .val [(0, 0)] (.slice (.int .u8)) v11_4, .val [] .bool v11_5], [⟨0, .arr [] (.prod (.int .i64) (.prod (.int .i64) (.prod (.int .i64) (.prod (.int .i64) (.prod (.slice (.int .u8)) .unit))))) v11_6⟩, ⟨0, .arr [] (.int .i64) v11_7⟩] => f80_1000011 k (fun y1_3 y1_4 y1_5 => X 1 (sh jn80_1 [.val [(0, 0)] (.slice (.int .u8)) v11_0, .val [] (.int .i64) v11_1, .rw 1, .rw 2, .val [] (.int .i64) v11_2, .val [] (.int .i64) y1_3] [⟨0, .arr [] (.prod (.int .i64) (.prod (.int .i64) (.prod (.int .i64) (.prod (.int .i64) (.prod (.slice (.int .u8)) .unit))))) y1_4⟩, ⟨0, .arr [] (.int .i64) y1_5⟩])) (N (sh fi80_11 [.val [(0, 0)] (.slice (.int .u8)) v11_0, .val [] (.int .i64) v11_1, .rw 1, .rw 2, .val [] (.int .i64) v11_2, .val [] (.int .i64) v11_3] [⟨0, .arr [] (.prod (.int .i64) (.prod (.int .i64) (.prod (.int .i64) (.prod (.int .i64) (.prod (.slice (.int .u8)) .unit))))) v11_6⟩, ⟨0, .arr [] (.int .i64) v11_7⟩])) v11_0 v11_1 v11_2 v11_3 v11_4 v11_5 v11_6 v11_7
  | ws, rs => inner T an80 (modesOf F) 0 k 63 (S80 k) (ending T Try.f80 an80 0 K) cd80_1000011 (sh sp80_1000011 ws rs) N X
noncomputable def L80_1 (ws : List PV) (rs : List RowS) (N : St → Option R) (X : Nat → St → Option R) : Option R := match ws, rs with
  | [.val [(0, 0)] (.slice (.int .u8)) v1_0, .val [] (.int .i64) v1_1, .rw 1, .rw 2, .val [] (.int .i64) v1_2, .val [] (.int .i64) v1_3], [⟨0, .arr [] (.prod (.int .i64) (.prod (.int .i64) (.prod (.int .i64) (.prod (.int .i64) (.prod (.slice (.int .u8)) .unit))))) v1_4⟩, ⟨0, .arr [] (.int .i64) v1_5⟩] => f80_1 k (X 0 (sh jn80_0 [.rw 1, .rw 2, .val [] (.int .i64) v1_3] [⟨0, .arr [] (.prod (.int .i64) (.prod (.int .i64) (.prod (.int .i64) (.prod (.int .i64) (.prod (.slice (.int .u8)) .unit))))) v1_4⟩, ⟨0, .arr [] (.int .i64) v1_5⟩])) (fun y1_3 y1_4 y1_5 => N (sh jn80_1 [.val [(0, 0)] (.slice (.int .u8)) v1_0, .val [] (.int .i64) v1_1, .rw 1, .rw 2, .val [] (.int .i64) v1_2, .val [] (.int .i64) y1_3] [⟨0, .arr [] (.prod (.int .i64) (.prod (.int .i64) (.prod (.int .i64) (.prod (.int .i64) (.prod (.slice (.int .u8)) .unit))))) y1_4⟩, ⟨0, .arr [] (.int .i64) y1_5⟩])) v1_0 v1_1 v1_2 v1_3 v1_4 v1_5
  | ws, rs => inner T an80 (modesOf F) 0 k 63 (S80 k) (ending T Try.f80 an80 0 K) cd80_1 (sh sp80_1 ws rs) N X
noncomputable def L80_0 (ws : List PV) (rs : List RowS) (N : St → Option R) (X : Nat → St → Option R) : Option R := match ws, rs with
  | [.val [(0, 0)] (.slice (.int .u8)) v0_0, .val [] (.int .i64) v0_1, .rw 1, .rw 2, .val [] (.int .i64) v0_2, .val [] (.int .i64) v0_3], [⟨0, .arr [] (.prod (.int .i64) (.prod (.int .i64) (.prod (.int .i64) (.prod (.int .i64) (.prod (.slice (.int .u8)) .unit))))) v0_4⟩, ⟨0, .arr [] (.int .i64) v0_5⟩] => f80_0 k (fun y0_0 y0_1 y0_2 => N (sh jn80_0 [.rw 1, .rw 2, .val [] (.int .i64) y0_0] [⟨0, .arr [] (.prod (.int .i64) (.prod (.int .i64) (.prod (.int .i64) (.prod (.int .i64) (.prod (.slice (.int .u8)) .unit))))) y0_1⟩, ⟨0, .arr [] (.int .i64) y0_2⟩])) v0_0 v0_1 v0_2 k v0_3 v0_4 v0_5
  | ws, rs => inner T an80 (modesOf F) 0 k 63 (S80 k) (ending T Try.f80 an80 0 K) cd80_0 (sh sp80_0 ws rs) N X
noncomputable def L80 (id : Nat) (ws : List PV) (rs : List RowS) (N : St → Option R) (X : Nat → St → Option R) : Option R := bif id == 1000011 then L80_1000011 k K ws rs N X else bif id == 1 then L80_1 k K ws rs N X else bif id == 0 then L80_0 k K ws rs N X else none
theorem b80_1000011 (N : St → Option R) (X : Nat → St → Option R) (v11_0 : List Int) (v11_1 : Int) (v11_2 : Int) (v11_3 : Int) (v11_4 : List Int) (v11_5 : Bool) (v11_6 : List (Int × (Int × (Int × (Int × (List Int × Unit)))))) (v11_7 : List Int) :
    innerS T an80 (modesOf F) 0 k 63 (S80 k) (L80 k K) (ending T Try.f80 an80 0 K) cd80_1000011 (sh sp80_1000011 [.val [(0, 0)] (.slice (.int .u8)) v11_0, .val [] (.int .i64) v11_1, .rw 1, .rw 2, .val [] (.int .i64) v11_2, .val [] (.int .i64) v11_3, .val [(0, 0)] (.slice (.int .u8)) v11_4, .val [] .bool v11_5] [⟨0, .arr [] (.prod (.int .i64) (.prod (.int .i64) (.prod (.int .i64) (.prod (.int .i64) (.prod (.slice (.int .u8)) .unit))))) v11_6⟩, ⟨0, .arr [] (.int .i64) v11_7⟩]) N X = f80_1000011d k (fun y1_3 y1_4 y1_5 => X 1 (sh jn80_1 [.val [(0, 0)] (.slice (.int .u8)) v11_0, .val [] (.int .i64) v11_1, .rw 1, .rw 2, .val [] (.int .i64) v11_2, .val [] (.int .i64) y1_3] [⟨0, .arr [] (.prod (.int .i64) (.prod (.int .i64) (.prod (.int .i64) (.prod (.int .i64) (.prod (.slice (.int .u8)) .unit))))) y1_4⟩, ⟨0, .arr [] (.int .i64) y1_5⟩])) (N (sh fi80_11 [.val [(0, 0)] (.slice (.int .u8)) v11_0, .val [] (.int .i64) v11_1, .rw 1, .rw 2, .val [] (.int .i64) v11_2, .val [] (.int .i64) v11_3] [⟨0, .arr [] (.prod (.int .i64) (.prod (.int .i64) (.prod (.int .i64) (.prod (.int .i64) (.prod (.slice (.int .u8)) .unit))))) v11_6⟩, ⟨0, .arr [] (.int .i64) v11_7⟩])) v11_0 v11_1 v11_2 v11_3 v11_4 v11_5 v11_6 v11_7 := by kernel_rfl
theorem l80_1000011 (ws : List PV) (rs : List RowS) (N : St → Option R) (X : Nat → St → Option R) : L80 k K 1000011 ws rs N X = inner T an80 (modesOf F) 0 k 63 (S80 k) (ending T Try.f80 an80 0 K) cd80_1000011 (sh sp80_1000011 ws rs) N X := by
  show L80_1000011 k K ws rs N X = _
  unfold L80_1000011
  split
  rotate_left
  · rfl
  rename_i v11_0 v11_1 v11_2 v11_3 v11_4 v11_5 v11_6 v11_7
  rw [f80_1000011_def]
  exact ((innerS_eq T an80 (modesOf F) 0 k 63 (S80 k) (L80 k K) cd80_1000011 (l := []) (by kernel_rfl) trivial _ N X).symm.trans (b80_1000011 k K N X v11_0 v11_1 v11_2 v11_3 v11_4 v11_5 v11_6 v11_7)).symm
theorem b80_1 (N : St → Option R) (X : Nat → St → Option R) (v1_0 : List Int) (v1_1 : Int) (v1_2 : Int) (v1_3 : Int) (v1_4 : List (Int × (Int × (Int × (Int × (List Int × Unit)))))) (v1_5 : List Int) :
    innerS T an80 (modesOf F) 0 k 63 (S80 k) (L80 k K) (ending T Try.f80 an80 0 K) cd80_1 (sh sp80_1 [.val [(0, 0)] (.slice (.int .u8)) v1_0, .val [] (.int .i64) v1_1, .rw 1, .rw 2, .val [] (.int .i64) v1_2, .val [] (.int .i64) v1_3] [⟨0, .arr [] (.prod (.int .i64) (.prod (.int .i64) (.prod (.int .i64) (.prod (.int .i64) (.prod (.slice (.int .u8)) .unit))))) v1_4⟩, ⟨0, .arr [] (.int .i64) v1_5⟩]) N X = f80_1d k (X 0 (sh jn80_0 [.rw 1, .rw 2, .val [] (.int .i64) v1_3] [⟨0, .arr [] (.prod (.int .i64) (.prod (.int .i64) (.prod (.int .i64) (.prod (.int .i64) (.prod (.slice (.int .u8)) .unit))))) v1_4⟩, ⟨0, .arr [] (.int .i64) v1_5⟩])) (fun y1_3 y1_4 y1_5 => N (sh jn80_1 [.val [(0, 0)] (.slice (.int .u8)) v1_0, .val [] (.int .i64) v1_1, .rw 1, .rw 2, .val [] (.int .i64) v1_2, .val [] (.int .i64) y1_3] [⟨0, .arr [] (.prod (.int .i64) (.prod (.int .i64) (.prod (.int .i64) (.prod (.int .i64) (.prod (.slice (.int .u8)) .unit))))) y1_4⟩, ⟨0, .arr [] (.int .i64) y1_5⟩])) v1_0 v1_1 v1_2 v1_3 v1_4 v1_5 := by kernel_rfl
theorem l80_1 (ws : List PV) (rs : List RowS) (N : St → Option R) (X : Nat → St → Option R) : L80 k K 1 ws rs N X = inner T an80 (modesOf F) 0 k 63 (S80 k) (ending T Try.f80 an80 0 K) cd80_1 (sh sp80_1 ws rs) N X := by
  show L80_1 k K ws rs N X = _
  unfold L80_1
  split
  rotate_left
  · rfl
  rename_i v1_0 v1_1 v1_2 v1_3 v1_4 v1_5
  rw [f80_1_def]
  exact ((innerS_eq T an80 (modesOf F) 0 k 63 (S80 k) (L80 k K) cd80_1 (l := [(1000011, sp80_1000011, cd80_1000011)]) (by kernel_rfl) ⟨l80_1000011 k K, trivial⟩ _ N X).symm.trans (b80_1 k K N X v1_0 v1_1 v1_2 v1_3 v1_4 v1_5)).symm
theorem b80_0 (rec : St → Option R) (N : St → Option R) (X : Nat → St → Option R) (v0_0 : List Int) (v0_1 : Int) (v0_2 : Int) (v0_3 : Int) (v0_4 : List (Int × (Int × (Int × (Int × (List Int × Unit)))))) (v0_5 : List Int) :
    execS T an80 (modesOf F) 0 k 63 (S80 k) (L80 k K) (ending T Try.f80 an80 0 K) bd80_0 (sh sp80_0 [.val [(0, 0)] (.slice (.int .u8)) v0_0, .val [] (.int .i64) v0_1, .rw 1, .rw 2, .val [] (.int .i64) v0_2, .val [] (.int .i64) v0_3] [⟨0, .arr [] (.prod (.int .i64) (.prod (.int .i64) (.prod (.int .i64) (.prod (.int .i64) (.prod (.slice (.int .u8)) .unit))))) v0_4⟩, ⟨0, .arr [] (.int .i64) v0_5⟩]) (fun st => atHead an80 0 bd80_0 st rec) (outX an80 0 0 N X) =
      f80_0b k (fun v0_3 v0_4 v0_5 => rec (sh sp80_0 [.val [(0, 0)] (.slice (.int .u8)) v0_0, .val [] (.int .i64) v0_1, .rw 1, .rw 2, .val [] (.int .i64) v0_2, .val [] (.int .i64) v0_3] [⟨0, .arr [] (.prod (.int .i64) (.prod (.int .i64) (.prod (.int .i64) (.prod (.int .i64) (.prod (.slice (.int .u8)) .unit))))) v0_4⟩, ⟨0, .arr [] (.int .i64) v0_5⟩])) (fun y0_0 y0_1 y0_2 => N (sh jn80_0 [.rw 1, .rw 2, .val [] (.int .i64) y0_0] [⟨0, .arr [] (.prod (.int .i64) (.prod (.int .i64) (.prod (.int .i64) (.prod (.int .i64) (.prod (.slice (.int .u8)) .unit))))) y0_1⟩, ⟨0, .arr [] (.int .i64) y0_2⟩])) v0_0 v0_1 v0_2 v0_3 v0_4 v0_5 := by kernel_rfl
theorem i80_0 (N : St → Option R) (X : Nat → St → Option R) (v0_0 : List Int) (v0_1 : Int) (v0_2 : Int) (m : Nat) : ∀ (v0_3 : Int) (v0_4 : List (Int × (Int × (Int × (Int × (List Int × Unit)))))) (v0_5 : List Int),
    iter (atHead an80 0 bd80_0) m (fun st N' => exec T an80 (modesOf F) 0 k 63 (S80 k) (ending T Try.f80 an80 0 K) bd80_0 st N' (outX an80 0 0 N X)) (sh sp80_0 [.val [(0, 0)] (.slice (.int .u8)) v0_0, .val [] (.int .i64) v0_1, .rw 1, .rw 2, .val [] (.int .i64) v0_2, .val [] (.int .i64) v0_3] [⟨0, .arr [] (.prod (.int .i64) (.prod (.int .i64) (.prod (.int .i64) (.prod (.int .i64) (.prod (.slice (.int .u8)) .unit))))) v0_4⟩, ⟨0, .arr [] (.int .i64) v0_5⟩]) = f80_0d k (fun y0_0 y0_1 y0_2 => N (sh jn80_0 [.rw 1, .rw 2, .val [] (.int .i64) y0_0] [⟨0, .arr [] (.prod (.int .i64) (.prod (.int .i64) (.prod (.int .i64) (.prod (.int .i64) (.prod (.slice (.int .u8)) .unit))))) y0_1⟩, ⟨0, .arr [] (.int .i64) y0_2⟩])) v0_0 v0_1 v0_2 m v0_3 v0_4 v0_5 := by
  induction m with
  | zero => intros; rfl
  | succ m ih =>
    intro v0_3 v0_4 v0_5
    simp only [iter]
    rw [← execS_eq T an80 (modesOf F) 0 k 63 (S80 k) (L80 k K) bd80_0 (cuts_of _ _ _ _ _ _ _ _ bd80_0 (l := [(1, sp80_1, cd80_1)]) (by kernel_rfl) ⟨l80_1 k K, trivial⟩)]
    refine (b80_0 k K _ N X v0_0 v0_1 v0_2 v0_3 v0_4 v0_5).trans ?_
    simp only [f80_0d, ih]
theorem l80_0 (ws : List PV) (rs : List RowS) (N : St → Option R) (X : Nat → St → Option R) : L80 k K 0 ws rs N X = inner T an80 (modesOf F) 0 k 63 (S80 k) (ending T Try.f80 an80 0 K) cd80_0 (sh sp80_0 ws rs) N X := by
  show L80_0 k K ws rs N X = _
  unfold L80_0
  split
  rotate_left
  · rfl
  rename_i v0_0 v0_1 v0_2 v0_3 v0_4 v0_5
  rw [f80_0_def]
  refine Eq.trans ?_ (show iter (atHead an80 0 bd80_0) k (fun st N' => exec T an80 (modesOf F) 0 k 63 (S80 k) (ending T Try.f80 an80 0 K) bd80_0 st N' (outX an80 0 0 N X)) (sh sp80_0 [.val [(0, 0)] (.slice (.int .u8)) v0_0, .val [] (.int .i64) v0_1, .rw 1, .rw 2, .val [] (.int .i64) v0_2, .val [] (.int .i64) v0_3] [⟨0, .arr [] (.prod (.int .i64) (.prod (.int .i64) (.prod (.int .i64) (.prod (.int .i64) (.prod (.slice (.int .u8)) .unit))))) v0_4⟩, ⟨0, .arr [] (.int .i64) v0_5⟩]) = _ from by kernel_rfl)
  exact (i80_0 k K N X v0_0 v0_1 v0_2 k v0_3 v0_4 v0_5).symm
end
theorem q80 (k : Nat) (a0 : List Int) (a1 : Int) (K : List PV → List RowS → Option R) :
    execS T an80 (modesOf F) 0 k 63 (S80 k) (L80 k K) (ending T Try.f80 an80 0 K) (bodyOf Try.f80) ⟨argEnv 0 [.val [(0, 0)] (.slice (.int .u8)) a0, .val [] (.int .i64) a1] (fun _ => none), rowsOf []⟩ (ending T Try.f80 an80 0 K) (fun _ _ => none) = f80d (k + 1) a0 a1 (fun z0 z1 z2 => K [.rw 1, .rw 2, .val [] (.int .i64) z0] [⟨0, .arr [] (.prod (.int .i64) (.prod (.int .i64) (.prod (.int .i64) (.prod (.int .i64) (.prod (.slice (.int .u8)) .unit))))) z1⟩, ⟨0, .arr [] (.int .i64) z2⟩]) := by kernel_rfl
theorem e80 (k : Nat) (a0 : List Int) (a1 : Int) (K : List PV → List RowS → Option R) : callC T F k 80 [.val [(0, 0)] (.slice (.int .u8)) a0, .val [] (.int .i64) a1] [] K = f80 k a0 a1 (fun z0 z1 z2 => K [.rw 1, .rw 2, .val [] (.int .i64) z0] [⟨0, .arr [] (.prod (.int .i64) (.prod (.int .i64) (.prod (.int .i64) (.prod (.int .i64) (.prod (.slice (.int .u8)) .unit))))) z1⟩, ⟨0, .arr [] (.int .i64) z2⟩]) := by
  rw [f80_def]
  cases k with
  | zero => rfl
  | succ k =>
    refine Eq.trans (show _ = exec T an80 (modesOf F) 0 k 63 (callC T F k) (ending T Try.f80 an80 0 K) (bodyOf Try.f80) ⟨argEnv 0 [.val [(0, 0)] (.slice (.int .u8)) a0, .val [] (.int .i64) a1] (fun _ => none), rowsOf []⟩ (ending T Try.f80 an80 0 K) (fun _ _ => none) from by kernel_rfl) ?_
    rw [← S80_eq k, ← execS_eq T an80 (modesOf F) 0 k 63 (S80 k) (L80 k K) (bodyOf Try.f80) (cuts_of _ _ _ _ _ _ _ _ (bodyOf Try.f80) (l := [(0, sp80_0, cd80_0)]) (by kernel_rfl) ⟨l80_0 k K, trivial⟩)]
    exact q80 k a0 a1 K
noncomputable def s80 (k : Nat) (a : List PV) (r : List RowS) (K : List PV → List RowS → Option R) : Option R := match a, r with
  | [.val [(0, 0)] (.slice (.int .u8)) a0, .val [] (.int .i64) a1], [] => f80 k a0 a1 (fun z0 z1 z2 => K [.rw 1, .rw 2, .val [] (.int .i64) z0] [⟨0, .arr [] (.prod (.int .i64) (.prod (.int .i64) (.prod (.int .i64) (.prod (.int .i64) (.prod (.slice (.int .u8)) .unit))))) z1⟩, ⟨0, .arr [] (.int .i64) z2⟩])
  | a, r => callC T F k 80 a r K
theorem s80_eq (k : Nat) (a : List PV) (r : List RowS) (K : List PV → List RowS → Option R) : s80 k a r K = callC T F k 80 a r K := by
  unfold s80
  split
  · exact (e80 k _ _ K).symm
  · rfl
end
section
variable {R : Type}
noncomputable def S43 (k g : Nat) (a : List PV) (r : List RowS) (K : List PV → List RowS → Option R) : Option R := bif g == 40 then s40 k a r K else bif g == 41 then s41 k a r K else bif g == 75 then s75 k a r K else bif g == 79 then s79 k a r K else bif g == 80 then s80 k a r K else callC T F k g a r K
theorem S43_eq (k : Nat) : S43 (R := R) k = callC T F k := by
  funext g a r K
  exact pick_eq (fun e => by subst e; exact s40_eq k a r K) (pick_eq (fun e => by subst e; exact s41_eq k a r K) (pick_eq (fun e => by subst e; exact s75_eq k a r K) (pick_eq (fun e => by subst e; exact s79_eq k a r K) (pick_eq (fun e => by subst e; exact s80_eq k a r K) (rfl)))))
theorem q43 (k : Nat) (a0 : List Int) (a1 : List Int) (a2 : Int) (K : List PV → List RowS → Option R) :
    execS T an43 (modesOf F) 0 k 48 (S43 k) (fun _ _ _ _ _ => none) (ending T Try.f43 an43 0 K) (bodyOf Try.f43) ⟨argEnv 0 [.val [(0, 0)] (.slice (.int .u8)) a0, .val [(0, 0)] (.slice (.int .u8)) a1, .val [] (.int .i64) a2] (fun _ => none), rowsOf []⟩ (ending T Try.f43 an43 0 K) (fun _ _ => none) = f43d (k + 1) a0 a1 a2 (fun z0 z1 z2 => K [.rw 1, .rw 2, .val [] (.int .i64) z0] [⟨0, .arr [] (.prod (.int .i64) (.prod (.int .i64) (.prod (.int .i64) (.prod (.int .i64) (.prod (.slice (.int .u8)) .unit))))) z1⟩, ⟨0, .arr [] (.int .u8) z2⟩]) := by kernel_rfl
theorem e43 (k : Nat) (a0 : List Int) (a1 : List Int) (a2 : Int) (K : List PV → List RowS → Option R) : callC T F k 43 [.val [(0, 0)] (.slice (.int .u8)) a0, .val [(0, 0)] (.slice (.int .u8)) a1, .val [] (.int .i64) a2] [] K = f43 k a0 a1 a2 (fun z0 z1 z2 => K [.rw 1, .rw 2, .val [] (.int .i64) z0] [⟨0, .arr [] (.prod (.int .i64) (.prod (.int .i64) (.prod (.int .i64) (.prod (.int .i64) (.prod (.slice (.int .u8)) .unit))))) z1⟩, ⟨0, .arr [] (.int .u8) z2⟩]) := by
  rw [f43_def]
  cases k with
  | zero => rfl
  | succ k =>
    refine Eq.trans (show _ = exec T an43 (modesOf F) 0 k 48 (callC T F k) (ending T Try.f43 an43 0 K) (bodyOf Try.f43) ⟨argEnv 0 [.val [(0, 0)] (.slice (.int .u8)) a0, .val [(0, 0)] (.slice (.int .u8)) a1, .val [] (.int .i64) a2] (fun _ => none), rowsOf []⟩ (ending T Try.f43 an43 0 K) (fun _ _ => none) from by kernel_rfl) ?_
    rw [← S43_eq k, ← execS_eq T an43 (modesOf F) 0 k 48 (S43 k) (fun _ _ _ _ _ => none) (bodyOf Try.f43) (cuts_of _ _ _ _ _ _ _ _ (bodyOf Try.f43) (l := []) (by kernel_rfl) trivial)]
    exact q43 k a0 a1 a2 K
noncomputable def s43 (k : Nat) (a : List PV) (r : List RowS) (K : List PV → List RowS → Option R) : Option R := match a, r with
  | [.val [(0, 0)] (.slice (.int .u8)) a0, .val [(0, 0)] (.slice (.int .u8)) a1, .val [] (.int .i64) a2], [] => f43 k a0 a1 a2 (fun z0 z1 z2 => K [.rw 1, .rw 2, .val [] (.int .i64) z0] [⟨0, .arr [] (.prod (.int .i64) (.prod (.int .i64) (.prod (.int .i64) (.prod (.int .i64) (.prod (.slice (.int .u8)) .unit))))) z1⟩, ⟨0, .arr [] (.int .u8) z2⟩])
  | a, r => callC T F k 43 a r K
theorem s43_eq (k : Nat) (a : List PV) (r : List RowS) (K : List PV → List RowS → Option R) : s43 k a r K = callC T F k 43 a r K := by
  unfold s43
  split
  · exact (e43 k _ _ _ K).symm
  · rfl
end
section
variable {R : Type}
noncomputable def S105 (k g : Nat) (a : List PV) (r : List RowS) (K : List PV → List RowS → Option R) : Option R := callC T F k g a r K
theorem S105_eq (k : Nat) : S105 (R := R) k = callC T F k := by
  funext g a r K
  exact rfl
theorem q105 (k : Nat) (a0 : List Int) (a1 : List Int) (K : List PV → List RowS → Option R) :
    execS T an105 (modesOf F) 0 k 10 (S105 k) (fun _ _ _ _ _ => none) (ending T Try.f105 an105 0 K) (bodyOf Try.f105) ⟨argEnv 0 [.val [(0, 0)] (.slice (.int .u8)) a0, .val [(0, 0)] (.slice (.int .u8)) a1] (fun _ => none), rowsOf []⟩ (ending T Try.f105 an105 0 K) (fun _ _ => none) = f105d (k + 1) a0 a1 (fun z0 => K [.val [] .bool z0] []) := by kernel_rfl
theorem e105 (k : Nat) (a0 : List Int) (a1 : List Int) (K : List PV → List RowS → Option R) : callC T F k 105 [.val [(0, 0)] (.slice (.int .u8)) a0, .val [(0, 0)] (.slice (.int .u8)) a1] [] K = f105 k a0 a1 (fun z0 => K [.val [] .bool z0] []) := by
  rw [f105_def]
  cases k with
  | zero => rfl
  | succ k =>
    refine Eq.trans (show _ = exec T an105 (modesOf F) 0 k 10 (callC T F k) (ending T Try.f105 an105 0 K) (bodyOf Try.f105) ⟨argEnv 0 [.val [(0, 0)] (.slice (.int .u8)) a0, .val [(0, 0)] (.slice (.int .u8)) a1] (fun _ => none), rowsOf []⟩ (ending T Try.f105 an105 0 K) (fun _ _ => none) from by kernel_rfl) ?_
    rw [← S105_eq k, ← execS_eq T an105 (modesOf F) 0 k 10 (S105 k) (fun _ _ _ _ _ => none) (bodyOf Try.f105) (cuts_of _ _ _ _ _ _ _ _ (bodyOf Try.f105) (l := []) (by kernel_rfl) trivial)]
    exact q105 k a0 a1 K
noncomputable def s105 (k : Nat) (a : List PV) (r : List RowS) (K : List PV → List RowS → Option R) : Option R := match a, r with
  | [.val [(0, 0)] (.slice (.int .u8)) a0, .val [(0, 0)] (.slice (.int .u8)) a1], [] => f105 k a0 a1 (fun z0 => K [.val [] .bool z0] [])
  | a, r => callC T F k 105 a r K
theorem s105_eq (k : Nat) (a : List PV) (r : List RowS) (K : List PV → List RowS → Option R) : s105 k a r K = callC T F k 105 a r K := by
  unfold s105
  split
  · exact (e105 k _ _ K).symm
  · rfl
end
section
variable {R : Type}
noncomputable def S98 (k g : Nat) (a : List PV) (r : List RowS) (K : List PV → List RowS → Option R) : Option R := bif g == 105 then s105 k a r K else callC T F k g a r K
theorem S98_eq (k : Nat) : S98 (R := R) k = callC T F k := by
  funext g a r K
  exact pick_eq (fun e => by subst e; exact s105_eq k a r K) (rfl)
theorem q98 (k : Nat) (a0 : List Int) (a1 : List Int) (K : List PV → List RowS → Option R) :
    execS T an98 (modesOf F) 0 k 18 (S98 k) (fun _ _ _ _ _ => none) (ending T Try.f98 an98 0 K) (bodyOf Try.f98) ⟨argEnv 0 [.val [(0, 0)] (.slice (.int .u8)) a0, .val [(0, 0)] (.slice (.int .u8)) a1] (fun _ => none), rowsOf []⟩ (ending T Try.f98 an98 0 K) (fun _ _ => none) = f98d (k + 1) a0 a1 (fun z0 => K [.val [] .bool z0] []) := by kernel_rfl
theorem e98 (k : Nat) (a0 : List Int) (a1 : List Int) (K : List PV → List RowS → Option R) : callC T F k 98 [.val [(0, 0)] (.slice (.int .u8)) a0, .val [(0, 0)] (.slice (.int .u8)) a1] [] K = f98 k a0 a1 (fun z0 => K [.val [] .bool z0] []) := by
  rw [f98_def]
  cases k with
  | zero => rfl
  | succ k =>
    refine Eq.trans (show _ = exec T an98 (modesOf F) 0 k 18 (callC T F k) (ending T Try.f98 an98 0 K) (bodyOf Try.f98) ⟨argEnv 0 [.val [(0, 0)] (.slice (.int .u8)) a0, .val [(0, 0)] (.slice (.int .u8)) a1] (fun _ => none), rowsOf []⟩ (ending T Try.f98 an98 0 K) (fun _ _ => none) from by kernel_rfl) ?_
    rw [← S98_eq k, ← execS_eq T an98 (modesOf F) 0 k 18 (S98 k) (fun _ _ _ _ _ => none) (bodyOf Try.f98) (cuts_of _ _ _ _ _ _ _ _ (bodyOf Try.f98) (l := []) (by kernel_rfl) trivial)]
    exact q98 k a0 a1 K
noncomputable def s98 (k : Nat) (a : List PV) (r : List RowS) (K : List PV → List RowS → Option R) : Option R := match a, r with
  | [.val [(0, 0)] (.slice (.int .u8)) a0, .val [(0, 0)] (.slice (.int .u8)) a1], [] => f98 k a0 a1 (fun z0 => K [.val [] .bool z0] [])
  | a, r => callC T F k 98 a r K
theorem s98_eq (k : Nat) (a : List PV) (r : List RowS) (K : List PV → List RowS → Option R) : s98 k a r K = callC T F k 98 a r K := by
  unfold s98
  split
  · exact (e98 k _ _ K).symm
  · rfl
end
section
variable {R : Type}
noncomputable def S81 (k g : Nat) (a : List PV) (r : List RowS) (K : List PV → List RowS → Option R) : Option R := bif g == 98 then s98 k a r K else callC T F k g a r K
theorem S81_eq (k : Nat) : S81 (R := R) k = callC T F k := by
  funext g a r K
  exact pick_eq (fun e => by subst e; exact s98_eq k a r K) (rfl)
theorem q81 (k : Nat) (a0 : List Int) (a1 : Int) (K : List PV → List RowS → Option R) :
    execS T an81 (modesOf F) 0 k 22 (S81 k) (fun _ _ _ _ _ => none) (ending T Try.f81 an81 0 K) (bodyOf Try.f81) ⟨argEnv 0 [.val [(0, 0)] (.slice (.int .u8)) a0, .val [] (.int .i64) a1] (fun _ => none), rowsOf []⟩ (ending T Try.f81 an81 0 K) (fun _ _ => none) = f81d (k + 1) a0 a1 (fun z0 => K [.val [] .bool z0] []) := by kernel_rfl
theorem e81 (k : Nat) (a0 : List Int) (a1 : Int) (K : List PV → List RowS → Option R) : callC T F k 81 [.val [(0, 0)] (.slice (.int .u8)) a0, .val [] (.int .i64) a1] [] K = f81 k a0 a1 (fun z0 => K [.val [] .bool z0] []) := by
  rw [f81_def]
  cases k with
  | zero => rfl
  | succ k =>
    refine Eq.trans (show _ = exec T an81 (modesOf F) 0 k 22 (callC T F k) (ending T Try.f81 an81 0 K) (bodyOf Try.f81) ⟨argEnv 0 [.val [(0, 0)] (.slice (.int .u8)) a0, .val [] (.int .i64) a1] (fun _ => none), rowsOf []⟩ (ending T Try.f81 an81 0 K) (fun _ _ => none) from by kernel_rfl) ?_
    rw [← S81_eq k, ← execS_eq T an81 (modesOf F) 0 k 22 (S81 k) (fun _ _ _ _ _ => none) (bodyOf Try.f81) (cuts_of _ _ _ _ _ _ _ _ (bodyOf Try.f81) (l := []) (by kernel_rfl) trivial)]
    exact q81 k a0 a1 K
noncomputable def s81 (k : Nat) (a : List PV) (r : List RowS) (K : List PV → List RowS → Option R) : Option R := match a, r with
  | [.val [(0, 0)] (.slice (.int .u8)) a0, .val [] (.int .i64) a1], [] => f81 k a0 a1 (fun z0 => K [.val [] .bool z0] [])
  | a, r => callC T F k 81 a r K
theorem s81_eq (k : Nat) (a : List PV) (r : List RowS) (K : List PV → List RowS → Option R) : s81 k a r K = callC T F k 81 a r K := by
  unfold s81
  split
  · exact (e81 k _ _ K).symm
  · rfl
end
section
variable {R : Type}
noncomputable def S82 (k g : Nat) (a : List PV) (r : List RowS) (K : List PV → List RowS → Option R) : Option R := bif g == 38 then s38 k a r K else callC T F k g a r K
theorem S82_eq (k : Nat) : S82 (R := R) k = callC T F k := by
  funext g a r K
  exact pick_eq (fun e => by subst e; exact s38_eq k a r K) (rfl)
theorem q82 (k : Nat) (a0 : List Int) (a1 : Int) (a2 : Int) (K : List PV → List RowS → Option R) :
    execS T an82 (modesOf F) 0 k 43 (S82 k) (fun _ _ _ _ _ => none) (ending T Try.f82 an82 0 K) (bodyOf Try.f82) ⟨argEnv 0 [.val [(0, 0)] (.slice (.int .u8)) a0, .val [] (.int .i64) a1, .val [] (.int .i64) a2] (fun _ => none), rowsOf []⟩ (ending T Try.f82 an82 0 K) (fun _ _ => none) = f82d (k + 1) a0 a1 a2 (fun z0 z1 z2 z3 z4 z5 => K [.agg [.val [] (.int .i64) z0, .val [] (.int .i64) z1, .val [] (.int .i64) z2, .val [] (.int .i64) z3, .rw 1], .val [] .bool z4] [⟨0, .arr [] (.int .u8) z5⟩]) := by kernel_rfl
theorem e82 (k : Nat) (a0 : List Int) (a1 : Int) (a2 : Int) (K : List PV → List RowS → Option R) : callC T F k 82 [.val [(0, 0)] (.slice (.int .u8)) a0, .val [] (.int .i64) a1, .val [] (.int .i64) a2] [] K = f82 k a0 a1 a2 (fun z0 z1 z2 z3 z4 z5 => K [.agg [.val [] (.int .i64) z0, .val [] (.int .i64) z1, .val [] (.int .i64) z2, .val [] (.int .i64) z3, .rw 1], .val [] .bool z4] [⟨0, .arr [] (.int .u8) z5⟩]) := by
  rw [f82_def]
  cases k with
  | zero => rfl
  | succ k =>
    refine Eq.trans (show _ = exec T an82 (modesOf F) 0 k 43 (callC T F k) (ending T Try.f82 an82 0 K) (bodyOf Try.f82) ⟨argEnv 0 [.val [(0, 0)] (.slice (.int .u8)) a0, .val [] (.int .i64) a1, .val [] (.int .i64) a2] (fun _ => none), rowsOf []⟩ (ending T Try.f82 an82 0 K) (fun _ _ => none) from by kernel_rfl) ?_
    rw [← S82_eq k, ← execS_eq T an82 (modesOf F) 0 k 43 (S82 k) (fun _ _ _ _ _ => none) (bodyOf Try.f82) (cuts_of _ _ _ _ _ _ _ _ (bodyOf Try.f82) (l := []) (by kernel_rfl) trivial)]
    exact q82 k a0 a1 a2 K
noncomputable def s82 (k : Nat) (a : List PV) (r : List RowS) (K : List PV → List RowS → Option R) : Option R := match a, r with
  | [.val [(0, 0)] (.slice (.int .u8)) a0, .val [] (.int .i64) a1, .val [] (.int .i64) a2], [] => f82 k a0 a1 a2 (fun z0 z1 z2 z3 z4 z5 => K [.agg [.val [] (.int .i64) z0, .val [] (.int .i64) z1, .val [] (.int .i64) z2, .val [] (.int .i64) z3, .rw 1], .val [] .bool z4] [⟨0, .arr [] (.int .u8) z5⟩])
  | a, r => callC T F k 82 a r K
theorem s82_eq (k : Nat) (a : List PV) (r : List RowS) (K : List PV → List RowS → Option R) : s82 k a r K = callC T F k 82 a r K := by
  unfold s82
  split
  · exact (e82 k _ _ _ K).symm
  · rfl
end
section
variable {R : Type}
noncomputable def S44 (k g : Nat) (a : List PV) (r : List RowS) (K : List PV → List RowS → Option R) : Option R := bif g == 40 then s40 k a r K else bif g == 41 then s41 k a r K else bif g == 76 then s76 k a r K else bif g == 81 then s81 k a r K else bif g == 82 then s82 k a r K else callC T F k g a r K
theorem S44_eq (k : Nat) : S44 (R := R) k = callC T F k := by
  funext g a r K
  exact pick_eq (fun e => by subst e; exact s40_eq k a r K) (pick_eq (fun e => by subst e; exact s41_eq k a r K) (pick_eq (fun e => by subst e; exact s76_eq k a r K) (pick_eq (fun e => by subst e; exact s81_eq k a r K) (pick_eq (fun e => by subst e; exact s82_eq k a r K) (rfl)))))
section
variable {R : Type} (k : Nat) (K : List PV → List RowS → Option R)
noncomputable def L44_1 (ws : List PV) (rs : List RowS) (N : St → Option R) (X : Nat → St → Option R) : Option R := match ws, rs with
  | [.val [] (.int .i64) v1_0, .rw 1, .rw 2, .val [] (.int .i64) v1_1], [⟨0, .arr [] (.int .u8) v1_2⟩, ⟨0, .arr [] (.prod (.int .i64) (.prod (.int .i64) (.prod (.int .i64) (.prod (.int .i64) (.prod (.slice (.int .u8)) .unit))))) v1_3⟩] => f44_1 k (fun y1_1 y1_3 => N (sh jn44_1 [.val [] (.int .i64) v1_0, .rw 1, .rw 2, .val [] (.int .i64) y1_1] [⟨0, .arr [] (.int .u8) v1_2⟩, ⟨0, .arr [] (.prod (.int .i64) (.prod (.int .i64) (.prod (.int .i64) (.prod (.int .i64) (.prod (.slice (.int .u8)) .unit))))) y1_3⟩])) v1_0 v1_1 v1_2 v1_3
  | ws, rs => inner T an44 (modesOf F) 0 k 71 (S44 k) (ending T Try.f44 an44 0 K) cd44_1 (sh sp44_1 ws rs) N X
noncomputable def L44_0 (ws : List PV) (rs : List RowS) (N : St → Option R) (X : Nat → St → Option R) : Option R := match ws, rs with
  | [.val [] (.int .i64) v0_0, .rw 1, .rw 2, .val [] (.int .i64) v0_1], [⟨0, .arr [] (.int .u8) v0_2⟩, ⟨0, .arr [] (.prod (.int .i64) (.prod (.int .i64) (.prod (.int .i64) (.prod (.int .i64) (.prod (.slice (.int .u8)) .unit))))) v0_3⟩] => f44_0 k (fun y0_0 y0_2 => N (sh jn44_0 [.rw 1, .rw 2, .val [] (.int .i64) y0_0] [⟨0, .arr [] (.int .u8) v0_2⟩, ⟨0, .arr [] (.prod (.int .i64) (.prod (.int .i64) (.prod (.int .i64) (.prod (.int .i64) (.prod (.slice (.int .u8)) .unit))))) y0_2⟩])) v0_0 v0_2 k v0_1 v0_3
  | ws, rs => inner T an44 (modesOf F) 0 k 71 (S44 k) (ending T Try.f44 an44 0 K) cd44_0 (sh sp44_0 ws rs) N X
noncomputable def L44 (id : Nat) (ws : List PV) (rs : List RowS) (N : St → Option R) (X : Nat → St → Option R) : Option R := bif id == 1 then L44_1 k K ws rs N X else bif id == 0 then L44_0 k K ws rs N X else none
theorem b44_1 (N : St → Option R) (X : Nat → St → Option R) (v1_0 : Int) (v1_1 : Int) (v1_2 : List Int) (v1_3 : List (Int × (Int × (Int × (Int × (List Int × Unit)))))) :
    innerS T an44 (modesOf F) 0 k 71 (S44 k) (L44 k K) (ending T Try.f44 an44 0 K) cd44_1 (sh sp44_1 [.val [] (.int .i64) v1_0, .rw 1, .rw 2, .val [] (.int .i64) v1_1] [⟨0, .arr [] (.int .u8) v1_2⟩, ⟨0, .arr [] (.prod (.int .i64) (.prod (.int .i64) (.prod (.int .i64) (.prod (.int .i64) (.prod (.slice (.int .u8)) .unit))))) v1_3⟩]) N X = f44_1d k (fun y1_1 y1_3 => N (sh jn44_1 [.val [] (.int .i64) v1_0, .rw 1, .rw 2, .val [] (.int .i64) y1_1] [⟨0, .arr [] (.int .u8) v1_2⟩, ⟨0, .arr [] (.prod (.int .i64) (.prod (.int .i64) (.prod (.int .i64) (.prod (.int .i64) (.prod (.slice (.int .u8)) .unit))))) y1_3⟩])) v1_0 v1_1 v1_2 v1_3 := by kernel_rfl
theorem l44_1 (ws : List PV) (rs : List RowS) (N : St → Option R) (X : Nat → St → Option R) : L44 k K 1 ws rs N X = inner T an44 (modesOf F) 0 k 71 (S44 k) (ending T Try.f44 an44 0 K) cd44_1 (sh sp44_1 ws rs) N X := by
  show L44_1 k K ws rs N X = _
  unfold L44_1
  split
  rotate_left
  · rfl
  rename_i v1_0 v1_1 v1_2 v1_3
  rw [f44_1_def]
  exact ((innerS_eq T an44 (modesOf F) 0 k 71 (S44 k) (L44 k K) cd44_1 (l := []) (by kernel_rfl) trivial _ N X).symm.trans (b44_1 k K N X v1_0 v1_1 v1_2 v1_3)).symm
theorem b44_0 (rec : St → Option R) (N : St → Option R) (X : Nat → St → Option R) (v0_0 : Int) (v0_2 : List Int) (v0_1 : Int) (v0_3 : List (Int × (Int × (Int × (Int × (List Int × Unit)))))) :
    execS T an44 (modesOf F) 0 k 71 (S44 k) (L44 k K) (ending T Try.f44 an44 0 K) bd44_0 (sh sp44_0 [.val [] (.int .i64) v0_0, .rw 1, .rw 2, .val [] (.int .i64) v0_1] [⟨0, .arr [] (.int .u8) v0_2⟩, ⟨0, .arr [] (.prod (.int .i64) (.prod (.int .i64) (.prod (.int .i64) (.prod (.int .i64) (.prod (.slice (.int .u8)) .unit))))) v0_3⟩]) (fun st => atHead an44 0 bd44_0 st rec) (outX an44 0 0 N X) =
      f44_0b k (fun v0_1 v0_3 => rec (sh sp44_0 [.val [] (.int .i64) v0_0, .rw 1, .rw 2, .val [] (.int .i64) v0_1] [⟨0, .arr [] (.int .u8) v0_2⟩, ⟨0, .arr [] (.prod (.int .i64) (.prod (.int .i64) (.prod (.int .i64) (.prod (.int .i64) (.prod (.slice (.int .u8)) .unit))))) v0_3⟩])) (fun y0_0 y0_2 => N (sh jn44_0 [.rw 1, .rw 2, .val [] (.int .i64) y0_0] [⟨0, .arr [] (.int .u8) v0_2⟩, ⟨0, .arr [] (.prod (.int .i64) (.prod (.int .i64) (.prod (.int .i64) (.prod (.int .i64) (.prod (.slice (.int .u8)) .unit))))) y0_2⟩])) v0_0 v0_2 v0_1 v0_3 := by kernel_rfl
theorem i44_0 (N : St → Option R) (X : Nat → St → Option R) (v0_0 : Int) (v0_2 : List Int) (m : Nat) : ∀ (v0_1 : Int) (v0_3 : List (Int × (Int × (Int × (Int × (List Int × Unit)))))),
    iter (atHead an44 0 bd44_0) m (fun st N' => exec T an44 (modesOf F) 0 k 71 (S44 k) (ending T Try.f44 an44 0 K) bd44_0 st N' (outX an44 0 0 N X)) (sh sp44_0 [.val [] (.int .i64) v0_0, .rw 1, .rw 2, .val [] (.int .i64) v0_1] [⟨0, .arr [] (.int .u8) v0_2⟩, ⟨0, .arr [] (.prod (.int .i64) (.prod (.int .i64) (.prod (.int .i64) (.prod (.int .i64) (.prod (.slice (.int .u8)) .unit))))) v0_3⟩]) = f44_0d k (fun y0_0 y0_2 => N (sh jn44_0 [.rw 1, .rw 2, .val [] (.int .i64) y0_0] [⟨0, .arr [] (.int .u8) v0_2⟩, ⟨0, .arr [] (.prod (.int .i64) (.prod (.int .i64) (.prod (.int .i64) (.prod (.int .i64) (.prod (.slice (.int .u8)) .unit))))) y0_2⟩])) v0_0 v0_2 m v0_1 v0_3 := by
  induction m with
  | zero => intros; rfl
  | succ m ih =>
    intro v0_1 v0_3
    simp only [iter]
    rw [← execS_eq T an44 (modesOf F) 0 k 71 (S44 k) (L44 k K) bd44_0 (cuts_of _ _ _ _ _ _ _ _ bd44_0 (l := [(1, sp44_1, cd44_1)]) (by kernel_rfl) ⟨l44_1 k K, trivial⟩)]
    refine (b44_0 k K _ N X v0_0 v0_2 v0_1 v0_3).trans ?_
    simp only [f44_0d, ih]
theorem l44_0 (ws : List PV) (rs : List RowS) (N : St → Option R) (X : Nat → St → Option R) : L44 k K 0 ws rs N X = inner T an44 (modesOf F) 0 k 71 (S44 k) (ending T Try.f44 an44 0 K) cd44_0 (sh sp44_0 ws rs) N X := by
  show L44_0 k K ws rs N X = _
  unfold L44_0
  split
  rotate_left
  · rfl
  rename_i v0_0 v0_1 v0_2 v0_3
  rw [f44_0_def]
  refine Eq.trans ?_ (show iter (atHead an44 0 bd44_0) k (fun st N' => exec T an44 (modesOf F) 0 k 71 (S44 k) (ending T Try.f44 an44 0 K) bd44_0 st N' (outX an44 0 0 N X)) (sh sp44_0 [.val [] (.int .i64) v0_0, .rw 1, .rw 2, .val [] (.int .i64) v0_1] [⟨0, .arr [] (.int .u8) v0_2⟩, ⟨0, .arr [] (.prod (.int .i64) (.prod (.int .i64) (.prod (.int .i64) (.prod (.int .i64) (.prod (.slice (.int .u8)) .unit))))) v0_3⟩]) = _ from by kernel_rfl)
  exact (i44_0 k K N X v0_0 v0_2 k v0_1 v0_3).symm
end
theorem q44 (k : Nat) (a0 : List Int) (a1 : List Int) (a2 : Int) (K : List PV → List RowS → Option R) :
    execS T an44 (modesOf F) 0 k 71 (S44 k) (L44 k K) (ending T Try.f44 an44 0 K) (bodyOf Try.f44) ⟨argEnv 0 [.val [(0, 0)] (.slice (.int .u8)) a0, .val [(0, 0)] (.slice (.int .u8)) a1, .val [] (.int .i64) a2] (fun _ => none), rowsOf []⟩ (ending T Try.f44 an44 0 K) (fun _ _ => none) = f44d (k + 1) a0 a1 a2 (fun z0 z1 z2 => K [.rw 1, .rw 2, .val [] (.int .i64) z0] [⟨0, .arr [] (.prod (.int .i64) (.prod (.int .i64) (.prod (.int .i64) (.prod (.int .i64) (.prod (.slice (.int .u8)) .unit))))) z1⟩, ⟨0, .arr [] (.int .u8) z2⟩]) := by kernel_rfl
theorem e44 (k : Nat) (a0 : List Int) (a1 : List Int) (a2 : Int) (K : List PV → List RowS → Option R) : callC T F k 44 [.val [(0, 0)] (.slice (.int .u8)) a0, .val [(0, 0)] (.slice (.int .u8)) a1, .val [] (.int .i64) a2] [] K = f44 k a0 a1 a2 (fun z0 z1 z2 => K [.rw 1, .rw 2, .val [] (.int .i64) z0] [⟨0, .arr [] (.prod (.int .i64) (.prod (.int .i64) (.prod (.int .i64) (.prod (.int .i64) (.prod (.slice (.int .u8)) .unit))))) z1⟩, ⟨0, .arr [] (.int .u8) z2⟩]) := by
  rw [f44_def]
  cases k with
  | zero => rfl
  | succ k =>
    refine Eq.trans (show _ = exec T an44 (modesOf F) 0 k 71 (callC T F k) (ending T Try.f44 an44 0 K) (bodyOf Try.f44) ⟨argEnv 0 [.val [(0, 0)] (.slice (.int .u8)) a0, .val [(0, 0)] (.slice (.int .u8)) a1, .val [] (.int .i64) a2] (fun _ => none), rowsOf []⟩ (ending T Try.f44 an44 0 K) (fun _ _ => none) from by kernel_rfl) ?_
    rw [← S44_eq k, ← execS_eq T an44 (modesOf F) 0 k 71 (S44 k) (L44 k K) (bodyOf Try.f44) (cuts_of _ _ _ _ _ _ _ _ (bodyOf Try.f44) (l := [(0, sp44_0, cd44_0)]) (by kernel_rfl) ⟨l44_0 k K, trivial⟩)]
    exact q44 k a0 a1 a2 K
noncomputable def s44 (k : Nat) (a : List PV) (r : List RowS) (K : List PV → List RowS → Option R) : Option R := match a, r with
  | [.val [(0, 0)] (.slice (.int .u8)) a0, .val [(0, 0)] (.slice (.int .u8)) a1, .val [] (.int .i64) a2], [] => f44 k a0 a1 a2 (fun z0 z1 z2 => K [.rw 1, .rw 2, .val [] (.int .i64) z0] [⟨0, .arr [] (.prod (.int .i64) (.prod (.int .i64) (.prod (.int .i64) (.prod (.int .i64) (.prod (.slice (.int .u8)) .unit))))) z1⟩, ⟨0, .arr [] (.int .u8) z2⟩])
  | a, r => callC T F k 44 a r K
theorem s44_eq (k : Nat) (a : List PV) (r : List RowS) (K : List PV → List RowS → Option R) : s44 k a r K = callC T F k 44 a r K := by
  unfold s44
  split
  · exact (e44 k _ _ _ K).symm
  · rfl
end
section
variable {R : Type}
noncomputable def S45 (k g : Nat) (a : List PV) (r : List RowS) (K : List PV → List RowS → Option R) : Option R := bif g == 39 then s39 k a r K else callC T F k g a r K
theorem S45_eq (k : Nat) : S45 (R := R) k = callC T F k := by
  funext g a r K
  exact pick_eq (fun e => by subst e; exact s39_eq k a r K) (rfl)
section
variable {R : Type} (k : Nat) (K : List PV → List RowS → Option R)
noncomputable def L45_0 (ws : List PV) (rs : List RowS) (N : St → Option R) (X : Nat → St → Option R) : Option R := match ws, rs with
  | [.val [(0, 0)] (.slice (.prod (.int .i64) (.prod (.int .i64) (.prod (.int .i64) (.prod (.int .i64) (.prod (.slice (.int .u8)) .unit)))))) v0_0, .val [(0, 0)] (.slice (.prod (.int .i64) (.prod (.int .i64) (.prod (.int .i64) (.prod (.int .i64) (.prod (.slice (.int .u8)) .unit)))))) v0_1, .val [] (.int .i64) v0_2, .val [] (.int .i64) v0_3], [] => f45_0 k (fun z0 => K [.val [] .bool z0] []) (N (sh jn45_0 [] [])) v0_0 v0_1 v0_2 k v0_3
  | ws, rs => inner T an45 (modesOf F) 0 k 27 (S45 k) (ending T Try.f45 an45 0 K) cd45_0 (sh sp45_0 ws rs) N X
noncomputable def L45 (id : Nat) (ws : List PV) (rs : List RowS) (N : St → Option R) (X : Nat → St → Option R) : Option R := bif id == 0 then L45_0 k K ws rs N X else none
theorem b45_0 (rec : St → Option R) (N : St → Option R) (X : Nat → St → Option R) (v0_0 : List ((Int × (Int × (Int × (Int × (List Int × Unit))))))) (v0_1 : List ((Int × (Int × (Int × (Int × (List Int × Unit))))))) (v0_2 : Int) (v0_3 : Int) :
    execS T an45 (modesOf F) 0 k 27 (S45 k) (L45 k K) (ending T Try.f45 an45 0 K) bd45_0 (sh sp45_0 [.val [(0, 0)] (.slice (.prod (.int .i64) (.prod (.int .i64) (.prod (.int .i64) (.prod (.int .i64) (.prod (.slice (.int .u8)) .unit)))))) v0_0, .val [(0, 0)] (.slice (.prod (.int .i64) (.prod (.int .i64) (.prod (.int .i64) (.prod (.int .i64) (.prod (.slice (.int .u8)) .unit)))))) v0_1, .val [] (.int .i64) v0_2, .val [] (.int .i64) v0_3] []) (fun st => atHead an45 0 bd45_0 st rec) (outX an45 0 0 N X) =
      f45_0b k (fun v0_3 => rec (sh sp45_0 [.val [(0, 0)] (.slice (.prod (.int .i64) (.prod (.int .i64) (.prod (.int .i64) (.prod (.int .i64) (.prod (.slice (.int .u8)) .unit)))))) v0_0, .val [(0, 0)] (.slice (.prod (.int .i64) (.prod (.int .i64) (.prod (.int .i64) (.prod (.int .i64) (.prod (.slice (.int .u8)) .unit)))))) v0_1, .val [] (.int .i64) v0_2, .val [] (.int .i64) v0_3] [])) (fun z0 => K [.val [] .bool z0] []) (N (sh jn45_0 [] [])) v0_0 v0_1 v0_2 v0_3 := by kernel_rfl
theorem i45_0 (N : St → Option R) (X : Nat → St → Option R) (v0_0 : List ((Int × (Int × (Int × (Int × (List Int × Unit))))))) (v0_1 : List ((Int × (Int × (Int × (Int × (List Int × Unit))))))) (v0_2 : Int) (m : Nat) : ∀ (v0_3 : Int),
    iter (atHead an45 0 bd45_0) m (fun st N' => exec T an45 (modesOf F) 0 k 27 (S45 k) (ending T Try.f45 an45 0 K) bd45_0 st N' (outX an45 0 0 N X)) (sh sp45_0 [.val [(0, 0)] (.slice (.prod (.int .i64) (.prod (.int .i64) (.prod (.int .i64) (.prod (.int .i64) (.prod (.slice (.int .u8)) .unit)))))) v0_0, .val [(0, 0)] (.slice (.prod (.int .i64) (.prod (.int .i64) (.prod (.int .i64) (.prod (.int .i64) (.prod (.slice (.int .u8)) .unit)))))) v0_1, .val [] (.int .i64) v0_2, .val [] (.int .i64) v0_3] []) = f45_0d k (fun z0 => K [.val [] .bool z0] []) (N (sh jn45_0 [] [])) v0_0 v0_1 v0_2 m v0_3 := by
  induction m with
  | zero => intros; rfl
  | succ m ih =>
    intro v0_3
    simp only [iter]
    rw [← execS_eq T an45 (modesOf F) 0 k 27 (S45 k) (L45 k K) bd45_0 (cuts_of _ _ _ _ _ _ _ _ bd45_0 (l := []) (by kernel_rfl) trivial)]
    refine (b45_0 k K _ N X v0_0 v0_1 v0_2 v0_3).trans ?_
    simp only [f45_0d, ih]
theorem l45_0 (ws : List PV) (rs : List RowS) (N : St → Option R) (X : Nat → St → Option R) : L45 k K 0 ws rs N X = inner T an45 (modesOf F) 0 k 27 (S45 k) (ending T Try.f45 an45 0 K) cd45_0 (sh sp45_0 ws rs) N X := by
  show L45_0 k K ws rs N X = _
  unfold L45_0
  split
  rotate_left
  · rfl
  rename_i v0_0 v0_1 v0_2 v0_3
  rw [f45_0_def]
  refine Eq.trans ?_ (show iter (atHead an45 0 bd45_0) k (fun st N' => exec T an45 (modesOf F) 0 k 27 (S45 k) (ending T Try.f45 an45 0 K) bd45_0 st N' (outX an45 0 0 N X)) (sh sp45_0 [.val [(0, 0)] (.slice (.prod (.int .i64) (.prod (.int .i64) (.prod (.int .i64) (.prod (.int .i64) (.prod (.slice (.int .u8)) .unit)))))) v0_0, .val [(0, 0)] (.slice (.prod (.int .i64) (.prod (.int .i64) (.prod (.int .i64) (.prod (.int .i64) (.prod (.slice (.int .u8)) .unit)))))) v0_1, .val [] (.int .i64) v0_2, .val [] (.int .i64) v0_3] []) = _ from by kernel_rfl)
  exact (i45_0 k K N X v0_0 v0_1 v0_2 k v0_3).symm
end
theorem q45 (k : Nat) (a0 : List ((Int × (Int × (Int × (Int × (List Int × Unit))))))) (a1 : List ((Int × (Int × (Int × (Int × (List Int × Unit))))))) (K : List PV → List RowS → Option R) :
    execS T an45 (modesOf F) 0 k 27 (S45 k) (L45 k K) (ending T Try.f45 an45 0 K) (bodyOf Try.f45) ⟨argEnv 0 [.val [(0, 0)] (.slice (.prod (.int .i64) (.prod (.int .i64) (.prod (.int .i64) (.prod (.int .i64) (.prod (.slice (.int .u8)) .unit)))))) a0, .val [(0, 0)] (.slice (.prod (.int .i64) (.prod (.int .i64) (.prod (.int .i64) (.prod (.int .i64) (.prod (.slice (.int .u8)) .unit)))))) a1] (fun _ => none), rowsOf []⟩ (ending T Try.f45 an45 0 K) (fun _ _ => none) = f45d (k + 1) a0 a1 (fun z0 => K [.val [] .bool z0] []) := by kernel_rfl
theorem e45 (k : Nat) (a0 : List ((Int × (Int × (Int × (Int × (List Int × Unit))))))) (a1 : List ((Int × (Int × (Int × (Int × (List Int × Unit))))))) (K : List PV → List RowS → Option R) : callC T F k 45 [.val [(0, 0)] (.slice (.prod (.int .i64) (.prod (.int .i64) (.prod (.int .i64) (.prod (.int .i64) (.prod (.slice (.int .u8)) .unit)))))) a0, .val [(0, 0)] (.slice (.prod (.int .i64) (.prod (.int .i64) (.prod (.int .i64) (.prod (.int .i64) (.prod (.slice (.int .u8)) .unit)))))) a1] [] K = f45 k a0 a1 (fun z0 => K [.val [] .bool z0] []) := by
  rw [f45_def]
  cases k with
  | zero => rfl
  | succ k =>
    refine Eq.trans (show _ = exec T an45 (modesOf F) 0 k 27 (callC T F k) (ending T Try.f45 an45 0 K) (bodyOf Try.f45) ⟨argEnv 0 [.val [(0, 0)] (.slice (.prod (.int .i64) (.prod (.int .i64) (.prod (.int .i64) (.prod (.int .i64) (.prod (.slice (.int .u8)) .unit)))))) a0, .val [(0, 0)] (.slice (.prod (.int .i64) (.prod (.int .i64) (.prod (.int .i64) (.prod (.int .i64) (.prod (.slice (.int .u8)) .unit)))))) a1] (fun _ => none), rowsOf []⟩ (ending T Try.f45 an45 0 K) (fun _ _ => none) from by kernel_rfl) ?_
    rw [← S45_eq k, ← execS_eq T an45 (modesOf F) 0 k 27 (S45 k) (L45 k K) (bodyOf Try.f45) (cuts_of _ _ _ _ _ _ _ _ (bodyOf Try.f45) (l := [(0, sp45_0, cd45_0)]) (by kernel_rfl) ⟨l45_0 k K, trivial⟩)]
    exact q45 k a0 a1 K
noncomputable def s45 (k : Nat) (a : List PV) (r : List RowS) (K : List PV → List RowS → Option R) : Option R := match a, r with
  | [.val [(0, 0)] (.slice (.prod (.int .i64) (.prod (.int .i64) (.prod (.int .i64) (.prod (.int .i64) (.prod (.slice (.int .u8)) .unit)))))) a0, .val [(0, 0)] (.slice (.prod (.int .i64) (.prod (.int .i64) (.prod (.int .i64) (.prod (.int .i64) (.prod (.slice (.int .u8)) .unit)))))) a1], [] => f45 k a0 a1 (fun z0 => K [.val [] .bool z0] [])
  | a, r => callC T F k 45 a r K
theorem s45_eq (k : Nat) (a : List PV) (r : List RowS) (K : List PV → List RowS → Option R) : s45 k a r K = callC T F k 45 a r K := by
  unfold s45
  split
  · exact (e45 k _ _ K).symm
  · rfl
end
end Go.Proofs.Ytahdmfboidjkoaa.PM
