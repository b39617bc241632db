/- The small machine's run is the typed form (printed by a program of this work). -/
import Derived.Test.YtahdmfboidjkoaaPW1
set_option linter.unusedVariables false
set_option linter.unusedSimpArgs false
set_option maxRecDepth 100000
namespace Go.Proofs.Ytahdmfboidjkoaa.PM
open Go
section
variable {R : Type}
noncomputable def S86 (k g : Nat) (a : List PV) (r : List RowS) (K : List PV → List RowS → Option R) : Option R := bif g == 23 then s23 k a r K else callC T F k g a r K
theorem S86_eq (k : Nat) : S86 (R := R) k = callC T F k := by
  funext g a r K
  exact pick_eq (fun e => by subst e; exact s23_eq k a r K) (rfl)
section
variable {R : Type} (k : Nat) (K : List PV → List RowS → Option R)
noncomputable def L86_1000007 (ws : List PV) (rs : List RowS) (N : St → Option R) (X : Nat → St → Option R) : Option R :=
  onShape [.ptr 1 0, .ptr 6 0, .val [] (.int .i64), .val [] .bool] [.vars [.val [] .bool, .rw 4, .rw 5, .val [] (.int .i64)], .gone, .gone, .arr [] (.int .u8), .arr [] (.prod (.int .i64) (.prod .bool (.prod (.int .i64) (.prod (.int .i64) (.prod (.slice (.int .u8)) .unit))))), .vars [.val [] (.int .i64), .val [] .bool, .val [] (.int .i64), .val [] (.int .i64), .rw 7], .arr [] (.int .u8)] (fun v => f86_1000007 k (fun yN_4 => N (sh fi86_7 [.ptr 1 0, .val [] (.int .i64) v.1.2.2.1] [⟨0, .vars [.val [] .bool v.2.1.1, .rw 4, .rw 5, .val [] (.int .i64) v.2.1.2.2.2.1]⟩, ⟨0, .gone⟩, ⟨0, .gone⟩, ⟨0, .arr [] (.int .u8) v.2.2.2.2.1⟩, ⟨0, .arr [] (.prod (.int .i64) (.prod .bool (.prod (.int .i64) (.prod (.int .i64) (.prod (.slice (.int .u8)) .unit))))) yN_4⟩])) v.1.2.2.1 v.1.2.2.2.1 v.2.1.1 v.2.1.2.2.2.1 v.2.2.2.2.1 v.2.2.2.2.2.1 v.2.2.2.2.2.2.1.1 v.2.2.2.2.2.2.1.2.1 v.2.2.2.2.2.2.1.2.2.1 v.2.2.2.2.2.2.1.2.2.2.1 v.2.2.2.2.2.2.2.1) (inner T an86 (modesOf F) 3 k 59 (S86 k) (ending T Try.f86 an86 3 K) cd86_1000007 (sh sp86_1000007 ws rs) N X) ws rs
noncomputable def L86_0 (ws : List PV) (rs : List RowS) (N : St → Option R) (X : Nat → St → Option R) : Option R :=
  onShape [.ptr 1 0] [.vars [.val [] .bool, .rw 4, .rw 5, .val [] (.int .i64)], .gone, .gone, .arr [] (.int .u8), .arr [] (.prod (.int .i64) (.prod .bool (.prod (.int .i64) (.prod (.int .i64) (.prod (.slice (.int .u8)) .unit)))))] (fun v => f86_0 k (fun z0 z1 z2 z3 => K [] [⟨0, .vars [.val [] .bool z0, .rw 4, .rw 5, .val [] (.int .i64) z1]⟩, ⟨0, .gone⟩, ⟨0, .gone⟩, ⟨0, .arr [] (.int .u8) z2⟩, ⟨0, .arr [] (.prod (.int .i64) (.prod .bool (.prod (.int .i64) (.prod (.int .i64) (.prod (.slice (.int .u8)) .unit))))) z3⟩]) (fun y0_2 y0_3 => N (sh jn86_0 [] [⟨0, .vars [.val [] .bool v.2.1.1, .rw 4, .rw 5, .val [] (.int .i64) v.2.1.2.2.2.1]⟩, ⟨0, .gone⟩, ⟨0, .gone⟩, ⟨0, .arr [] (.int .u8) y0_2⟩, ⟨0, .arr [] (.prod (.int .i64) (.prod .bool (.prod (.int .i64) (.prod (.int .i64) (.prod (.slice (.int .u8)) .unit))))) y0_3⟩])) v.2.1.1 v.2.1.2.2.2.1 k v.2.2.2.2.1 v.2.2.2.2.2.1) (inner T an86 (modesOf F) 3 k 59 (S86 k) (ending T Try.f86 an86 3 K) cd86_0 (sh sp86_0 ws rs) N X) ws rs
noncomputable def L86 (id : Nat) (ws : List PV) (rs : List RowS) (N : St → Option R) (X : Nat → St → Option R) : Option R := bif id == 1000007 then L86_1000007 k K ws rs N X else bif id == 0 then L86_0 k K ws rs N X else none
theorem l86_1000007 (ws : List PV) (rs : List RowS) (N : St → Option R) (X : Nat → St → Option R) : L86 k K 1000007 ws rs N X = inner T an86 (modesOf F) 3 k 59 (S86 k) (ending T Try.f86 an86 3 K) cd86_1000007 (sh sp86_1000007 ws rs) N X := by
  show L86_1000007 k K ws rs N X = _
  unfold L86_1000007
  rw [f86_1000007_def]
  exact onShape_eq (a := [.ptr 1 0, .ptr 6 0, .val [] (.int .i64), .val [] .bool]) (b := [.vars [.val [] .bool, .rw 4, .rw 5, .val [] (.int .i64)], .gone, .gone, .arr [] (.int .u8), .arr [] (.prod (.int .i64) (.prod .bool (.prod (.int .i64) (.prod (.int .i64) (.prod (.slice (.int .u8)) .unit))))), .vars [.val [] (.int .i64), .val [] .bool, .val [] (.int .i64), .val [] (.int .i64), .rw 7], .arr [] (.int .u8)]) (G := fun ws rs => inner T an86 (modesOf F) 3 k 59 (S86 k) (ending T Try.f86 an86 3 K) cd86_1000007 (sh sp86_1000007 ws rs) N X) (fun x y => Eq.trans (by kernel_rfl) (innerS_eq T an86 (modesOf F) 3 k 59 (S86 k) (L86 k K) cd86_1000007 (l := []) (by kernel_rfl) trivial _ N X)) ws rs
theorem b86_0 (rec : St → Option R) (N : St → Option R) (X : Nat → St → Option R) (v0_0 : Bool) (v0_1 : Int) (v0_2 : List Int) (v0_3 : List (Int × (Bool × (Int × (Int × (List Int × Unit)))))) :
    execS T an86 (modesOf F) 3 k 59 (S86 k) (L86 k K) (ending T Try.f86 an86 3 K) bd86_0 (sh sp86_0 [.ptr 1 0] [⟨0, .vars [.val [] .bool v0_0, .rw 4, .rw 5, .val [] (.int .i64) v0_1]⟩, ⟨0, .gone⟩, ⟨0, .gone⟩, ⟨0, .arr [] (.int .u8) v0_2⟩, ⟨0, .arr [] (.prod (.int .i64) (.prod .bool (.prod (.int .i64) (.prod (.int .i64) (.prod (.slice (.int .u8)) .unit))))) v0_3⟩]) (fun st => atHead an86 3 bd86_0 st rec) (outX an86 3 0 N X) =
      f86_0b k (fun v0_2 v0_3 => rec (sh sp86_0 [.ptr 1 0] [⟨0, .vars [.val [] .bool v0_0, .rw 4, .rw 5, .val [] (.int .i64) v0_1]⟩, ⟨0, .gone⟩, ⟨0, .gone⟩, ⟨0, .arr [] (.int .u8) v0_2⟩, ⟨0, .arr [] (.prod (.int .i64) (.prod .bool (.prod (.int .i64) (.prod (.int .i64) (.prod (.slice (.int .u8)) .unit))))) v0_3⟩])) (fun z0 z1 z2 z3 => K [] [⟨0, .vars [.val [] .bool z0, .rw 4, .rw 5, .val [] (.int .i64) z1]⟩, ⟨0, .gone⟩, ⟨0, .gone⟩, ⟨0, .arr [] (.int .u8) z2⟩, ⟨0, .arr [] (.prod (.int .i64) (.prod .bool (.prod (.int .i64) (.prod (.int .i64) (.prod (.slice (.int .u8)) .unit))))) z3⟩]) (fun y0_2 y0_3 => N (sh jn86_0 [] [⟨0, .vars [.val [] .bool v0_0, .rw 4, .rw 5, .val [] (.int .i64) v0_1]⟩, ⟨0, .gone⟩, ⟨0, .gone⟩, ⟨0, .arr [] (.int .u8) y0_2⟩, ⟨0, .arr [] (.prod (.int .i64) (.prod .bool (.prod (.int .i64) (.prod (.int .i64) (.prod (.slice (.int .u8)) .unit))))) y0_3⟩])) v0_0 v0_1 v0_2 v0_3 := by kernel_rfl
theorem i86_0 (N : St → Option R) (X : Nat → St → Option R) (v0_0 : Bool) (v0_1 : Int) (m : Nat) : ∀ (v0_2 : List Int) (v0_3 : List (Int × (Bool × (Int × (Int × (List Int × Unit)))))),
    iter (atHead an86 3 bd86_0) m (fun st N' => exec T an86 (modesOf F) 3 k 59 (S86 k) (ending T Try.f86 an86 3 K) bd86_0 st N' (outX an86 3 0 N X)) (sh sp86_0 [.ptr 1 0] [⟨0, .vars [.val [] .bool v0_0, .rw 4, .rw 5, .val [] (.int .i64) v0_1]⟩, ⟨0, .gone⟩, ⟨0, .gone⟩, ⟨0, .arr [] (.int .u8) v0_2⟩, ⟨0, .arr [] (.prod (.int .i64) (.prod .bool (.prod (.int .i64) (.prod (.int .i64) (.prod (.slice (.int .u8)) .unit))))) v0_3⟩]) = f86_0d k (fun z0 z1 z2 z3 => K [] [⟨0, .vars [.val [] .bool z0, .rw 4, .rw 5, .val [] (.int .i64) z1]⟩, ⟨0, .gone⟩, ⟨0, .gone⟩, ⟨0, .arr [] (.int .u8) z2⟩, ⟨0, .arr [] (.prod (.int .i64) (.prod .bool (.prod (.int .i64) (.prod (.int .i64) (.prod (.slice (.int .u8)) .unit))))) z3⟩]) (fun y0_2 y0_3 => N (sh jn86_0 [] [⟨0, .vars [.val [] .bool v0_0, .rw 4, .rw 5, .val [] (.int .i64) v0_1]⟩, ⟨0, .gone⟩, ⟨0, .gone⟩, ⟨0, .arr [] (.int .u8) y0_2⟩, ⟨0, .arr [] (.prod (.int .i64) (.prod .bool (.prod (.int .i64) (.prod (.int .i64) (.prod (.slice (.int .u8)) .unit))))) y0_3⟩])) v0_0 v0_1 m v0_2 v0_3 := by
  induction m with
  | zero => intros; rfl
  | succ m ih =>
    intro v0_2 v0_3
    simp only [iter]
    rw [← execS_eq T an86 (modesOf F) 3 k 59 (S86 k) (L86 k K) bd86_0 (cuts_of _ _ _ _ _ _ _ _ bd86_0 (l := [(1000007, sp86_1000007, cd86_1000007)]) (by kernel_rfl) ⟨l86_1000007 k K, trivial⟩)]
    refine (b86_0 k K _ N X v0_0 v0_1 v0_2 v0_3).trans ?_
    simp only [f86_0d, ih]
theorem l86_0 (ws : List PV) (rs : List RowS) (N : St → Option R) (X : Nat → St → Option R) : L86 k K 0 ws rs N X = inner T an86 (modesOf F) 3 k 59 (S86 k) (ending T Try.f86 an86 3 K) cd86_0 (sh sp86_0 ws rs) N X := by
  show L86_0 k K ws rs N X = _
  unfold L86_0
  rw [f86_0_def]
  exact onShape_eq (a := [.ptr 1 0]) (b := [.vars [.val [] .bool, .rw 4, .rw 5, .val [] (.int .i64)], .gone, .gone, .arr [] (.int .u8), .arr [] (.prod (.int .i64) (.prod .bool (.prod (.int .i64) (.prod (.int .i64) (.prod (.slice (.int .u8)) .unit)))))]) (G := fun ws rs => inner T an86 (modesOf F) 3 k 59 (S86 k) (ending T Try.f86 an86 3 K) cd86_0 (sh sp86_0 ws rs) N X) (fun x y => Eq.trans (by kernel_rfl) (Eq.trans (i86_0 k K N X y.1.1 y.1.2.2.2.1 k y.2.2.2.1 y.2.2.2.2.1).symm (by kernel_rfl))) ws rs
end
theorem e86 (k : Nat) (a0 : Bool) (a1 : Int) (a2 : List Int) (a3 : List (Int × (Bool × (Int × (Int × (List Int × Unit)))))) (K : List PV → List RowS → Option R) : callC T F k 86 [.ptr 1 0] [⟨0, .vars [.val [] .bool a0, .rw 2, .rw 3, .val [] (.int .i64) a1]⟩, ⟨0, .arr [] (.int .u8) a2⟩, ⟨0, .arr [] (.prod (.int .i64) (.prod .bool (.prod (.int .i64) (.prod (.int .i64) (.prod (.slice (.int .u8)) .unit))))) a3⟩] K = f86 k a0 a1 a2 a3 (fun z0 z1 z2 z3 => K [] [⟨0, .vars [.val [] .bool z0, .rw 4, .rw 5, .val [] (.int .i64) z1]⟩, ⟨0, .gone⟩, ⟨0, .gone⟩, ⟨0, .arr [] (.int .u8) z2⟩, ⟨0, .arr [] (.prod (.int .i64) (.prod .bool (.prod (.int .i64) (.prod (.int .i64) (.prod (.slice (.int .u8)) .unit))))) z3⟩]) := by
  rw [f86_def]
  cases k with
  | zero => rfl
  | succ k =>
    refine Eq.trans (show _ = exec T an86 (modesOf F) 3 k 59 (callC T F k) (ending T Try.f86 an86 3 K) (bodyOf Try.f86) ⟨argEnv 0 [.ptr 1 0] (fun _ => none), rowsOf [⟨0, .vars [.val [] .bool a0, .rw 2, .rw 3, .val [] (.int .i64) a1]⟩, ⟨0, .arr [] (.int .u8) a2⟩, ⟨0, .arr [] (.prod (.int .i64) (.prod .bool (.prod (.int .i64) (.prod (.int .i64) (.prod (.slice (.int .u8)) .unit))))) a3⟩]⟩ (ending T Try.f86 an86 3 K) (fun _ _ => none) from by kernel_rfl) ?_
    rw [← S86_eq k, ← execS_eq T an86 (modesOf F) 3 k 59 (S86 k) (L86 k K) (bodyOf Try.f86) (cuts_of _ _ _ _ _ _ _ _ (bodyOf Try.f86) (l := [(0, sp86_0, cd86_0)]) (by kernel_rfl) ⟨l86_0 k K, trivial⟩)]
    kernel_rfl
noncomputable def s86 (k : Nat) (a : List PV) (r : List RowS) (K : List PV → List RowS → Option R) : Option R :=
  onShape [.ptr 1 0] [.vars [.val [] .bool, .rw 2, .rw 3, .val [] (.int .i64)], .arr [] (.int .u8), .arr [] (.prod (.int .i64) (.prod .bool (.prod (.int .i64) (.prod (.int .i64) (.prod (.slice (.int .u8)) .unit)))))] (fun v => f86 k v.2.1.1 v.2.1.2.2.2.1 v.2.2.1 v.2.2.2.1 (fun z0 z1 z2 z3 => K [] [⟨0, .vars [.val [] .bool z0, .rw 4, .rw 5, .val [] (.int .i64) z1]⟩, ⟨0, .gone⟩, ⟨0, .gone⟩, ⟨0, .arr [] (.int .u8) z2⟩, ⟨0, .arr [] (.prod (.int .i64) (.prod .bool (.prod (.int .i64) (.prod (.int .i64) (.prod (.slice (.int .u8)) .unit))))) z3⟩])) (callC T F k 86 a r K) a r
theorem s86_eq (k : Nat) (a : List PV) (r : List RowS) (K : List PV → List RowS → Option R) : s86 k a r K = callC T F k 86 a r K := by
  unfold s86
  exact onShape_eq (a := [.ptr 1 0]) (b := [.vars [.val [] .bool, .rw 2, .rw 3, .val [] (.int .i64)], .arr [] (.int .u8), .arr [] (.prod (.int .i64) (.prod .bool (.prod (.int .i64) (.prod (.int .i64) (.prod (.slice (.int .u8)) .unit)))))]) (G := fun a r => callC T F k 86 a r K) (fun x y => Eq.trans (by kernel_rfl) (Eq.trans (e86 k y.1.1 y.1.2.2.2.1 y.2.1 y.2.2.1 K).symm (by kernel_rfl))) a r
end
section
variable {R : Type}
noncomputable def S51 (k g : Nat) (a : List PV) (r : List RowS) (K : List PV → List RowS → Option R) : Option R := bif g == 36 then s36 k a r K else bif g == 40 then s40 k a r K else bif g == 76 then s76 k a r K else bif g == 86 then s86 k a r K else callC T F k g a r K
theorem S51_eq (k : Nat) : S51 (R := R) k = callC T F k := by
  funext g a r K
  exact pick_eq (fun e => by subst e; exact s36_eq k a r K) (pick_eq (fun e => by subst e; exact s40_eq k a r K) (pick_eq (fun e => by subst e; exact s76_eq k a r K) (pick_eq (fun e => by subst e; exact s86_eq k a r K) (rfl))))
section
variable {R : Type} (k : Nat) (K : List PV → List RowS → Option R)
noncomputable def L51_0 (ws : List PV) (rs : List RowS) (N : St → Option R) (X : Nat → St → Option R) : Option R :=
  onShape [.val [(0, 0)] (.slice (.prod (.int .i64) (.prod (.int .i64) (.prod (.int .i64) (.prod (.int .i64) (.prod (.slice (.int .u8)) .unit)))))), .val [] (.int .i64), .val [(0, 0)] (.slice (.prod (.int .i64) (.prod (.int .i64) (.prod (.int .i64) (.prod (.int .i64) (.prod (.slice (.int .u8)) .unit)))))), .val [] (.int .i64), .val [] (.int .i64)] [] (fun v => f51_0 k (fun z0 z1 z2 => K [.rw 1, .val [] (.int .i64) z0, .val [] (.int .i64) z1] [⟨0, .arr [] (.prod (.int .i64) (.prod .bool (.prod (.int .i64) (.prod (.int .i64) (.prod (.slice (.int .u8)) .unit))))) z2⟩]) (N (sh jn51_0 [.val [(0, 0)] (.slice (.prod (.int .i64) (.prod (.int .i64) (.prod (.int .i64) (.prod (.int .i64) (.prod (.slice (.int .u8)) .unit)))))) v.1.1] [])) v.1.1 v.1.2.1 v.1.2.2.1 v.1.2.2.2.1 k v.1.2.2.2.2.1) (inner T an51 (modesOf F) 0 k 141 (S51 k) (ending T Try.f51 an51 0 K) cd51_0 (sh sp51_0 ws rs) N X) ws rs
noncomputable def L51_1000021 (ws : List PV) (rs : List RowS) (N : St → Option R) (X : Nat → St → Option R) : Option R :=
  onShape [.val [(0, 0)] (.slice (.prod (.int .i64) (.prod (.int .i64) (.prod (.int .i64) (.prod (.int .i64) (.prod (.slice (.int .u8)) .unit)))))), .ptr 1 0, .ptr 4 0, .val [(0, 0)] (.slice (.prod (.int .i64) (.prod (.int .i64) (.prod (.int .i64) (.prod (.int .i64) (.prod (.slice (.int .u8)) .unit)))))), .val [] (.int .i64), .val [] (.int .i64), .val [] .bool] [.vars [.val [] .bool, .rw 2, .rw 3, .val [] (.int .i64)], .arr [] (.int .u8), .arr [] (.prod (.int .i64) (.prod .bool (.prod (.int .i64) (.prod (.int .i64) (.prod (.slice (.int .u8)) .unit))))), .vars [.val [] (.int .i64), .val [] (.int .i64), .val [] (.int .i64), .val [] (.int .i64), .val [(0, 0)] (.slice (.int .u8))]] (fun v => f51_1000021 k (fun yN_4 yN_5 => N (sh fi51_21 [.val [(0, 0)] (.slice (.prod (.int .i64) (.prod (.int .i64) (.prod (.int .i64) (.prod (.int .i64) (.prod (.slice (.int .u8)) .unit)))))) v.1.1, .ptr 1 0, .ptr 4 0, .val [(0, 0)] (.slice (.prod (.int .i64) (.prod (.int .i64) (.prod (.int .i64) (.prod (.int .i64) (.prod (.slice (.int .u8)) .unit)))))) v.1.2.2.2.1, .val [] (.int .i64) v.1.2.2.2.2.1, .val [] (.int .i64) v.1.2.2.2.2.2.1] [⟨0, .vars [.val [] .bool yN_4, .rw 2, .rw 3, .val [] (.int .i64) yN_5]⟩, ⟨0, .arr [] (.int .u8) v.2.2.1⟩, ⟨0, .arr [] (.prod (.int .i64) (.prod .bool (.prod (.int .i64) (.prod (.int .i64) (.prod (.slice (.int .u8)) .unit))))) v.2.2.2.1⟩, ⟨0, .vars [.val [] (.int .i64) v.2.2.2.2.1.1, .val [] (.int .i64) v.2.2.2.2.1.2.1, .val [] (.int .i64) v.2.2.2.2.1.2.2.1, .val [] (.int .i64) v.2.2.2.2.1.2.2.2.1, .val [(0, 0)] (.slice (.int .u8)) v.2.2.2.2.1.2.2.2.2.1]⟩])) v.1.1 v.1.2.2.2.1 v.1.2.2.2.2.1 v.1.2.2.2.2.2.1 v.1.2.2.2.2.2.2.1 v.2.1.1 v.2.1.2.2.2.1 v.2.2.1 v.2.2.2.1 v.2.2.2.2.1.1 v.2.2.2.2.1.2.1 v.2.2.2.2.1.2.2.1 v.2.2.2.2.1.2.2.2.1 v.2.2.2.2.1.2.2.2.2.1) (inner T an51 (modesOf F) 0 k 141 (S51 k) (ending T Try.f51 an51 0 K) cd51_1000021 (sh sp51_1000021 ws rs) N X) ws rs
noncomputable def L51_1000025 (ws : List PV) (rs : List RowS) (N : St → Option R) (X : Nat → St → Option R) : Option R :=
  onShape [.val [(0, 0)] (.slice (.prod (.int .i64) (.prod (.int .i64) (.prod (.int .i64) (.prod (.int .i64) (.prod (.slice (.int .u8)) .unit)))))), .ptr 1 0, .ptr 4 0, .val [(0, 0)] (.slice (.int .u8)), .val [(0, 0)] (.slice (.prod (.int .i64) (.prod (.int .i64) (.prod (.int .i64) (.prod (.int .i64) (.prod (.slice (.int .u8)) .unit)))))), .val [] (.int .i64), .val [] (.int .i64), .val [] .bool] [.vars [.val [] .bool, .rw 2, .rw 3, .val [] (.int .i64)], .arr [] (.int .u8), .arr [] (.prod (.int .i64) (.prod .bool (.prod (.int .i64) (.prod (.int .i64) (.prod (.slice (.int .u8)) .unit))))), .vars [.val [] (.int .i64), .val [] (.int .i64), .val [] (.int .i64), .val [] (.int .i64), .val [(0, 0)] (.slice (.int .u8))]] (fun v => f51_1000025 k (fun y3_6 => X 3 (sh jn51_3 [.val [(0, 0)] (.slice (.prod (.int .i64) (.prod (.int .i64) (.prod (.int .i64) (.prod (.int .i64) (.prod (.slice (.int .u8)) .unit)))))) v.1.1, .ptr 1 0, .val [(0, 0)] (.slice (.prod (.int .i64) (.prod (.int .i64) (.prod (.int .i64) (.prod (.int .i64) (.prod (.slice (.int .u8)) .unit)))))) v.1.2.2.2.2.1, .val [] (.int .i64) v.1.2.2.2.2.2.1, .val [] (.int .i64) v.1.2.2.2.2.2.2.1] [⟨0, .vars [.val [] .bool v.2.1.1, .rw 2, .rw 3, .val [] (.int .i64) v.2.1.2.2.2.1]⟩, ⟨0, .arr [] (.int .u8) y3_6⟩, ⟨0, .arr [] (.prod (.int .i64) (.prod .bool (.prod (.int .i64) (.prod (.int .i64) (.prod (.slice (.int .u8)) .unit))))) v.2.2.2.1⟩])) (fun yN_1 yN_5 yN_7 => N (sh fi51_25 [.val [(0, 0)] (.slice (.prod (.int .i64) (.prod (.int .i64) (.prod (.int .i64) (.prod (.int .i64) (.prod (.slice (.int .u8)) .unit)))))) v.1.1, .ptr 1 0, .val [(0, 0)] (.slice (.int .u8)) yN_1, .val [(0, 0)] (.slice (.prod (.int .i64) (.prod (.int .i64) (.prod (.int .i64) (.prod (.int .i64) (.prod (.slice (.int .u8)) .unit)))))) v.1.2.2.2.2.1, .val [] (.int .i64) v.1.2.2.2.2.2.1, .val [] (.int .i64) v.1.2.2.2.2.2.2.1] [⟨0, .vars [.val [] .bool yN_5, .rw 2, .rw 3, .val [] (.int .i64) v.2.1.2.2.2.1]⟩, ⟨0, .arr [] (.int .u8) yN_7⟩, ⟨0, .arr [] (.prod (.int .i64) (.prod .bool (.prod (.int .i64) (.prod (.int .i64) (.prod (.slice (.int .u8)) .unit))))) v.2.2.2.1⟩])) v.1.1 v.1.2.2.2.1 v.1.2.2.2.2.1 v.1.2.2.2.2.2.1 v.1.2.2.2.2.2.2.1 v.1.2.2.2.2.2.2.2.1 v.2.1.1 v.2.1.2.2.2.1 v.2.2.1 v.2.2.2.1 v.2.2.2.2.1.1 v.2.2.2.2.1.2.1 v.2.2.2.2.1.2.2.1 v.2.2.2.2.1.2.2.2.1 v.2.2.2.2.1.2.2.2.2.1) (inner T an51 (modesOf F) 0 k 141 (S51 k) (ending T Try.f51 an51 0 K) cd51_1000025 (sh sp51_1000025 ws rs) N X) ws rs
noncomputable def L51_3 (ws : List PV) (rs : List RowS) (N : St → Option R) (X : Nat → St → Option R) : Option R :=
  onShape [.val [(0, 0)] (.slice (.prod (.int .i64) (.prod (.int .i64) (.prod (.int .i64) (.prod (.int .i64) (.prod (.slice (.int .u8)) .unit)))))), .ptr 1 0, .val [(0, 0)] (.slice (.prod (.int .i64) (.prod (.int .i64) (.prod (.int .i64) (.prod (.int .i64) (.prod (.slice (.int .u8)) .unit)))))), .val [] (.int .i64), .val [] (.int .i64)] [.vars [.val [] .bool, .rw 2, .rw 3, .val [] (.int .i64)], .arr [] (.int .u8), .arr [] (.prod (.int .i64) (.prod .bool (.prod (.int .i64) (.prod (.int .i64) (.prod (.slice (.int .u8)) .unit)))))] (fun v => f51_3 k (fun y3_4 y3_5 y3_6 y3_7 => N (sh jn51_3 [.val [(0, 0)] (.slice (.prod (.int .i64) (.prod (.int .i64) (.prod (.int .i64) (.prod (.int .i64) (.prod (.slice (.int .u8)) .unit)))))) v.1.1, .ptr 1 0, .val [(0, 0)] (.slice (.prod (.int .i64) (.prod (.int .i64) (.prod (.int .i64) (.prod (.int .i64) (.prod (.slice (.int .u8)) .unit)))))) v.1.2.2.1, .val [] (.int .i64) v.1.2.2.2.1, .val [] (.int .i64) v.1.2.2.2.2.1] [⟨0, .vars [.val [] .bool y3_4, .rw 2, .rw 3, .val [] (.int .i64) y3_5]⟩, ⟨0, .arr [] (.int .u8) y3_6⟩, ⟨0, .arr [] (.prod (.int .i64) (.prod .bool (.prod (.int .i64) (.prod (.int .i64) (.prod (.slice (.int .u8)) .unit))))) y3_7⟩])) v.1.1 v.1.2.2.1 v.1.2.2.2.1 v.1.2.2.2.2.1 v.2.1.1 v.2.1.2.2.2.1 v.2.2.1 v.2.2.2.1) (inner T an51 (modesOf F) 0 k 141 (S51 k) (ending T Try.f51 an51 0 K) cd51_3 (sh sp51_3 ws rs) N X) ws rs
noncomputable def L51_2 (ws : List PV) (rs : List RowS) (N : St → Option R) (X : Nat → St → Option R) : Option R :=
  onShape [.val [(0, 0)] (.slice (.prod (.int .i64) (.prod (.int .i64) (.prod (.int .i64) (.prod (.int .i64) (.prod (.slice (.int .u8)) .unit)))))), .ptr 1 0, .val [(0, 0)] (.slice (.prod (.int .i64) (.prod (.int .i64) (.prod (.int .i64) (.prod (.int .i64) (.prod (.slice (.int .u8)) .unit)))))), .val [] (.int .i64), .val [] (.int .i64)] [.vars [.val [] .bool, .rw 2, .rw 3, .val [] (.int .i64)], .arr [] (.int .u8), .arr [] (.prod (.int .i64) (.prod .bool (.prod (.int .i64) (.prod (.int .i64) (.prod (.slice (.int .u8)) .unit)))))] (fun v => f51_2 k (fun y2_0 y2_1 y2_2 y2_3 => N (sh jn51_2 [.ptr 1 0] [⟨0, .vars [.val [] .bool y2_0, .rw 2, .rw 3, .val [] (.int .i64) y2_1]⟩, ⟨0, .arr [] (.int .u8) y2_2⟩, ⟨0, .arr [] (.prod (.int .i64) (.prod .bool (.prod (.int .i64) (.prod (.int .i64) (.prod (.slice (.int .u8)) .unit))))) y2_3⟩])) v.1.1 v.1.2.2.1 v.1.2.2.2.1 k v.1.2.2.2.2.1 v.2.1.1 v.2.1.2.2.2.1 v.2.2.1 v.2.2.2.1) (inner T an51 (modesOf F) 0 k 141 (S51 k) (ending T Try.f51 an51 0 K) cd51_2 (sh sp51_2 ws rs) N X) ws rs
noncomputable def L51 (id : Nat) (ws : List PV) (rs : List RowS) (N : St → Option R) (X : Nat → St → Option R) : Option R := bif id == 0 then L51_0 k K ws rs N X else bif id == 1000021 then L51_1000021 k K ws rs N X else bif id == 1000025 then L51_1000025 k K ws rs N X else bif id == 3 then L51_3 k K ws rs N X else bif id == 2 then L51_2 k K ws rs N X else none
theorem b51_0 (rec : St → Option R) (N : St → Option R) (X : Nat → St → Option R) (v0_0 : List ((Int × (Int × (Int × (Int × (List Int × Unit))))))) (v0_1 : Int) (v0_2 : List ((Int × (Int × (Int × (Int × (List Int × Unit))))))) (v0_3 : Int) (v0_4 : Int) :
    execS T an51 (modesOf F) 0 k 141 (S51 k) (L51 k K) (ending T Try.f51 an51 0 K) bd51_0 (sh sp51_0 [.val [(0, 0)] (.slice (.prod (.int .i64) (.prod (.int .i64) (.prod (.int .i64) (.prod (.int .i64) (.prod (.slice (.int .u8)) .unit)))))) v0_0, .val [] (.int .i64) v0_1, .val [(0, 0)] (.slice (.prod (.int .i64) (.prod (.int .i64) (.prod (.int .i64) (.prod (.int .i64) (.prod (.slice (.int .u8)) .unit)))))) v0_2, .val [] (.int .i64) v0_3, .val [] (.int .i64) v0_4] []) (fun st => atHead an51 0 bd51_0 st rec) (outX an51 0 0 N X) =
      f51_0b k (fun v0_4 => rec (sh sp51_0 [.val [(0, 0)] (.slice (.prod (.int .i64) (.prod (.int .i64) (.prod (.int .i64) (.prod (.int .i64) (.prod (.slice (.int .u8)) .unit)))))) v0_0, .val [] (.int .i64) v0_1, .val [(0, 0)] (.slice (.prod (.int .i64) (.prod (.int .i64) (.prod (.int .i64) (.prod (.int .i64) (.prod (.slice (.int .u8)) .unit)))))) v0_2, .val [] (.int .i64) v0_3, .val [] (.int .i64) v0_4] [])) (fun z0 z1 z2 => K [.rw 1, .val [] (.int .i64) z0, .val [] (.int .i64) z1] [⟨0, .arr [] (.prod (.int .i64) (.prod .bool (.prod (.int .i64) (.prod (.int .i64) (.prod (.slice (.int .u8)) .unit))))) z2⟩]) (N (sh jn51_0 [.val [(0, 0)] (.slice (.prod (.int .i64) (.prod (.int .i64) (.prod (.int .i64) (.prod (.int .i64) (.prod (.slice (.int .u8)) .unit)))))) v0_0] [])) v0_0 v0_1 v0_2 v0_3 v0_4 := by kernel_rfl
theorem i51_0 (N : St → Option R) (X : Nat → St → Option R) (v0_0 : List ((Int × (Int × (Int × (Int × (List Int × Unit))))))) (v0_1 : Int) (v0_2 : List ((Int × (Int × (Int × (Int × (List Int × Unit))))))) (v0_3 : Int) (m : Nat) : ∀ (v0_4 : Int),
    iter (atHead an51 0 bd51_0) m (fun st N' => exec T an51 (modesOf F) 0 k 141 (S51 k) (ending T Try.f51 an51 0 K) bd51_0 st N' (outX an51 0 0 N X)) (sh sp51_0 [.val [(0, 0)] (.slice (.prod (.int .i64) (.prod (.int .i64) (.prod (.int .i64) (.prod (.int .i64) (.prod (.slice (.int .u8)) .unit)))))) v0_0, .val [] (.int .i64) v0_1, .val [(0, 0)] (.slice (.prod (.int .i64) (.prod (.int .i64) (.prod (.int .i64) (.prod (.int .i64) (.prod (.slice (.int .u8)) .unit)))))) v0_2, .val [] (.int .i64) v0_3, .val [] (.int .i64) v0_4] []) = f51_0d k (fun z0 z1 z2 => K [.rw 1, .val [] (.int .i64) z0, .val [] (.int .i64) z1] [⟨0, .arr [] (.prod (.int .i64) (.prod .bool (.prod (.int .i64) (.prod (.int .i64) (.prod (.slice (.int .u8)) .unit))))) z2⟩]) (N (sh jn51_0 [.val [(0, 0)] (.slice (.prod (.int .i64) (.prod (.int .i64) (.prod (.int .i64) (.prod (.int .i64) (.prod (.slice (.int .u8)) .unit)))))) v0_0] [])) v0_0 v0_1 v0_2 v0_3 m v0_4 := by
  induction m with
  | zero => intros; rfl
  | succ m ih =>
    intro v0_4
    simp only [iter]
    rw [← execS_eq T an51 (modesOf F) 0 k 141 (S51 k) (L51 k K) bd51_0 (cuts_of _ _ _ _ _ _ _ _ bd51_0 (l := []) (by kernel_rfl) trivial)]
    refine (b51_0 k K _ N X v0_0 v0_1 v0_2 v0_3 v0_4).trans ?_
    simp only [f51_0d, ih]
theorem l51_0 (ws : List PV) (rs : List RowS) (N : St → Option R) (X : Nat → St → Option R) : L51 k K 0 ws rs N X = inner T an51 (modesOf F) 0 k 141 (S51 k) (ending T Try.f51 an51 0 K) cd51_0 (sh sp51_0 ws rs) N X := by
  show L51_0 k K ws rs N X = _
  unfold L51_0
  rw [f51_0_def]
  exact onShape_eq (a := [.val [(0, 0)] (.slice (.prod (.int .i64) (.prod (.int .i64) (.prod (.int .i64) (.prod (.int .i64) (.prod (.slice (.int .u8)) .unit)))))), .val [] (.int .i64), .val [(0, 0)] (.slice (.prod (.int .i64) (.prod (.int .i64) (.prod (.int .i64) (.prod (.int .i64) (.prod (.slice (.int .u8)) .unit)))))), .val [] (.int .i64), .val [] (.int .i64)]) (b := []) (G := fun ws rs => inner T an51 (modesOf F) 0 k 141 (S51 k) (ending T Try.f51 an51 0 K) cd51_0 (sh sp51_0 ws rs) N X) (fun x y => Eq.trans (by kernel_rfl) (Eq.trans (i51_0 k K N X x.1 x.2.1 x.2.2.1 x.2.2.2.1 k x.2.2.2.2.1).symm (by kernel_rfl))) ws rs
theorem l51_1000021 (ws : List PV) (rs : List RowS) (N : St → Option R) (X : Nat → St → Option R) : L51 k K 1000021 ws rs N X = inner T an51 (modesOf F) 0 k 141 (S51 k) (ending T Try.f51 an51 0 K) cd51_1000021 (sh sp51_1000021 ws rs) N X := by
  show L51_1000021 k K ws rs N X = _
  unfold L51_1000021
  rw [f51_1000021_def]
  exact onShape_eq (a := [.val [(0, 0)] (.slice (.prod (.int .i64) (.prod (.int .i64) (.prod (.int .i64) (.prod (.int .i64) (.prod (.slice (.int .u8)) .unit)))))), .ptr 1 0, .ptr 4 0, .val [(0, 0)] (.slice (.prod (.int .i64) (.prod (.int .i64) (.prod (.int .i64) (.prod (.int .i64) (.prod (.slice (.int .u8)) .unit)))))), .val [] (.int .i64), .val [] (.int .i64), .val [] .bool]) (b := [.vars [.val [] .bool, .rw 2, .rw 3, .val [] (.int .i64)], .arr [] (.int .u8), .arr [] (.prod (.int .i64) (.prod .bool (.prod (.int .i64) (.prod (.int .i64) (.prod (.slice (.int .u8)) .unit))))), .vars [.val [] (.int .i64), .val [] (.int .i64), .val [] (.int .i64), .val [] (.int .i64), .val [(0, 0)] (.slice (.int .u8))]]) (G := fun ws rs => inner T an51 (modesOf F) 0 k 141 (S51 k) (ending T Try.f51 an51 0 K) cd51_1000021 (sh sp51_1000021 ws rs) N X) (fun x y => Eq.trans (by kernel_rfl) (innerS_eq T an51 (modesOf F) 0 k 141 (S51 k) (L51 k K) cd51_1000021 (l := []) (by kernel_rfl) trivial _ N X)) ws rs
theorem l51_1000025 (ws : List PV) (rs : List RowS) (N : St → Option R) (X : Nat → St → Option R) : L51 k K 1000025 ws rs N X = inner T an51 (modesOf F) 0 k 141 (S51 k) (ending T Try.f51 an51 0 K) cd51_1000025 (sh sp51_1000025 ws rs) N X := by
  show L51_1000025 k K ws rs N X = _
  unfold L51_1000025
  rw [f51_1000025_def]
  exact onShape_eq (a := [.val [(0, 0)] (.slice (.prod (.int .i64) (.prod (.int .i64) (.prod (.int .i64) (.prod (.int .i64) (.prod (.slice (.int .u8)) .unit)))))), .ptr 1 0, .ptr 4 0, .val [(0, 0)] (.slice (.int .u8)), .val [(0, 0)] (.slice (.prod (.int .i64) (.prod (.int .i64) (.prod (.int .i64) (.prod (.int .i64) (.prod (.slice (.int .u8)) .unit)))))), .val [] (.int .i64), .val [] (.int .i64), .val [] .bool]) (b := [.vars [.val [] .bool, .rw 2, .rw 3, .val [] (.int .i64)], .arr [] (.int .u8), .arr [] (.prod (.int .i64) (.prod .bool (.prod (.int .i64) (.prod (.int .i64) (.prod (.slice (.int .u8)) .unit))))), .vars [.val [] (.int .i64), .val [] (.int .i64), .val [] (.int .i64), .val [] (.int .i64), .val [(0, 0)] (.slice (.int .u8))]]) (G := fun ws rs => inner T an51 (modesOf F) 0 k 141 (S51 k) (ending T Try.f51 an51 0 K) cd51_1000025 (sh sp51_1000025 ws rs) N X) (fun x y => Eq.trans (by kernel_rfl) (innerS_eq T an51 (modesOf F) 0 k 141 (S51 k) (L51 k K) cd51_1000025 (l := []) (by kernel_rfl) trivial _ N X)) ws rs
theorem l51_3 (ws : List PV) (rs : List RowS) (N : St → Option R) (X : Nat → St → Option R) : L51 k K 3 ws rs N X = inner T an51 (modesOf F) 0 k 141 (S51 k) (ending T Try.f51 an51 0 K) cd51_3 (sh sp51_3 ws rs) N X := by
  show L51_3 k K ws rs N X = _
  unfold L51_3
  rw [f51_3_def]
  exact onShape_eq (a := [.val [(0, 0)] (.slice (.prod (.int .i64) (.prod (.int .i64) (.prod (.int .i64) (.prod (.int .i64) (.prod (.slice (.int .u8)) .unit)))))), .ptr 1 0, .val [(0, 0)] (.slice (.prod (.int .i64) (.prod (.int .i64) (.prod (.int .i64) (.prod (.int .i64) (.prod (.slice (.int .u8)) .unit)))))), .val [] (.int .i64), .val [] (.int .i64)]) (b := [.vars [.val [] .bool, .rw 2, .rw 3, .val [] (.int .i64)], .arr [] (.int .u8), .arr [] (.prod (.int .i64) (.prod .bool (.prod (.int .i64) (.prod (.int .i64) (.prod (.slice (.int .u8)) .unit)))))]) (G := fun ws rs => inner T an51 (modesOf F) 0 k 141 (S51 k) (ending T Try.f51 an51 0 K) cd51_3 (sh sp51_3 ws rs) N X) (fun x y => Eq.trans (by kernel_rfl) (innerS_eq T an51 (modesOf F) 0 k 141 (S51 k) (L51 k K) cd51_3 (l := [(1000021, sp51_1000021, cd51_1000021), (1000025, sp51_1000025, cd51_1000025)]) (by kernel_rfl) ⟨l51_1000021 k K, l51_1000025 k K, trivial⟩ _ N X)) ws rs
theorem b51_2 (rec : St → Option R) (N : St → Option R) (X : Nat → St → Option R) (v2_0 : List ((Int × (Int × (Int × (Int × (List Int × Unit))))))) (v2_1 : List ((Int × (Int × (Int × (Int × (List Int × Unit))))))) (v2_2 : Int) (v2_3 : Int) (v2_4 : Bool) (v2_5 : Int) (v2_6 : List Int) (v2_7 : List (Int × (Bool × (Int × (Int × (List Int × Unit)))))) :
    execS T an51 (modesOf F) 0 k 141 (S51 k) (L51 k K) (ending T Try.f51 an51 0 K) bd51_2 (sh sp51_2 [.val [(0, 0)] (.slice (.prod (.int .i64) (.prod (.int .i64) (.prod (.int .i64) (.prod (.int .i64) (.prod (.slice (.int .u8)) .unit)))))) v2_0, .ptr 1 0, .val [(0, 0)] (.slice (.prod (.int .i64) (.prod (.int .i64) (.prod (.int .i64) (.prod (.int .i64) (.prod (.slice (.int .u8)) .unit)))))) v2_1, .val [] (.int .i64) v2_2, .val [] (.int .i64) v2_3] [⟨0, .vars [.val [] .bool v2_4, .rw 2, .rw 3, .val [] (.int .i64) v2_5]⟩, ⟨0, .arr [] (.int .u8) v2_6⟩, ⟨0, .arr [] (.prod (.int .i64) (.prod .bool (.prod (.int .i64) (.prod (.int .i64) (.prod (.slice (.int .u8)) .unit))))) v2_7⟩]) (fun st => atHead an51 0 bd51_2 st rec) (outX an51 0 2 N X) =
      f51_2b k (fun v2_3 v2_4 v2_5 v2_6 v2_7 => rec (sh sp51_2 [.val [(0, 0)] (.slice (.prod (.int .i64) (.prod (.int .i64) (.prod (.int .i64) (.prod (.int .i64) (.prod (.slice (.int .u8)) .unit)))))) v2_0, .ptr 1 0, .val [(0, 0)] (.slice (.prod (.int .i64) (.prod (.int .i64) (.prod (.int .i64) (.prod (.int .i64) (.prod (.slice (.int .u8)) .unit)))))) v2_1, .val [] (.int .i64) v2_2, .val [] (.int .i64) v2_3] [⟨0, .vars [.val [] .bool v2_4, .rw 2, .rw 3, .val [] (.int .i64) v2_5]⟩, ⟨0, .arr [] (.int .u8) v2_6⟩, ⟨0, .arr [] (.prod (.int .i64) (.prod .bool (.prod (.int .i64) (.prod (.int .i64) (.prod (.slice (.int .u8)) .unit))))) v2_7⟩])) (fun y2_0 y2_1 y2_2 y2_3 => N (sh jn51_2 [.ptr 1 0] [⟨0, .vars [.val [] .bool y2_0, .rw 2, .rw 3, .val [] (.int .i64) y2_1]⟩, ⟨0, .arr [] (.int .u8) y2_2⟩, ⟨0, .arr [] (.prod (.int .i64) (.prod .bool (.prod (.int .i64) (.prod (.int .i64) (.prod (.slice (.int .u8)) .unit))))) y2_3⟩])) v2_0 v2_1 v2_2 v2_3 v2_4 v2_5 v2_6 v2_7 := by kernel_rfl
theorem i51_2 (N : St → Option R) (X : Nat → St → Option R) (v2_0 : List ((Int × (Int × (Int × (Int × (List Int × Unit))))))) (v2_1 : List ((Int × (Int × (Int × (Int × (List Int × Unit))))))) (v2_2 : Int) (m : Nat) : ∀ (v2_3 : Int) (v2_4 : Bool) (v2_5 : Int) (v2_6 : List Int) (v2_7 : List (Int × (Bool × (Int × (Int × (List Int × Unit)))))),
    iter (atHead an51 0 bd51_2) m (fun st N' => exec T an51 (modesOf F) 0 k 141 (S51 k) (ending T Try.f51 an51 0 K) bd51_2 st N' (outX an51 0 2 N X)) (sh sp51_2 [.val [(0, 0)] (.slice (.prod (.int .i64) (.prod (.int .i64) (.prod (.int .i64) (.prod (.int .i64) (.prod (.slice (.int .u8)) .unit)))))) v2_0, .ptr 1 0, .val [(0, 0)] (.slice (.prod (.int .i64) (.prod (.int .i64) (.prod (.int .i64) (.prod (.int .i64) (.prod (.slice (.int .u8)) .unit)))))) v2_1, .val [] (.int .i64) v2_2, .val [] (.int .i64) v2_3] [⟨0, .vars [.val [] .bool v2_4, .rw 2, .rw 3, .val [] (.int .i64) v2_5]⟩, ⟨0, .arr [] (.int .u8) v2_6⟩, ⟨0, .arr [] (.prod (.int .i64) (.prod .bool (.prod (.int .i64) (.prod (.int .i64) (.prod (.slice (.int .u8)) .unit))))) v2_7⟩]) = f51_2d k (fun y2_0 y2_1 y2_2 y2_3 => N (sh jn51_2 [.ptr 1 0] [⟨0, .vars [.val [] .bool y2_0, .rw 2, .rw 3, .val [] (.int .i64) y2_1]⟩, ⟨0, .arr [] (.int .u8) y2_2⟩, ⟨0, .arr [] (.prod (.int .i64) (.prod .bool (.prod (.int .i64) (.prod (.int .i64) (.prod (.slice (.int .u8)) .unit))))) y2_3⟩])) v2_0 v2_1 v2_2 m v2_3 v2_4 v2_5 v2_6 v2_7 := by
  induction m with
  | zero => intros; rfl
  | succ m ih =>
    intro v2_3 v2_4 v2_5 v2_6 v2_7
    simp only [iter]
    rw [← execS_eq T an51 (modesOf F) 0 k 141 (S51 k) (L51 k K) bd51_2 (cuts_of _ _ _ _ _ _ _ _ bd51_2 (l := [(3, sp51_3, cd51_3)]) (by kernel_rfl) ⟨l51_3 k K, trivial⟩)]
    refine (b51_2 k K _ N X v2_0 v2_1 v2_2 v2_3 v2_4 v2_5 v2_6 v2_7).trans ?_
    simp only [f51_2d, ih]
theorem l51_2 (ws : List PV) (rs : List RowS) (N : St → Option R) (X : Nat → St → Option R) : L51 k K 2 ws rs N X = inner T an51 (modesOf F) 0 k 141 (S51 k) (ending T Try.f51 an51 0 K) cd51_2 (sh sp51_2 ws rs) N X := by
  show L51_2 k K ws rs N X = _
  unfold L51_2
  rw [f51_2_def]
  exact onShape_eq (a := [.val [(0, 0)] (.slice (.prod (.int .i64) (.prod (.int .i64) (.prod (.int .i64) (.prod (.int .i64) (.prod (.slice (.int .u8)) .unit)))))), .ptr 1 0, .val [(0, 0)] (.slice (.prod (.int .i64) (.prod (.int .i64) (.prod (.int .i64) (.prod (.int .i64) (.prod (.slice (.int .u8)) .unit)))))), .val [] (.int .i64), .val [] (.int .i64)]) (b := [.vars [.val [] .bool, .rw 2, .rw 3, .val [] (.int .i64)], .arr [] (.int .u8), .arr [] (.prod (.int .i64) (.prod .bool (.prod (.int .i64) (.prod (.int .i64) (.prod (.slice (.int .u8)) .unit)))))]) (G := fun ws rs => inner T an51 (modesOf F) 0 k 141 (S51 k) (ending T Try.f51 an51 0 K) cd51_2 (sh sp51_2 ws rs) N X) (fun x y => Eq.trans (by kernel_rfl) (Eq.trans (i51_2 k K N X x.1 x.2.2.1 x.2.2.2.1 k x.2.2.2.2.1 y.1.1 y.1.2.2.2.1 y.2.1 y.2.2.1).symm (by kernel_rfl))) ws rs
end
theorem e51 (k : Nat) (a0 : List ((Int × (Int × (Int × (Int × (List Int × Unit))))))) (a1 : Int) (K : List PV → List RowS → Option R) : callC T F k 51 [.val [(0, 0)] (.slice (.prod (.int .i64) (.prod (.int .i64) (.prod (.int .i64) (.prod (.int .i64) (.prod (.slice (.int .u8)) .unit)))))) a0, .val [] (.int .i64) a1] [] K = f51 k a0 a1 (fun z0 z1 z2 => K [.rw 1, .val [] (.int .i64) z0, .val [] (.int .i64) z1] [⟨0, .arr [] (.prod (.int .i64) (.prod .bool (.prod (.int .i64) (.prod (.int .i64) (.prod (.slice (.int .u8)) .unit))))) z2⟩]) := by
  rw [f51_def]
  cases k with
  | zero => rfl
  | succ k =>
    refine Eq.trans (show _ = exec T an51 (modesOf F) 0 k 141 (callC T F k) (ending T Try.f51 an51 0 K) (bodyOf Try.f51) ⟨argEnv 0 [.val [(0, 0)] (.slice (.prod (.int .i64) (.prod (.int .i64) (.prod (.int .i64) (.prod (.int .i64) (.prod (.slice (.int .u8)) .unit)))))) a0, .val [] (.int .i64) a1] (fun _ => none), rowsOf []⟩ (ending T Try.f51 an51 0 K) (fun _ _ => none) from by kernel_rfl) ?_
    rw [← S51_eq k, ← execS_eq T an51 (modesOf F) 0 k 141 (S51 k) (L51 k K) (bodyOf Try.f51) (cuts_of _ _ _ _ _ _ _ _ (bodyOf Try.f51) (l := [(0, sp51_0, cd51_0), (2, sp51_2, cd51_2)]) (by kernel_rfl) ⟨l51_0 k K, l51_2 k K, trivial⟩)]
    kernel_rfl
noncomputable def s51 (k : Nat) (a : List PV) (r : List RowS) (K : List PV → List RowS → Option R) : Option R :=
  onShape [.val [(0, 0)] (.slice (.prod (.int .i64) (.prod (.int .i64) (.prod (.int .i64) (.prod (.int .i64) (.prod (.slice (.int .u8)) .unit)))))), .val [] (.int .i64)] [] (fun v => f51 k v.1.1 v.1.2.1 (fun z0 z1 z2 => K [.rw 1, .val [] (.int .i64) z0, .val [] (.int .i64) z1] [⟨0, .arr [] (.prod (.int .i64) (.prod .bool (.prod (.int .i64) (.prod (.int .i64) (.prod (.slice (.int .u8)) .unit))))) z2⟩])) (callC T F k 51 a r K) a r
theorem s51_eq (k : Nat) (a : List PV) (r : List RowS) (K : List PV → List RowS → Option R) : s51 k a r K = callC T F k 51 a r K := by
  unfold s51
  exact onShape_eq (a := [.val [(0, 0)] (.slice (.prod (.int .i64) (.prod (.int .i64) (.prod (.int .i64) (.prod (.int .i64) (.prod (.slice (.int .u8)) .unit)))))), .val [] (.int .i64)]) (b := []) (G := fun a r => callC T F k 51 a r K) (fun x y => Eq.trans (by kernel_rfl) (Eq.trans (e51 k x.1 x.2.1 K).symm (by kernel_rfl))) a r
end
section
variable {R : Type}
noncomputable def S12 (k g : Nat) (a : List PV) (r : List RowS) (K : List PV → List RowS → Option R) : Option R := bif g == 21 then s21 k a r K else bif g == 27 then s27 k a r K else bif g == 50 then s50 k a r K else bif g == 51 then s51 k a r K else callC T F k g a r K
theorem S12_eq (k : Nat) : S12 (R := R) k = callC T F k := by
  funext g a r K
  exact pick_eq (fun e => by subst e; exact s21_eq k a r K) (pick_eq (fun e => by subst e; exact s27_eq k a r K) (pick_eq (fun e => by subst e; exact s50_eq k a r K) (pick_eq (fun e => by subst e; exact s51_eq k a r K) (rfl))))
theorem e12 (k : Nat) (a0 : List ((Int × (Int × (Int × (Int × (List Int × Unit))))))) (a1 : Int) (K : List PV → List RowS → Option R) : callC T F k 12 [.val [(0, 0)] (.slice (.prod (.int .i64) (.prod (.int .i64) (.prod (.int .i64) (.prod (.int .i64) (.prod (.slice (.int .u8)) .unit)))))) a0, .val [] (.int .i64) a1] [] K = f12 k a0 a1 (fun z0 => K [.val [] .bool z0] []) := by
  rw [f12_def]
  cases k with
  | zero => rfl
  | succ k =>
    refine Eq.trans (show _ = exec T an12 (modesOf F) 0 k 41 (callC T F k) (ending T Try.f12 an12 0 K) (bodyOf Try.f12) ⟨argEnv 0 [.val [(0, 0)] (.slice (.prod (.int .i64) (.prod (.int .i64) (.prod (.int .i64) (.prod (.int .i64) (.prod (.slice (.int .u8)) .unit)))))) a0, .val [] (.int .i64) a1] (fun _ => none), rowsOf []⟩ (ending T Try.f12 an12 0 K) (fun _ _ => none) from by kernel_rfl) ?_
    rw [← S12_eq k, ← execS_eq T an12 (modesOf F) 0 k 41 (S12 k) (fun _ _ _ _ _ => none) (bodyOf Try.f12) (cuts_of _ _ _ _ _ _ _ _ (bodyOf Try.f12) (l := []) (by kernel_rfl) trivial)]
    kernel_rfl
noncomputable def s12 (k : Nat) (a : List PV) (r : List RowS) (K : List PV → List RowS → Option R) : Option R :=
  onShape [.val [(0, 0)] (.slice (.prod (.int .i64) (.prod (.int .i64) (.prod (.int .i64) (.prod (.int .i64) (.prod (.slice (.int .u8)) .unit)))))), .val [] (.int .i64)] [] (fun v => f12 k v.1.1 v.1.2.1 (fun z0 => K [.val [] .bool z0] [])) (callC T F k 12 a r K) a r
theorem s12_eq (k : Nat) (a : List PV) (r : List RowS) (K : List PV → List RowS → Option R) : s12 k a r K = callC T F k 12 a r K := by
  unfold s12
  exact onShape_eq (a := [.val [(0, 0)] (.slice (.prod (.int .i64) (.prod (.int .i64) (.prod (.int .i64) (.prod (.int .i64) (.prod (.slice (.int .u8)) .unit)))))), .val [] (.int .i64)]) (b := []) (G := fun a r => callC T F k 12 a r K) (fun x y => Eq.trans (by kernel_rfl) (Eq.trans (e12 k x.1 x.2.1 K).symm (by kernel_rfl))) a r
end
section
variable {R : Type}
noncomputable def S33 (k g : Nat) (a : List PV) (r : List RowS) (K : List PV → List RowS → Option R) : Option R := bif g == 35 then s35 k a r K else bif g == 72 then s72 k a r K else bif g == 73 then s73 k a r K else callC T F k g a r K
theorem S33_eq (k : Nat) : S33 (R := R) k = callC T F k := by
  funext g a r K
  exact pick_eq (fun e => by subst e; exact s35_eq k a r K) (pick_eq (fun e => by subst e; exact s72_eq k a r K) (pick_eq (fun e => by subst e; exact s73_eq k a r K) (rfl)))
theorem e33 (k : Nat) (a0 : Int) (a1 : Int) (a2 : Int) (a3 : Int) (a4 : List Int) (a5 : Int) (K : List PV → List RowS → Option R) : callC T F k 33 [.agg [.val [] (.int .i64) a0, .val [] (.int .i64) a1, .val [] (.int .i64) a2, .val [] (.int .i64) a3, .val [(0, 0)] (.slice (.int .u8)) a4], .val [] (.int .i64) a5] [] K = f33 k a0 a1 a2 a3 a4 a5 (fun z0 z1 => K [.rw 1, .val [] (.int .i64) z0] [⟨0, .arr [] (.int .u8) z1⟩]) := by
  rw [f33_def]
  cases k with
  | zero => rfl
  | succ k =>
    refine Eq.trans (show _ = exec T an33 (modesOf F) 0 k 35 (callC T F k) (ending T Try.f33 an33 0 K) (bodyOf Try.f33) ⟨argEnv 0 [.agg [.val [] (.int .i64) a0, .val [] (.int .i64) a1, .val [] (.int .i64) a2, .val [] (.int .i64) a3, .val [(0, 0)] (.slice (.int .u8)) a4], .val [] (.int .i64) a5] (fun _ => none), rowsOf []⟩ (ending T Try.f33 an33 0 K) (fun _ _ => none) from by kernel_rfl) ?_
    rw [← S33_eq k, ← execS_eq T an33 (modesOf F) 0 k 35 (S33 k) (fun _ _ _ _ _ => none) (bodyOf Try.f33) (cuts_of _ _ _ _ _ _ _ _ (bodyOf Try.f33) (l := []) (by kernel_rfl) trivial)]
    kernel_rfl
noncomputable def s33 (k : Nat) (a : List PV) (r : List RowS) (K : List PV → List RowS → Option R) : Option R :=
  onShape [.agg [.val [] (.int .i64), .val [] (.int .i64), .val [] (.int .i64), .val [] (.int .i64), .val [(0, 0)] (.slice (.int .u8))], .val [] (.int .i64)] [] (fun v => f33 k v.1.1.1 v.1.1.2.1 v.1.1.2.2.1 v.1.1.2.2.2.1 v.1.1.2.2.2.2.1 v.1.2.1 (fun z0 z1 => K [.rw 1, .val [] (.int .i64) z0] [⟨0, .arr [] (.int .u8) z1⟩])) (callC T F k 33 a r K) a r
theorem s33_eq (k : Nat) (a : List PV) (r : List RowS) (K : List PV → List RowS → Option R) : s33 k a r K = callC T F k 33 a r K := by
  unfold s33
  exact onShape_eq (a := [.agg [.val [] (.int .i64), .val [] (.int .i64), .val [] (.int .i64), .val [] (.int .i64), .val [(0, 0)] (.slice (.int .u8))], .val [] (.int .i64)]) (b := []) (G := fun a r => callC T F k 33 a r K) (fun x y => Eq.trans (by kernel_rfl) (Eq.trans (e33 k x.1.1 x.1.2.1 x.1.2.2.1 x.1.2.2.2.1 x.1.2.2.2.2.1 x.2.1 K).symm (by kernel_rfl))) a r
end
section
variable {R : Type}
noncomputable def S52 (k g : Nat) (a : List PV) (r : List RowS) (K : List PV → List RowS → Option R) : Option R := bif g == 33 then s33 k a r K else bif g == 75 then s75 k a r K else bif g == 79 then s79 k a r K else callC T F k g a r K
theorem S52_eq (k : Nat) : S52 (R := R) k = callC T F k := by
  funext g a r K
  exact pick_eq (fun e => by subst e; exact s33_eq k a r K) (pick_eq (fun e => by subst e; exact s75_eq k a r K) (pick_eq (fun e => by subst e; exact s79_eq k a r K) (rfl)))
section
variable {R : Type} (k : Nat) (K : List PV → List RowS → Option R)
noncomputable def L52_1 (ws : List PV) (rs : List RowS) (N : St → Option R) (X : Nat → St → Option R) : Option R :=
  onShape [.val [] (.int .i64), .rw 1, .val [(0, 0)] (.slice (.prod (.int .i64) (.prod (.int .i64) (.prod (.int .i64) (.prod (.int .i64) (.prod (.slice (.int .u8)) .unit)))))), .val [] (.int .i64), .val [] (.int .i64)] [.arr [] (.int .u8)] (fun v => f52_1 k (fun z0 z1 => K [.rw 1, .val [] (.int .i64) z0] [⟨0, .arr [] (.int .u8) z1⟩]) (fun y1_0 => N (sh jn52_1 [.rw 1] [⟨0, .arr [] (.int .u8) y1_0⟩])) v.1.1 v.1.2.2.1 v.1.2.2.2.1 k v.1.2.2.2.2.1 v.2.1) (inner T an52 (modesOf F) 0 k 41 (S52 k) (ending T Try.f52 an52 0 K) cd52_1 (sh sp52_1 ws rs) N X) ws rs
noncomputable def L52 (id : Nat) (ws : List PV) (rs : List RowS) (N : St → Option R) (X : Nat → St → Option R) : Option R := bif id == 1 then L52_1 k K ws rs N X else none
theorem b52_1 (rec : St → Option R) (N : St → Option R) (X : Nat → St → Option R) (v1_0 : Int) (v1_1 : List ((Int × (Int × (Int × (Int × (List Int × Unit))))))) (v1_2 : Int) (v1_3 : Int) (v1_4 : List Int) :
    execS T an52 (modesOf F) 0 k 41 (S52 k) (L52 k K) (ending T Try.f52 an52 0 K) bd52_1 (sh sp52_1 [.val [] (.int .i64) v1_0, .rw 1, .val [(0, 0)] (.slice (.prod (.int .i64) (.prod (.int .i64) (.prod (.int .i64) (.prod (.int .i64) (.prod (.slice (.int .u8)) .unit)))))) v1_1, .val [] (.int .i64) v1_2, .val [] (.int .i64) v1_3] [⟨0, .arr [] (.int .u8) v1_4⟩]) (fun st => atHead an52 0 bd52_1 st rec) (outX an52 0 1 N X) =
      f52_1b k (fun v1_3 v1_4 => rec (sh sp52_1 [.val [] (.int .i64) v1_0, .rw 1, .val [(0, 0)] (.slice (.prod (.int .i64) (.prod (.int .i64) (.prod (.int .i64) (.prod (.int .i64) (.prod (.slice (.int .u8)) .unit)))))) v1_1, .val [] (.int .i64) v1_2, .val [] (.int .i64) v1_3] [⟨0, .arr [] (.int .u8) v1_4⟩])) (fun z0 z1 => K [.rw 1, .val [] (.int .i64) z0] [⟨0, .arr [] (.int .u8) z1⟩]) (fun y1_0 => N (sh jn52_1 [.rw 1] [⟨0, .arr [] (.int .u8) y1_0⟩])) v1_0 v1_1 v1_2 v1_3 v1_4 := by kernel_rfl
theorem i52_1 (N : St → Option R) (X : Nat → St → Option R) (v1_0 : Int) (v1_1 : List ((Int × (Int × (Int × (Int × (List Int × Unit))))))) (v1_2 : Int) (m : Nat) : ∀ (v1_3 : Int) (v1_4 : List Int),
    iter (atHead an52 0 bd52_1) m (fun st N' => exec T an52 (modesOf F) 0 k 41 (S52 k) (ending T Try.f52 an52 0 K) bd52_1 st N' (outX an52 0 1 N X)) (sh sp52_1 [.val [] (.int .i64) v1_0, .rw 1, .val [(0, 0)] (.slice (.prod (.int .i64) (.prod (.int .i64) (.prod (.int .i64) (.prod (.int .i64) (.prod (.slice (.int .u8)) .unit)))))) v1_1, .val [] (.int .i64) v1_2, .val [] (.int .i64) v1_3] [⟨0, .arr [] (.int .u8) v1_4⟩]) = f52_1d k (fun z0 z1 => K [.rw 1, .val [] (.int .i64) z0] [⟨0, .arr [] (.int .u8) z1⟩]) (fun y1_0 => N (sh jn52_1 [.rw 1] [⟨0, .arr [] (.int .u8) y1_0⟩])) v1_0 v1_1 v1_2 m v1_3 v1_4 := by
  induction m with
  | zero => intros; rfl
  | succ m ih =>
    intro v1_3 v1_4
    simp only [iter]
    rw [← execS_eq T an52 (modesOf F) 0 k 41 (S52 k) (L52 k K) bd52_1 (cuts_of _ _ _ _ _ _ _ _ bd52_1 (l := []) (by kernel_rfl) trivial)]
    refine (b52_1 k K _ N X v1_0 v1_1 v1_2 v1_3 v1_4).trans ?_
    simp only [f52_1d, ih]
theorem l52_1 (ws : List PV) (rs : List RowS) (N : St → Option R) (X : Nat → St → Option R) : L52 k K 1 ws rs N X = inner T an52 (modesOf F) 0 k 41 (S52 k) (ending T Try.f52 an52 0 K) cd52_1 (sh sp52_1 ws rs) N X := by
  show L52_1 k K ws rs N X = _
  unfold L52_1
  rw [f52_1_def]
  exact onShape_eq (a := [.val [] (.int .i64), .rw 1, .val [(0, 0)] (.slice (.prod (.int .i64) (.prod (.int .i64) (.prod (.int .i64) (.prod (.int .i64) (.prod (.slice (.int .u8)) .unit)))))), .val [] (.int .i64), .val [] (.int .i64)]) (b := [.arr [] (.int .u8)]) (G := fun ws rs => inner T an52 (modesOf F) 0 k 41 (S52 k) (ending T Try.f52 an52 0 K) cd52_1 (sh sp52_1 ws rs) N X) (fun x y => Eq.trans (by kernel_rfl) (Eq.trans (i52_1 k K N X x.1 x.2.2.1 x.2.2.2.1 k x.2.2.2.2.1 y.1).symm (by kernel_rfl))) ws rs
end
theorem e52 (k : Nat) (a0 : List ((Int × (Int × (Int × (Int × (List Int × Unit))))))) (a1 : Int) (K : List PV → List RowS → Option R) : callC T F k 52 [.val [(0, 0)] (.slice (.prod (.int .i64) (.prod (.int .i64) (.prod (.int .i64) (.prod (.int .i64) (.prod (.slice (.int .u8)) .unit)))))) a0, .val [] (.int .i64) a1] [] K = f52 k a0 a1 (fun z0 z1 => K [.rw 1, .val [] (.int .i64) z0] [⟨0, .arr [] (.int .u8) z1⟩]) := by
  rw [f52_def]
  cases k with
  | zero => rfl
  | succ k =>
    refine Eq.trans (show _ = exec T an52 (modesOf F) 0 k 41 (callC T F k) (ending T Try.f52 an52 0 K) (bodyOf Try.f52) ⟨argEnv 0 [.val [(0, 0)] (.slice (.prod (.int .i64) (.prod (.int .i64) (.prod (.int .i64) (.prod (.int .i64) (.prod (.slice (.int .u8)) .unit)))))) a0, .val [] (.int .i64) a1] (fun _ => none), rowsOf []⟩ (ending T Try.f52 an52 0 K) (fun _ _ => none) from by kernel_rfl) ?_
    rw [← S52_eq k, ← execS_eq T an52 (modesOf F) 0 k 41 (S52 k) (L52 k K) (bodyOf Try.f52) (cuts_of _ _ _ _ _ _ _ _ (bodyOf Try.f52) (l := [(1, sp52_1, cd52_1)]) (by kernel_rfl) ⟨l52_1 k K, trivial⟩)]
    kernel_rfl
noncomputable def s52 (k : Nat) (a : List PV) (r : List RowS) (K : List PV → List RowS → Option R) : Option R :=
  onShape [.val [(0, 0)] (.slice (.prod (.int .i64) (.prod (.int .i64) (.prod (.int .i64) (.prod (.int .i64) (.prod (.slice (.int .u8)) .unit)))))), .val [] (.int .i64)] [] (fun v => f52 k v.1.1 v.1.2.1 (fun z0 z1 => K [.rw 1, .val [] (.int .i64) z0] [⟨0, .arr [] (.int .u8) z1⟩])) (callC T F k 52 a r K) a r
theorem s52_eq (k : Nat) (a : List PV) (r : List RowS) (K : List PV → List RowS → Option R) : s52 k a r K = callC T F k 52 a r K := by
  unfold s52
  exact onShape_eq (a := [.val [(0, 0)] (.slice (.prod (.int .i64) (.prod (.int .i64) (.prod (.int .i64) (.prod (.int .i64) (.prod (.slice (.int .u8)) .unit)))))), .val [] (.int .i64)]) (b := []) (G := fun a r => callC T F k 52 a r K) (fun x y => Eq.trans (by kernel_rfl) (Eq.trans (e52 k x.1 x.2.1 K).symm (by kernel_rfl))) a r
end
section
variable {R : Type}
noncomputable def S74 (k g : Nat) (a : List PV) (r : List RowS) (K : List PV → List RowS → Option R) : Option R := bif g == 20 then s20 k a r K else bif g == 40 then s40 k a r K else bif g == 95 then s95 k a r K else callC T F k g a r K
theorem S74_eq (k : Nat) : S74 (R := R) k = callC T F k := by
  funext g a r K
  exact pick_eq (fun e => by subst e; exact s20_eq k a r K) (pick_eq (fun e => by subst e; exact s40_eq k a r K) (pick_eq (fun e => by subst e; exact s95_eq k a r K) (rfl)))
theorem e74 (k : Nat) (a0 : Int) (a1 : Int) (a2 : Int) (a3 : Int) (a4 : List Int) (K : List PV → List RowS → Option R) : callC T F k 74 [.agg [.val [] (.int .i64) a0, .val [] (.int .i64) a1, .val [] (.int .i64) a2, .val [] (.int .i64) a3, .val [(0, 0)] (.slice (.int .u8)) a4]] [] K = f74 k a0 a1 a2 a3 a4 (fun z0 => K [.rw 1] [⟨0, .arr [] (.int .u8) z0⟩]) := by
  rw [f74_def]
  cases k with
  | zero => rfl
  | succ k =>
    refine Eq.trans (show _ = exec T an74 (modesOf F) 0 k 26 (callC T F k) (ending T Try.f74 an74 0 K) (bodyOf Try.f74) ⟨argEnv 0 [.agg [.val [] (.int .i64) a0, .val [] (.int .i64) a1, .val [] (.int .i64) a2, .val [] (.int .i64) a3, .val [(0, 0)] (.slice (.int .u8)) a4]] (fun _ => none), rowsOf []⟩ (ending T Try.f74 an74 0 K) (fun _ _ => none) from by kernel_rfl) ?_
    rw [← S74_eq k, ← execS_eq T an74 (modesOf F) 0 k 26 (S74 k) (fun _ _ _ _ _ => none) (bodyOf Try.f74) (cuts_of _ _ _ _ _ _ _ _ (bodyOf Try.f74) (l := []) (by kernel_rfl) trivial)]
    kernel_rfl
noncomputable def s74 (k : Nat) (a : List PV) (r : List RowS) (K : List PV → List RowS → Option R) : Option R :=
  onShape [.agg [.val [] (.int .i64), .val [] (.int .i64), .val [] (.int .i64), .val [] (.int .i64), .val [(0, 0)] (.slice (.int .u8))]] [] (fun v => f74 k v.1.1.1 v.1.1.2.1 v.1.1.2.2.1 v.1.1.2.2.2.1 v.1.1.2.2.2.2.1 (fun z0 => K [.rw 1] [⟨0, .arr [] (.int .u8) z0⟩])) (callC T F k 74 a r K) a r
theorem s74_eq (k : Nat) (a : List PV) (r : List RowS) (K : List PV → List RowS → Option R) : s74 k a r K = callC T F k 74 a r K := by
  unfold s74
  exact onShape_eq (a := [.agg [.val [] (.int .i64), .val [] (.int .i64), .val [] (.int .i64), .val [] (.int .i64), .val [(0, 0)] (.slice (.int .u8))]]) (b := []) (G := fun a r => callC T F k 74 a r K) (fun x y => Eq.trans (by kernel_rfl) (Eq.trans (e74 k x.1.1 x.1.2.1 x.1.2.2.1 x.1.2.2.2.1 x.1.2.2.2.2.1 K).symm (by kernel_rfl))) a r
end
section
variable {R : Type}
noncomputable def S53 (k g : Nat) (a : List PV) (r : List RowS) (K : List PV → List RowS → Option R) : Option R := bif g == 36 then s36 k a r K else bif g == 40 then s40 k a r K else bif g == 74 then s74 k a r K else bif g == 76 then s76 k a r K else callC T F k g a r K
theorem S53_eq (k : Nat) : S53 (R := R) k = callC T F k := by
  funext g a r K
  exact pick_eq (fun e => by subst e; exact s36_eq k a r K) (pick_eq (fun e => by subst e; exact s40_eq k a r K) (pick_eq (fun e => by subst e; exact s74_eq k a r K) (pick_eq (fun e => by subst e; exact s76_eq k a r K) (rfl))))
section
variable {R : Type} (k : Nat) (K : List PV → List RowS → Option R)
noncomputable def L53_0 (ws : List PV) (rs : List RowS) (N : St → Option R) (X : Nat → St → Option R) : Option R :=
  onShape [.val [(0, 0)] (.slice (.prod (.int .i64) (.prod (.int .i64) (.prod (.int .i64) (.prod (.int .i64) (.prod (.slice (.int .u8)) .unit)))))), .val [] (.int .i64), .val [(0, 0)] (.slice (.prod (.int .i64) (.prod (.int .i64) (.prod (.int .i64) (.prod (.int .i64) (.prod (.slice (.int .u8)) .unit)))))), .val [] (.int .i64), .val [] (.int .i64)] [] (fun v => f53_0 k (fun z0 z1 => K [.rw 1, .val [] (.int .i64) z0] [⟨0, .arr [] (.int .u8) z1⟩]) (N (sh jn53_0 [.val [(0, 0)] (.slice (.prod (.int .i64) (.prod (.int .i64) (.prod (.int .i64) (.prod (.int .i64) (.prod (.slice (.int .u8)) .unit)))))) v.1.1] [])) v.1.1 v.1.2.1 v.1.2.2.1 v.1.2.2.2.1 k v.1.2.2.2.2.1) (inner T an53 (modesOf F) 0 k 49 (S53 k) (ending T Try.f53 an53 0 K) cd53_0 (sh sp53_0 ws rs) N X) ws rs
noncomputable def L53_2 (ws : List PV) (rs : List RowS) (N : St → Option R) (X : Nat → St → Option R) : Option R :=
  onShape [.rw 1, .val [(0, 0)] (.slice (.prod (.int .i64) (.prod (.int .i64) (.prod (.int .i64) (.prod (.int .i64) (.prod (.slice (.int .u8)) .unit)))))), .val [] (.int .i64), .val [] (.int .i64)] [.arr [] (.int .u8)] (fun v => f53_2 k (fun y2_0 => N (sh jn53_2 [.rw 1] [⟨0, .arr [] (.int .u8) y2_0⟩])) v.1.2.1 v.1.2.2.1 k v.1.2.2.2.1 v.2.1) (inner T an53 (modesOf F) 0 k 49 (S53 k) (ending T Try.f53 an53 0 K) cd53_2 (sh sp53_2 ws rs) N X) ws rs
noncomputable def L53 (id : Nat) (ws : List PV) (rs : List RowS) (N : St → Option R) (X : Nat → St → Option R) : Option R := bif id == 0 then L53_0 k K ws rs N X else bif id == 2 then L53_2 k K ws rs N X else none
theorem b53_0 (rec : St → Option R) (N : St → Option R) (X : Nat → St → Option R) (v0_0 : List ((Int × (Int × (Int × (Int × (List Int × Unit))))))) (v0_1 : Int) (v0_2 : List ((Int × (Int × (Int × (Int × (List Int × Unit))))))) (v0_3 : Int) (v0_4 : Int) :
    execS T an53 (modesOf F) 0 k 49 (S53 k) (L53 k K) (ending T Try.f53 an53 0 K) bd53_0 (sh sp53_0 [.val [(0, 0)] (.slice (.prod (.int .i64) (.prod (.int .i64) (.prod (.int .i64) (.prod (.int .i64) (.prod (.slice (.int .u8)) .unit)))))) v0_0, .val [] (.int .i64) v0_1, .val [(0, 0)] (.slice (.prod (.int .i64) (.prod (.int .i64) (.prod (.int .i64) (.prod (.int .i64) (.prod (.slice (.int .u8)) .unit)))))) v0_2, .val [] (.int .i64) v0_3, .val [] (.int .i64) v0_4] []) (fun st => atHead an53 0 bd53_0 st rec) (outX an53 0 0 N X) =
      f53_0b k (fun v0_4 => rec (sh sp53_0 [.val [(0, 0)] (.slice (.prod (.int .i64) (.prod (.int .i64) (.prod (.int .i64) (.prod (.int .i64) (.prod (.slice (.int .u8)) .unit)))))) v0_0, .val [] (.int .i64) v0_1, .val [(0, 0)] (.slice (.prod (.int .i64) (.prod (.int .i64) (.prod (.int .i64) (.prod (.int .i64) (.prod (.slice (.int .u8)) .unit)))))) v0_2, .val [] (.int .i64) v0_3, .val [] (.int .i64) v0_4] [])) (fun z0 z1 => K [.rw 1, .val [] (.int .i64) z0] [⟨0, .arr [] (.int .u8) z1⟩]) (N (sh jn53_0 [.val [(0, 0)] (.slice (.prod (.int .i64) (.prod (.int .i64) (.prod (.int .i64) (.prod (.int .i64) (.prod (.slice (.int .u8)) .unit)))))) v0_0] [])) v0_0 v0_1 v0_2 v0_3 v0_4 := by kernel_rfl
theorem i53_0 (N : St → Option R) (X : Nat → St → Option R) (v0_0 : List ((Int × (Int × (Int × (Int × (List Int × Unit))))))) (v0_1 : Int) (v0_2 : List ((Int × (Int × (Int × (Int × (List Int × Unit))))))) (v0_3 : Int) (m : Nat) : ∀ (v0_4 : Int),
    iter (atHead an53 0 bd53_0) m (fun st N' => exec T an53 (modesOf F) 0 k 49 (S53 k) (ending T Try.f53 an53 0 K) bd53_0 st N' (outX an53 0 0 N X)) (sh sp53_0 [.val [(0, 0)] (.slice (.prod (.int .i64) (.prod (.int .i64) (.prod (.int .i64) (.prod (.int .i64) (.prod (.slice (.int .u8)) .unit)))))) v0_0, .val [] (.int .i64) v0_1, .val [(0, 0)] (.slice (.prod (.int .i64) (.prod (.int .i64) (.prod (.int .i64) (.prod (.int .i64) (.prod (.slice (.int .u8)) .unit)))))) v0_2, .val [] (.int .i64) v0_3, .val [] (.int .i64) v0_4] []) = f53_0d k (fun z0 z1 => K [.rw 1, .val [] (.int .i64) z0] [⟨0, .arr [] (.int .u8) z1⟩]) (N (sh jn53_0 [.val [(0, 0)] (.slice (.prod (.int .i64) (.prod (.int .i64) (.prod (.int .i64) (.prod (.int .i64) (.prod (.slice (.int .u8)) .unit)))))) v0_0] [])) v0_0 v0_1 v0_2 v0_3 m v0_4 := by
  induction m with
  | zero => intros; rfl
  | succ m ih =>
    intro v0_4
    simp only [iter]
    rw [← execS_eq T an53 (modesOf F) 0 k 49 (S53 k) (L53 k K) bd53_0 (cuts_of _ _ _ _ _ _ _ _ bd53_0 (l := []) (by kernel_rfl) trivial)]
    refine (b53_0 k K _ N X v0_0 v0_1 v0_2 v0_3 v0_4).trans ?_
    simp only [f53_0d, ih]
theorem l53_0 (ws : List PV) (rs : List RowS) (N : St → Option R) (X : Nat → St → Option R) : L53 k K 0 ws rs N X = inner T an53 (modesOf F) 0 k 49 (S53 k) (ending T Try.f53 an53 0 K) cd53_0 (sh sp53_0 ws rs) N X := by
  show L53_0 k K ws rs N X = _
  unfold L53_0
  rw [f53_0_def]
  exact onShape_eq (a := [.val [(0, 0)] (.slice (.prod (.int .i64) (.prod (.int .i64) (.prod (.int .i64) (.prod (.int .i64) (.prod (.slice (.int .u8)) .unit)))))), .val [] (.int .i64), .val [(0, 0)] (.slice (.prod (.int .i64) (.prod (.int .i64) (.prod (.int .i64) (.prod (.int .i64) (.prod (.slice (.int .u8)) .unit)))))), .val [] (.int .i64), .val [] (.int .i64)]) (b := []) (G := fun ws rs => inner T an53 (modesOf F) 0 k 49 (S53 k) (ending T Try.f53 an53 0 K) cd53_0 (sh sp53_0 ws rs) N X) (fun x y => Eq.trans (by kernel_rfl) (Eq.trans (i53_0 k K N X x.1 x.2.1 x.2.2.1 x.2.2.2.1 k x.2.2.2.2.1).symm (by kernel_rfl))) ws rs
theorem b53_2 (rec : St → Option R) (N : St → Option R) (X : Nat → St → Option R) (v2_0 : List ((Int × (Int × (Int × (Int × (List Int × Unit))))))) (v2_1 : Int) (v2_2 : Int) (v2_3 : List Int) :
    execS T an53 (modesOf F) 0 k 49 (S53 k) (L53 k K) (ending T Try.f53 an53 0 K) bd53_2 (sh sp53_2 [.rw 1, .val [(0, 0)] (.slice (.prod (.int .i64) (.prod (.int .i64) (.prod (.int .i64) (.prod (.int .i64) (.prod (.slice (.int .u8)) .unit)))))) v2_0, .val [] (.int .i64) v2_1, .val [] (.int .i64) v2_2] [⟨0, .arr [] (.int .u8) v2_3⟩]) (fun st => atHead an53 0 bd53_2 st rec) (outX an53 0 2 N X) =
      f53_2b k (fun v2_2 v2_3 => rec (sh sp53_2 [.rw 1, .val [(0, 0)] (.slice (.prod (.int .i64) (.prod (.int .i64) (.prod (.int .i64) (.prod (.int .i64) (.prod (.slice (.int .u8)) .unit)))))) v2_0, .val [] (.int .i64) v2_1, .val [] (.int .i64) v2_2] [⟨0, .arr [] (.int .u8) v2_3⟩])) (fun y2_0 => N (sh jn53_2 [.rw 1] [⟨0, .arr [] (.int .u8) y2_0⟩])) v2_0 v2_1 v2_2 v2_3 := by kernel_rfl
theorem i53_2 (N : St → Option R) (X : Nat → St → Option R) (v2_0 : List ((Int × (Int × (Int × (Int × (List Int × Unit))))))) (v2_1 : Int) (m : Nat) : ∀ (v2_2 : Int) (v2_3 : List Int),
    iter (atHead an53 0 bd53_2) m (fun st N' => exec T an53 (modesOf F) 0 k 49 (S53 k) (ending T Try.f53 an53 0 K) bd53_2 st N' (outX an53 0 2 N X)) (sh sp53_2 [.rw 1, .val [(0, 0)] (.slice (.prod (.int .i64) (.prod (.int .i64) (.prod (.int .i64) (.prod (.int .i64) (.prod (.slice (.int .u8)) .unit)))))) v2_0, .val [] (.int .i64) v2_1, .val [] (.int .i64) v2_2] [⟨0, .arr [] (.int .u8) v2_3⟩]) = f53_2d k (fun y2_0 => N (sh jn53_2 [.rw 1] [⟨0, .arr [] (.int .u8) y2_0⟩])) v2_0 v2_1 m v2_2 v2_3 := by
  induction m with
  | zero => intros; rfl
  | succ m ih =>
    intro v2_2 v2_3
    simp only [iter]
    rw [← execS_eq T an53 (modesOf F) 0 k 49 (S53 k) (L53 k K) bd53_2 (cuts_of _ _ _ _ _ _ _ _ bd53_2 (l := []) (by kernel_rfl) trivial)]
    refine (b53_2 k K _ N X v2_0 v2_1 v2_2 v2_3).trans ?_
    simp only [f53_2d, ih]
theorem l53_2 (ws : List PV) (rs : List RowS) (N : St → Option R) (X : Nat → St → Option R) : L53 k K 2 ws rs N X = inner T an53 (modesOf F) 0 k 49 (S53 k) (ending T Try.f53 an53 0 K) cd53_2 (sh sp53_2 ws rs) N X := by
  show L53_2 k K ws rs N X = _
  unfold L53_2
  rw [f53_2_def]
  exact onShape_eq (a := [.rw 1, .val [(0, 0)] (.slice (.prod (.int .i64) (.prod (.int .i64) (.prod (.int .i64) (.prod (.int .i64) (.prod (.slice (.int .u8)) .unit)))))), .val [] (.int .i64), .val [] (.int .i64)]) (b := [.arr [] (.int .u8)]) (G := fun ws rs => inner T an53 (modesOf F) 0 k 49 (S53 k) (ending T Try.f53 an53 0 K) cd53_2 (sh sp53_2 ws rs) N X) (fun x y => Eq.trans (by kernel_rfl) (Eq.trans (i53_2 k K N X x.2.1 x.2.2.1 k x.2.2.2.1 y.1).symm (by kernel_rfl))) ws rs
end
theorem e53 (k : Nat) (a0 : List ((Int × (Int × (Int × (Int × (List Int × Unit))))))) (a1 : Int) (K : List PV → List RowS → Option R) : callC T F k 53 [.val [(0, 0)] (.slice (.prod (.int .i64) (.prod (.int .i64) (.prod (.int .i64) (.prod (.int .i64) (.prod (.slice (.int .u8)) .unit)))))) a0, .val [] (.int .i64) a1] [] K = f53 k a0 a1 (fun z0 z1 => K [.rw 1, .val [] (.int .i64) z0] [⟨0, .arr [] (.int .u8) z1⟩]) := by
  rw [f53_def]
  cases k with
  | zero => rfl
  | succ k =>
    refine Eq.trans (show _ = exec T an53 (modesOf F) 0 k 49 (callC T F k) (ending T Try.f53 an53 0 K) (bodyOf Try.f53) ⟨argEnv 0 [.val [(0, 0)] (.slice (.prod (.int .i64) (.prod (.int .i64) (.prod (.int .i64) (.prod (.int .i64) (.prod (.slice (.int .u8)) .unit)))))) a0, .val [] (.int .i64) a1] (fun _ => none), rowsOf []⟩ (ending T Try.f53 an53 0 K) (fun _ _ => none) from by kernel_rfl) ?_
    rw [← S53_eq k, ← execS_eq T an53 (modesOf F) 0 k 49 (S53 k) (L53 k K) (bodyOf Try.f53) (cuts_of _ _ _ _ _ _ _ _ (bodyOf Try.f53) (l := [(0, sp53_0, cd53_0), (2, sp53_2, cd53_2)]) (by kernel_rfl) ⟨l53_0 k K, l53_2 k K, trivial⟩)]
    kernel_rfl
noncomputable def s53 (k : Nat) (a : List PV) (r : List RowS) (K : List PV → List RowS → Option R) : Option R :=
  onShape [.val [(0, 0)] (.slice (.prod (.int .i64) (.prod (.int .i64) (.prod (.int .i64) (.prod (.int .i64) (.prod (.slice (.int .u8)) .unit)))))), .val [] (.int .i64)] [] (fun v => f53 k v.1.1 v.1.2.1 (fun z0 z1 => K [.rw 1, .val [] (.int .i64) z0] [⟨0, .arr [] (.int .u8) z1⟩])) (callC T F k 53 a r K) a r
theorem s53_eq (k : Nat) (a : List PV) (r : List RowS) (K : List PV → List RowS → Option R) : s53 k a r K = callC T F k 53 a r K := by
  unfold s53
  exact onShape_eq (a := [.val [(0, 0)] (.slice (.prod (.int .i64) (.prod (.int .i64) (.prod (.int .i64) (.prod (.int .i64) (.prod (.slice (.int .u8)) .unit)))))), .val [] (.int .i64)]) (b := []) (G := fun a r => callC T F k 53 a r K) (fun x y => Eq.trans (by kernel_rfl) (Eq.trans (e53 k x.1 x.2.1 K).symm (by kernel_rfl))) a r
end
section
variable {R : Type}
noncomputable def S54 (k g : Nat) (a : List PV) (r : List RowS) (K : List PV → List RowS → Option R) : Option R := bif g == 76 then s76 k a r K else bif g == 82 then s82 k a r K else callC T F k g a r K
theorem S54_eq (k : Nat) : S54 (R := R) k = callC T F k := by
  funext g a r K
  exact pick_eq (fun e => by subst e; exact s76_eq k a r K) (pick_eq (fun e => by subst e; exact s82_eq k a r K) (rfl))
section
variable {R : Type} (k : Nat) (K : List PV → List RowS → Option R)
noncomputable def L54_1 (ws : List PV) (rs : List RowS) (N : St → Option R) (X : Nat → St → Option R) : Option R :=
  onShape [.val [(0, 0)] (.slice (.int .u8)), .val [] (.int .i64), .rw 1, .rw 2, .val [] (.int .i64)] [.arr [] (.prod (.int .i64) (.prod (.int .i64) (.prod (.int .i64) (.prod (.int .i64) (.prod (.slice (.int .u8)) .unit))))), .arr [] (.int .i64)] (fun v => f54_1 k (fun y1_2 y1_3 y1_4 => N (sh jn54_1 [.val [(0, 0)] (.slice (.int .u8)) v.1.1, .val [] (.int .i64) v.1.2.1, .rw 1, .rw 2, .val [] (.int .i64) y1_2] [⟨0, .arr [] (.prod (.int .i64) (.prod (.int .i64) (.prod (.int .i64) (.prod (.int .i64) (.prod (.slice (.int .u8)) .unit))))) y1_3⟩, ⟨0, .arr [] (.int .i64) y1_4⟩])) v.1.1 v.1.2.1 v.1.2.2.2.2.1 v.2.1 v.2.2.1) (inner T an54 (modesOf F) 0 k 50 (S54 k) (ending T Try.f54 an54 0 K) cd54_1 (sh sp54_1 ws rs) N X) ws rs
noncomputable def L54_0 (ws : List PV) (rs : List RowS) (N : St → Option R) (X : Nat → St → Option R) : Option R :=
  onShape [.val [(0, 0)] (.slice (.int .u8)), .val [] (.int .i64), .rw 1, .rw 2, .val [] (.int .i64)] [.arr [] (.prod (.int .i64) (.prod (.int .i64) (.prod (.int .i64) (.prod (.int .i64) (.prod (.slice (.int .u8)) .unit))))), .arr [] (.int .i64)] (fun v => f54_0 k (fun y0_0 y0_1 => N (sh jn54_0 [.rw 1, .rw 2] [⟨0, .arr [] (.prod (.int .i64) (.prod (.int .i64) (.prod (.int .i64) (.prod (.int .i64) (.prod (.slice (.int .u8)) .unit))))) y0_0⟩, ⟨0, .arr [] (.int .i64) y0_1⟩])) v.1.1 v.1.2.1 k v.1.2.2.2.2.1 v.2.1 v.2.2.1) (inner T an54 (modesOf F) 0 k 50 (S54 k) (ending T Try.f54 an54 0 K) cd54_0 (sh sp54_0 ws rs) N X) ws rs
noncomputable def L54 (id : Nat) (ws : List PV) (rs : List RowS) (N : St → Option R) (X : Nat → St → Option R) : Option R := bif id == 1 then L54_1 k K ws rs N X else bif id == 0 then L54_0 k K ws rs N X else none
theorem l54_1 (ws : List PV) (rs : List RowS) (N : St → Option R) (X : Nat → St → Option R) : L54 k K 1 ws rs N X = inner T an54 (modesOf F) 0 k 50 (S54 k) (ending T Try.f54 an54 0 K) cd54_1 (sh sp54_1 ws rs) N X := by
  show L54_1 k K ws rs N X = _
  unfold L54_1
  rw [f54_1_def]
  exact onShape_eq (a := [.val [(0, 0)] (.slice (.int .u8)), .val [] (.int .i64), .rw 1, .rw 2, .val [] (.int .i64)]) (b := [.arr [] (.prod (.int .i64) (.prod (.int .i64) (.prod (.int .i64) (.prod (.int .i64) (.prod (.slice (.int .u8)) .unit))))), .arr [] (.int .i64)]) (G := fun ws rs => inner T an54 (modesOf F) 0 k 50 (S54 k) (ending T Try.f54 an54 0 K) cd54_1 (sh sp54_1 ws rs) N X) (fun x y => Eq.trans (by kernel_rfl) (innerS_eq T an54 (modesOf F) 0 k 50 (S54 k) (L54 k K) cd54_1 (l := []) (by kernel_rfl) trivial _ N X)) ws rs
theorem b54_0 (rec : St → Option R) (N : St → Option R) (X : Nat → St → Option R) (v0_0 : List Int) (v0_1 : Int) (v0_2 : Int) (v0_3 : List (Int × (Int × (Int × (Int × (List Int × Unit)))))) (v0_4 : List Int) :
    execS T an54 (modesOf F) 0 k 50 (S54 k) (L54 k K) (ending T Try.f54 an54 0 K) bd54_0 (sh sp54_0 [.val [(0, 0)] (.slice (.int .u8)) v0_0, .val [] (.int .i64) v0_1, .rw 1, .rw 2, .val [] (.int .i64) v0_2] [⟨0, .arr [] (.prod (.int .i64) (.prod (.int .i64) (.prod (.int .i64) (.prod (.int .i64) (.prod (.slice (.int .u8)) .unit))))) v0_3⟩, ⟨0, .arr [] (.int .i64) v0_4⟩]) (fun st => atHead an54 0 bd54_0 st rec) (outX an54 0 0 N X) =
      f54_0b k (fun v0_2 v0_3 v0_4 => rec (sh sp54_0 [.val [(0, 0)] (.slice (.int .u8)) v0_0, .val [] (.int .i64) v0_1, .rw 1, .rw 2, .val [] (.int .i64) v0_2] [⟨0, .arr [] (.prod (.int .i64) (.prod (.int .i64) (.prod (.int .i64) (.prod (.int .i64) (.prod (.slice (.int .u8)) .unit))))) v0_3⟩, ⟨0, .arr [] (.int .i64) v0_4⟩])) (fun y0_0 y0_1 => N (sh jn54_0 [.rw 1, .rw 2] [⟨0, .arr [] (.prod (.int .i64) (.prod (.int .i64) (.prod (.int .i64) (.prod (.int .i64) (.prod (.slice (.int .u8)) .unit))))) y0_0⟩, ⟨0, .arr [] (.int .i64) y0_1⟩])) v0_0 v0_1 v0_2 v0_3 v0_4 := by kernel_rfl
theorem i54_0 (N : St → Option R) (X : Nat → St → Option R) (v0_0 : List Int) (v0_1 : Int) (m : Nat) : ∀ (v0_2 : Int) (v0_3 : List (Int × (Int × (Int × (Int × (List Int × Unit)))))) (v0_4 : List Int),
    iter (atHead an54 0 bd54_0) m (fun st N' => exec T an54 (modesOf F) 0 k 50 (S54 k) (ending T Try.f54 an54 0 K) bd54_0 st N' (outX an54 0 0 N X)) (sh sp54_0 [.val [(0, 0)] (.slice (.int .u8)) v0_0, .val [] (.int .i64) v0_1, .rw 1, .rw 2, .val [] (.int .i64) v0_2] [⟨0, .arr [] (.prod (.int .i64) (.prod (.int .i64) (.prod (.int .i64) (.prod (.int .i64) (.prod (.slice (.int .u8)) .unit))))) v0_3⟩, ⟨0, .arr [] (.int .i64) v0_4⟩]) = f54_0d k (fun y0_0 y0_1 => N (sh jn54_0 [.rw 1, .rw 2] [⟨0, .arr [] (.prod (.int .i64) (.prod (.int .i64) (.prod (.int .i64) (.prod (.int .i64) (.prod (.slice (.int .u8)) .unit))))) y0_0⟩, ⟨0, .arr [] (.int .i64) y0_1⟩])) v0_0 v0_1 m v0_2 v0_3 v0_4 := by
  induction m with
  | zero => intros; rfl
  | succ m ih =>
    intro v0_2 v0_3 v0_4
    simp only [iter]
    rw [← execS_eq T an54 (modesOf F) 0 k 50 (S54 k) (L54 k K) bd54_0 (cuts_of _ _ _ _ _ _ _ _ bd54_0 (l := [(1, sp54_1, cd54_1)]) (by kernel_rfl) ⟨l54_1 k K, trivial⟩)]
    refine (b54_0 k K _ N X v0_0 v0_1 v0_2 v0_3 v0_4).trans ?_
    simp only [f54_0d, ih]
theorem l54_0 (ws : List PV) (rs : List RowS) (N : St → Option R) (X : Nat → St → Option R) : L54 k K 0 ws rs N X = inner T an54 (modesOf F) 0 k 50 (S54 k) (ending T Try.f54 an54 0 K) cd54_0 (sh sp54_0 ws rs) N X := by
  show L54_0 k K ws rs N X = _
  unfold L54_0
  rw [f54_0_def]
  exact onShape_eq (a := [.val [(0, 0)] (.slice (.int .u8)), .val [] (.int .i64), .rw 1, .rw 2, .val [] (.int .i64)]) (b := [.arr [] (.prod (.int .i64) (.prod (.int .i64) (.prod (.int .i64) (.prod (.int .i64) (.prod (.slice (.int .u8)) .unit))))), .arr [] (.int .i64)]) (G := fun ws rs => inner T an54 (modesOf F) 0 k 50 (S54 k) (ending T Try.f54 an54 0 K) cd54_0 (sh sp54_0 ws rs) N X) (fun x y => Eq.trans (by kernel_rfl) (Eq.trans (i54_0 k K N X x.1 x.2.1 k x.2.2.2.2.1 y.1 y.2.1).symm (by kernel_rfl))) ws rs
end
theorem e54 (k : Nat) (a0 : List Int) (a1 : Int) (K : List PV → List RowS → Option R) : callC T F k 54 [.val [(0, 0)] (.slice (.int .u8)) a0, .val [] (.int .i64) a1] [] K = f54 k a0 a1 (fun z0 z1 z2 => K [.rw 1, .rw 2, .val [] (.int .i64) z0] [⟨0, .arr [] (.prod (.int .i64) (.prod (.int .i64) (.prod (.int .i64) (.prod (.int .i64) (.prod (.slice (.int .u8)) .unit))))) z1⟩, ⟨0, .arr [] (.int .i64) z2⟩]) := by
  rw [f54_def]
  cases k with
  | zero => rfl
  | succ k =>
    refine Eq.trans (show _ = exec T an54 (modesOf F) 0 k 50 (callC T F k) (ending T Try.f54 an54 0 K) (bodyOf Try.f54) ⟨argEnv 0 [.val [(0, 0)] (.slice (.int .u8)) a0, .val [] (.int .i64) a1] (fun _ => none), rowsOf []⟩ (ending T Try.f54 an54 0 K) (fun _ _ => none) from by kernel_rfl) ?_
    rw [← S54_eq k, ← execS_eq T an54 (modesOf F) 0 k 50 (S54 k) (L54 k K) (bodyOf Try.f54) (cuts_of _ _ _ _ _ _ _ _ (bodyOf Try.f54) (l := [(0, sp54_0, cd54_0)]) (by kernel_rfl) ⟨l54_0 k K, trivial⟩)]
    kernel_rfl
noncomputable def s54 (k : Nat) (a : List PV) (r : List RowS) (K : List PV → List RowS → Option R) : Option R :=
  onShape [.val [(0, 0)] (.slice (.int .u8)), .val [] (.int .i64)] [] (fun v => f54 k v.1.1 v.1.2.1 (fun z0 z1 z2 => K [.rw 1, .rw 2, .val [] (.int .i64) z0] [⟨0, .arr [] (.prod (.int .i64) (.prod (.int .i64) (.prod (.int .i64) (.prod (.int .i64) (.prod (.slice (.int .u8)) .unit))))) z1⟩, ⟨0, .arr [] (.int .i64) z2⟩])) (callC T F k 54 a r K) a r
theorem s54_eq (k : Nat) (a : List PV) (r : List RowS) (K : List PV → List RowS → Option R) : s54 k a r K = callC T F k 54 a r K := by
  unfold s54
  exact onShape_eq (a := [.val [(0, 0)] (.slice (.int .u8)), .val [] (.int .i64)]) (b := []) (G := fun a r => callC T F k 54 a r K) (fun x y => Eq.trans (by kernel_rfl) (Eq.trans (e54 k x.1 x.2.1 K).symm (by kernel_rfl))) a r
end
section
variable {R : Type}
noncomputable def S55 (k g : Nat) (a : List PV) (r : List RowS) (K : List PV → List RowS → Option R) : Option R := callC T F k g a r K
theorem S55_eq (k : Nat) : S55 (R := R) k = callC T F k := by
  funext g a r K
  exact rfl
section
variable {R : Type} (k : Nat) (K : List PV → List RowS → Option R)
noncomputable def L55_0 (ws : List PV) (rs : List RowS) (N : St → Option R) (X : Nat → St → Option R) : Option R :=
  onShape [.val [(0, 0)] (.slice (.int .i64)), .val [(0, 0)] (.slice (.int .i64)), .val [] (.int .i64), .val [] (.int .i64)] [] (fun v => f55_0 k (fun z0 => K [.val [] .bool z0] []) (N (sh jn55_0 [] [])) v.1.1 v.1.2.1 v.1.2.2.1 k v.1.2.2.2.1) (inner T an55 (modesOf F) 0 k 26 (S55 k) (ending T Try.f55 an55 0 K) cd55_0 (sh sp55_0 ws rs) N X) ws rs
noncomputable def L55 (id : Nat) (ws : List PV) (rs : List RowS) (N : St → Option R) (X : Nat → St → Option R) : Option R := bif id == 0 then L55_0 k K ws rs N X else none
theorem b55_0 (rec : St → Option R) (N : St → Option R) (X : Nat → St → Option R) (v0_0 : List Int) (v0_1 : List Int) (v0_2 : Int) (v0_3 : Int) :
    execS T an55 (modesOf F) 0 k 26 (S55 k) (L55 k K) (ending T Try.f55 an55 0 K) bd55_0 (sh sp55_0 [.val [(0, 0)] (.slice (.int .i64)) v0_0, .val [(0, 0)] (.slice (.int .i64)) v0_1, .val [] (.int .i64) v0_2, .val [] (.int .i64) v0_3] []) (fun st => atHead an55 0 bd55_0 st rec) (outX an55 0 0 N X) =
      f55_0b k (fun v0_3 => rec (sh sp55_0 [.val [(0, 0)] (.slice (.int .i64)) v0_0, .val [(0, 0)] (.slice (.int .i64)) v0_1, .val [] (.int .i64) v0_2, .val [] (.int .i64) v0_3] [])) (fun z0 => K [.val [] .bool z0] []) (N (sh jn55_0 [] [])) v0_0 v0_1 v0_2 v0_3 := by kernel_rfl
theorem i55_0 (N : St → Option R) (X : Nat → St → Option R) (v0_0 : List Int) (v0_1 : List Int) (v0_2 : Int) (m : Nat) : ∀ (v0_3 : Int),
    iter (atHead an55 0 bd55_0) m (fun st N' => exec T an55 (modesOf F) 0 k 26 (S55 k) (ending T Try.f55 an55 0 K) bd55_0 st N' (outX an55 0 0 N X)) (sh sp55_0 [.val [(0, 0)] (.slice (.int .i64)) v0_0, .val [(0, 0)] (.slice (.int .i64)) v0_1, .val [] (.int .i64) v0_2, .val [] (.int .i64) v0_3] []) = f55_0d k (fun z0 => K [.val [] .bool z0] []) (N (sh jn55_0 [] [])) v0_0 v0_1 v0_2 m v0_3 := by
  induction m with
  | zero => intros; rfl
  | succ m ih =>
    intro v0_3
    simp only [iter]
    rw [← execS_eq T an55 (modesOf F) 0 k 26 (S55 k) (L55 k K) bd55_0 (cuts_of _ _ _ _ _ _ _ _ bd55_0 (l := []) (by kernel_rfl) trivial)]
    refine (b55_0 k K _ N X v0_0 v0_1 v0_2 v0_3).trans ?_
    simp only [f55_0d, ih]
theorem l55_0 (ws : List PV) (rs : List RowS) (N : St → Option R) (X : Nat → St → Option R) : L55 k K 0 ws rs N X = inner T an55 (modesOf F) 0 k 26 (S55 k) (ending T Try.f55 an55 0 K) cd55_0 (sh sp55_0 ws rs) N X := by
  show L55_0 k K ws rs N X = _
  unfold L55_0
  rw [f55_0_def]
  exact onShape_eq (a := [.val [(0, 0)] (.slice (.int .i64)), .val [(0, 0)] (.slice (.int .i64)), .val [] (.int .i64), .val [] (.int .i64)]) (b := []) (G := fun ws rs => inner T an55 (modesOf F) 0 k 26 (S55 k) (ending T Try.f55 an55 0 K) cd55_0 (sh sp55_0 ws rs) N X) (fun x y => Eq.trans (by kernel_rfl) (Eq.trans (i55_0 k K N X x.1 x.2.1 x.2.2.1 k x.2.2.2.1).symm (by kernel_rfl))) ws rs
end
theorem e55 (k : Nat) (a0 : List Int) (a1 : List Int) (K : List PV → List RowS → Option R) : callC T F k 55 [.val [(0, 0)] (.slice (.int .i64)) a0, .val [(0, 0)] (.slice (.int .i64)) a1] [] K = f55 k a0 a1 (fun z0 => K [.val [] .bool z0] []) := by
  rw [f55_def]
  cases k with
  | zero => rfl
  | succ k =>
    refine Eq.trans (show _ = exec T an55 (modesOf F) 0 k 26 (callC T F k) (ending T Try.f55 an55 0 K) (bodyOf Try.f55) ⟨argEnv 0 [.val [(0, 0)] (.slice (.int .i64)) a0, .val [(0, 0)] (.slice (.int .i64)) a1] (fun _ => none), rowsOf []⟩ (ending T Try.f55 an55 0 K) (fun _ _ => none) from by kernel_rfl) ?_
    rw [← S55_eq k, ← execS_eq T an55 (modesOf F) 0 k 26 (S55 k) (L55 k K) (bodyOf Try.f55) (cuts_of _ _ _ _ _ _ _ _ (bodyOf Try.f55) (l := [(0, sp55_0, cd55_0)]) (by kernel_rfl) ⟨l55_0 k K, trivial⟩)]
    kernel_rfl
noncomputable def s55 (k : Nat) (a : List PV) (r : List RowS) (K : List PV → List RowS → Option R) : Option R :=
  onShape [.val [(0, 0)] (.slice (.int .i64)), .val [(0, 0)] (.slice (.int .i64))] [] (fun v => f55 k v.1.1 v.1.2.1 (fun z0 => K [.val [] .bool z0] [])) (callC T F k 55 a r K) a r
theorem s55_eq (k : Nat) (a : List PV) (r : List RowS) (K : List PV → List RowS → Option R) : s55 k a r K = callC T F k 55 a r K := by
  unfold s55
  exact onShape_eq (a := [.val [(0, 0)] (.slice (.int .i64)), .val [(0, 0)] (.slice (.int .i64))]) (b := []) (G := fun a r => callC T F k 55 a r K) (fun x y => Eq.trans (by kernel_rfl) (Eq.trans (e55 k x.1 x.2.1 K).symm (by kernel_rfl))) a r
end
section
variable {R : Type}
noncomputable def S13 (k g : Nat) (a : List PV) (r : List RowS) (K : List PV → List RowS → Option R) : Option R := bif g == 21 then s21 k a r K else bif g == 32 then s32 k a r K else bif g == 45 then s45 k a r K else bif g == 46 then s46 k a r K else bif g == 52 then s52 k a r K else bif g == 53 then s53 k a r K else bif g == 54 then s54 k a r K else bif g == 55 then s55 k a r K else callC T F k g a r K
theorem S13_eq (k : Nat) : S13 (R := R) k = callC T F k := by
  funext g a r K
  exact pick_eq (fun e => by subst e; exact s21_eq k a r K) (pick_eq (fun e => by subst e; exact s32_eq k a r K) (pick_eq (fun e => by subst e; exact s45_eq k a r K) (pick_eq (fun e => by subst e; exact s46_eq k a r K) (pick_eq (fun e => by subst e; exact s52_eq k a r K) (pick_eq (fun e => by subst e; exact s53_eq k a r K) (pick_eq (fun e => by subst e; exact s54_eq k a r K) (pick_eq (fun e => by subst e; exact s55_eq k a r K) (rfl))))))))
theorem e13 (k : Nat) (a0 : List ((Int × (Int × (Int × (Int × (List Int × Unit))))))) (a1 : Int) (a2 : List Int) (K : List PV → List RowS → Option R) : callC T F k 13 [.val [(0, 0)] (.slice (.prod (.int .i64) (.prod (.int .i64) (.prod (.int .i64) (.prod (.int .i64) (.prod (.slice (.int .u8)) .unit)))))) a0, .val [] (.int .i64) a1, .val [(0, 0)] (.slice (.int .u8)) a2] [] K = f13 k a0 a1 a2 (fun z0 => K [.val [] .bool z0] []) := by
  rw [f13_def]
  cases k with
  | zero => rfl
  | succ k =>
    refine Eq.trans (show _ = exec T an13 (modesOf F) 0 k 66 (callC T F k) (ending T Try.f13 an13 0 K) (bodyOf Try.f13) ⟨argEnv 0 [.val [(0, 0)] (.slice (.prod (.int .i64) (.prod (.int .i64) (.prod (.int .i64) (.prod (.int .i64) (.prod (.slice (.int .u8)) .unit)))))) a0, .val [] (.int .i64) a1, .val [(0, 0)] (.slice (.int .u8)) a2] (fun _ => none), rowsOf []⟩ (ending T Try.f13 an13 0 K) (fun _ _ => none) from by kernel_rfl) ?_
    rw [← S13_eq k, ← execS_eq T an13 (modesOf F) 0 k 66 (S13 k) (fun _ _ _ _ _ => none) (bodyOf Try.f13) (cuts_of _ _ _ _ _ _ _ _ (bodyOf Try.f13) (l := []) (by kernel_rfl) trivial)]
    kernel_rfl
noncomputable def s13 (k : Nat) (a : List PV) (r : List RowS) (K : List PV → List RowS → Option R) : Option R :=
  onShape [.val [(0, 0)] (.slice (.prod (.int .i64) (.prod (.int .i64) (.prod (.int .i64) (.prod (.int .i64) (.prod (.slice (.int .u8)) .unit)))))), .val [] (.int .i64), .val [(0, 0)] (.slice (.int .u8))] [] (fun v => f13 k v.1.1 v.1.2.1 v.1.2.2.1 (fun z0 => K [.val [] .bool z0] [])) (callC T F k 13 a r K) a r
theorem s13_eq (k : Nat) (a : List PV) (r : List RowS) (K : List PV → List RowS → Option R) : s13 k a r K = callC T F k 13 a r K := by
  unfold s13
  exact onShape_eq (a := [.val [(0, 0)] (.slice (.prod (.int .i64) (.prod (.int .i64) (.prod (.int .i64) (.prod (.int .i64) (.prod (.slice (.int .u8)) .unit)))))), .val [] (.int .i64), .val [(0, 0)] (.slice (.int .u8))]) (b := []) (G := fun a r => callC T F k 13 a r K) (fun x y => Eq.trans (by kernel_rfl) (Eq.trans (e13 k x.1 x.2.1 x.2.2.1 K).symm (by kernel_rfl))) a r
end
section
variable {R : Type}
noncomputable def S14 (k g : Nat) (a : List PV) (r : List RowS) (K : List PV → List RowS → Option R) : Option R := bif g == 21 then s21 k a r K else bif g == 27 then s27 k a r K else bif g == 48 then s48 k a r K else bif g == 50 then s50 k a r K else callC T F k g a r K
theorem S14_eq (k : Nat) : S14 (R := R) k = callC T F k := by
  funext g a r K
  exact pick_eq (fun e => by subst e; exact s21_eq k a r K) (pick_eq (fun e => by subst e; exact s27_eq k a r K) (pick_eq (fun e => by subst e; exact s48_eq k a r K) (pick_eq (fun e => by subst e; exact s50_eq k a r K) (rfl))))
section
variable {R : Type} (k : Nat) (K : List PV → List RowS → Option R)
noncomputable def L14_1000010 (ws : List PV) (rs : List RowS) (N : St → Option R) (X : Nat → St → Option R) : Option R :=
  onShape [.val [] (.int .i64), .rw 1, .val [] (.int .i64), .rw 2, .ptr 3 0, .val [(0, 0)] (.slice (.prod (.int .i64) (.prod .bool (.prod (.int .i64) (.prod (.int .i64) (.prod (.slice (.int .u8)) .unit)))))), .val [] (.int .i64), .val [] (.int .i64), .val [] .bool] [.arr [] (.prod (.int .i64) (.prod .bool (.prod (.int .i64) (.prod (.int .i64) (.prod (.slice (.int .u8)) .unit))))), .arr [(0, 0)] (.prod (.int .i64) (.prod .bool (.prod (.int .i64) (.prod (.int .i64) (.prod (.slice (.int .u8)) .unit))))), .vars [.val [] (.int .i64), .val [] .bool, .val [] (.int .i64), .val [] (.int .i64), .val [(0, 0)] (.slice (.int .u8))]] (fun v => f14_1000010 k (fun yN_6 => N (sh fi14_10 [.val [] (.int .i64) v.1.1, .rw 1, .val [] (.int .i64) v.1.2.2.1, .rw 2, .val [(0, 0)] (.slice (.prod (.int .i64) (.prod .bool (.prod (.int .i64) (.prod (.int .i64) (.prod (.slice (.int .u8)) .unit)))))) v.1.2.2.2.2.2.1, .val [] (.int .i64) v.1.2.2.2.2.2.2.1, .val [] (.int .i64) v.1.2.2.2.2.2.2.2.1] [⟨0, .arr [] (.prod (.int .i64) (.prod .bool (.prod (.int .i64) (.prod (.int .i64) (.prod (.slice (.int .u8)) .unit))))) v.2.1⟩, ⟨0, .arr [(0, 0)] (.prod (.int .i64) (.prod .bool (.prod (.int .i64) (.prod (.int .i64) (.prod (.slice (.int .u8)) .unit))))) yN_6⟩])) v.1.1 v.1.2.2.1 v.1.2.2.2.2.2.1 v.1.2.2.2.2.2.2.1 v.1.2.2.2.2.2.2.2.1 v.1.2.2.2.2.2.2.2.2.1 v.2.1 v.2.2.1 v.2.2.2.1.1 v.2.2.2.1.2.1 v.2.2.2.1.2.2.1 v.2.2.2.1.2.2.2.1 v.2.2.2.1.2.2.2.2.1) (inner T an14 (modesOf F) 0 k 70 (S14 k) (ending T Try.f14 an14 0 K) cd14_1000010 (sh sp14_1000010 ws rs) N X) ws rs
noncomputable def L14_0 (ws : List PV) (rs : List RowS) (N : St → Option R) (X : Nat → St → Option R) : Option R :=
  onShape [.val [] (.int .i64), .rw 1, .val [] (.int .i64), .rw 2, .val [(0, 0)] (.slice (.prod (.int .i64) (.prod .bool (.prod (.int .i64) (.prod (.int .i64) (.prod (.slice (.int .u8)) .unit)))))), .val [] (.int .i64), .val [] (.int .i64)] [.arr [] (.prod (.int .i64) (.prod .bool (.prod (.int .i64) (.prod (.int .i64) (.prod (.slice (.int .u8)) .unit))))), .arr [(0, 0)] (.prod (.int .i64) (.prod .bool (.prod (.int .i64) (.prod (.int .i64) (.prod (.slice (.int .u8)) .unit)))))] (fun v => f14_0 k (fun y0_3 => N (sh jn14_0 [.val [] (.int .i64) v.1.1, .rw 1, .val [] (.int .i64) v.1.2.2.1, .rw 2] [⟨0, .arr [] (.prod (.int .i64) (.prod .bool (.prod (.int .i64) (.prod (.int .i64) (.prod (.slice (.int .u8)) .unit))))) v.2.1⟩, ⟨0, .arr [(0, 0)] (.prod (.int .i64) (.prod .bool (.prod (.int .i64) (.prod (.int .i64) (.prod (.slice (.int .u8)) .unit))))) y0_3⟩])) v.1.1 v.1.2.2.1 v.1.2.2.2.2.1 v.1.2.2.2.2.2.1 v.2.1 k v.1.2.2.2.2.2.2.1 v.2.2.1) (inner T an14 (modesOf F) 0 k 70 (S14 k) (ending T Try.f14 an14 0 K) cd14_0 (sh sp14_0 ws rs) N X) ws rs
noncomputable def L14 (id : Nat) (ws : List PV) (rs : List RowS) (N : St → Option R) (X : Nat → St → Option R) : Option R := bif id == 1000010 then L14_1000010 k K ws rs N X else bif id == 0 then L14_0 k K ws rs N X else none
theorem l14_1000010 (ws : List PV) (rs : List RowS) (N : St → Option R) (X : Nat → St → Option R) : L14 k K 1000010 ws rs N X = inner T an14 (modesOf F) 0 k 70 (S14 k) (ending T Try.f14 an14 0 K) cd14_1000010 (sh sp14_1000010 ws rs) N X := by
  show L14_1000010 k K ws rs N X = _
  unfold L14_1000010
  rw [f14_1000010_def]
  exact onShape_eq (a := [.val [] (.int .i64), .rw 1, .val [] (.int .i64), .rw 2, .ptr 3 0, .val [(0, 0)] (.slice (.prod (.int .i64) (.prod .bool (.prod (.int .i64) (.prod (.int .i64) (.prod (.slice (.int .u8)) .unit)))))), .val [] (.int .i64), .val [] (.int .i64), .val [] .bool]) (b := [.arr [] (.prod (.int .i64) (.prod .bool (.prod (.int .i64) (.prod (.int .i64) (.prod (.slice (.int .u8)) .unit))))), .arr [(0, 0)] (.prod (.int .i64) (.prod .bool (.prod (.int .i64) (.prod (.int .i64) (.prod (.slice (.int .u8)) .unit))))), .vars [.val [] (.int .i64), .val [] .bool, .val [] (.int .i64), .val [] (.int .i64), .val [(0, 0)] (.slice (.int .u8))]]) (G := fun ws rs => inner T an14 (modesOf F) 0 k 70 (S14 k) (ending T Try.f14 an14 0 K) cd14_1000010 (sh sp14_1000010 ws rs) N X) (fun x y => Eq.trans (by kernel_rfl) (innerS_eq T an14 (modesOf F) 0 k 70 (S14 k) (L14 k K) cd14_1000010 (l := []) (by kernel_rfl) trivial _ N X)) ws rs
theorem b14_0 (rec : St → Option R) (N : St → Option R) (X : Nat → St → Option R) (v0_0 : Int) (v0_1 : Int) (v0_2 : List ((Int × (Bool × (Int × (Int × (List Int × Unit))))))) (v0_3 : Int) (v0_5 : List (Int × (Bool × (Int × (Int × (List Int × Unit)))))) (v0_4 : Int) (v0_6 : List (Int × (Bool × (Int × (Int × (List Int × Unit)))))) :
    execS T an14 (modesOf F) 0 k 70 (S14 k) (L14 k K) (ending T Try.f14 an14 0 K) bd14_0 (sh sp14_0 [.val [] (.int .i64) v0_0, .rw 1, .val [] (.int .i64) v0_1, .rw 2, .val [(0, 0)] (.slice (.prod (.int .i64) (.prod .bool (.prod (.int .i64) (.prod (.int .i64) (.prod (.slice (.int .u8)) .unit)))))) v0_2, .val [] (.int .i64) v0_3, .val [] (.int .i64) v0_4] [⟨0, .arr [] (.prod (.int .i64) (.prod .bool (.prod (.int .i64) (.prod (.int .i64) (.prod (.slice (.int .u8)) .unit))))) v0_5⟩, ⟨0, .arr [(0, 0)] (.prod (.int .i64) (.prod .bool (.prod (.int .i64) (.prod (.int .i64) (.prod (.slice (.int .u8)) .unit))))) v0_6⟩]) (fun st => atHead an14 0 bd14_0 st rec) (outX an14 0 0 N X) =
      f14_0b k (fun v0_4 v0_6 => rec (sh sp14_0 [.val [] (.int .i64) v0_0, .rw 1, .val [] (.int .i64) v0_1, .rw 2, .val [(0, 0)] (.slice (.prod (.int .i64) (.prod .bool (.prod (.int .i64) (.prod (.int .i64) (.prod (.slice (.int .u8)) .unit)))))) v0_2, .val [] (.int .i64) v0_3, .val [] (.int .i64) v0_4] [⟨0, .arr [] (.prod (.int .i64) (.prod .bool (.prod (.int .i64) (.prod (.int .i64) (.prod (.slice (.int .u8)) .unit))))) v0_5⟩, ⟨0, .arr [(0, 0)] (.prod (.int .i64) (.prod .bool (.prod (.int .i64) (.prod (.int .i64) (.prod (.slice (.int .u8)) .unit))))) v0_6⟩])) (fun y0_3 => N (sh jn14_0 [.val [] (.int .i64) v0_0, .rw 1, .val [] (.int .i64) v0_1, .rw 2] [⟨0, .arr [] (.prod (.int .i64) (.prod .bool (.prod (.int .i64) (.prod (.int .i64) (.prod (.slice (.int .u8)) .unit))))) v0_5⟩, ⟨0, .arr [(0, 0)] (.prod (.int .i64) (.prod .bool (.prod (.int .i64) (.prod (.int .i64) (.prod (.slice (.int .u8)) .unit))))) y0_3⟩])) v0_0 v0_1 v0_2 v0_3 v0_5 v0_4 v0_6 := by kernel_rfl
theorem i14_0 (N : St → Option R) (X : Nat → St → Option R) (v0_0 : Int) (v0_1 : Int) (v0_2 : List ((Int × (Bool × (Int × (Int × (List Int × Unit))))))) (v0_3 : Int) (v0_5 : List (Int × (Bool × (Int × (Int × (List Int × Unit)))))) (m : Nat) : ∀ (v0_4 : Int) (v0_6 : List (Int × (Bool × (Int × (Int × (List Int × Unit)))))),
    iter (atHead an14 0 bd14_0) m (fun st N' => exec T an14 (modesOf F) 0 k 70 (S14 k) (ending T Try.f14 an14 0 K) bd14_0 st N' (outX an14 0 0 N X)) (sh sp14_0 [.val [] (.int .i64) v0_0, .rw 1, .val [] (.int .i64) v0_1, .rw 2, .val [(0, 0)] (.slice (.prod (.int .i64) (.prod .bool (.prod (.int .i64) (.prod (.int .i64) (.prod (.slice (.int .u8)) .unit)))))) v0_2, .val [] (.int .i64) v0_3, .val [] (.int .i64) v0_4] [⟨0, .arr [] (.prod (.int .i64) (.prod .bool (.prod (.int .i64) (.prod (.int .i64) (.prod (.slice (.int .u8)) .unit))))) v0_5⟩, ⟨0, .arr [(0, 0)] (.prod (.int .i64) (.prod .bool (.prod (.int .i64) (.prod (.int .i64) (.prod (.slice (.int .u8)) .unit))))) v0_6⟩]) = f14_0d k (fun y0_3 => N (sh jn14_0 [.val [] (.int .i64) v0_0, .rw 1, .val [] (.int .i64) v0_1, .rw 2] [⟨0, .arr [] (.prod (.int .i64) (.prod .bool (.prod (.int .i64) (.prod (.int .i64) (.prod (.slice (.int .u8)) .unit))))) v0_5⟩, ⟨0, .arr [(0, 0)] (.prod (.int .i64) (.prod .bool (.prod (.int .i64) (.prod (.int .i64) (.prod (.slice (.int .u8)) .unit))))) y0_3⟩])) v0_0 v0_1 v0_2 v0_3 v0_5 m v0_4 v0_6 := by
  induction m with
  | zero => intros; rfl
  | succ m ih =>
    intro v0_4 v0_6
    simp only [iter]
    rw [← execS_eq T an14 (modesOf F) 0 k 70 (S14 k) (L14 k K) bd14_0 (cuts_of _ _ _ _ _ _ _ _ bd14_0 (l := [(1000010, sp14_1000010, cd14_1000010)]) (by kernel_rfl) ⟨l14_1000010 k K, trivial⟩)]
    refine (b14_0 k K _ N X v0_0 v0_1 v0_2 v0_3 v0_5 v0_4 v0_6).trans ?_
    simp only [f14_0d, ih]
theorem l14_0 (ws : List PV) (rs : List RowS) (N : St → Option R) (X : Nat → St → Option R) : L14 k K 0 ws rs N X = inner T an14 (modesOf F) 0 k 70 (S14 k) (ending T Try.f14 an14 0 K) cd14_0 (sh sp14_0 ws rs) N X := by
  show L14_0 k K ws rs N X = _
  unfold L14_0
  rw [f14_0_def]
  exact onShape_eq (a := [.val [] (.int .i64), .rw 1, .val [] (.int .i64), .rw 2, .val [(0, 0)] (.slice (.prod (.int .i64) (.prod .bool (.prod (.int .i64) (.prod (.int .i64) (.prod (.slice (.int .u8)) .unit)))))), .val [] (.int .i64), .val [] (.int .i64)]) (b := [.arr [] (.prod (.int .i64) (.prod .bool (.prod (.int .i64) (.prod (.int .i64) (.prod (.slice (.int .u8)) .unit))))), .arr [(0, 0)] (.prod (.int .i64) (.prod .bool (.prod (.int .i64) (.prod (.int .i64) (.prod (.slice (.int .u8)) .unit)))))]) (G := fun ws rs => inner T an14 (modesOf F) 0 k 70 (S14 k) (ending T Try.f14 an14 0 K) cd14_0 (sh sp14_0 ws rs) N X) (fun x y => Eq.trans (by kernel_rfl) (Eq.trans (i14_0 k K N X x.1 x.2.2.1 x.2.2.2.2.1 x.2.2.2.2.2.1 y.1 k x.2.2.2.2.2.2.1 y.2.1).symm (by kernel_rfl))) ws rs
end
theorem e14 (k : Nat) (a0 : Int) (a1 : Int) (a2 : Int) (a3 : Int) (a4 : List ((Int × (Bool × (Int × (Int × (List Int × Unit))))))) (K : List PV → List RowS → Option R) : callC T F k 14 [.val [] (.int .i64) a0, .val [] (.int .i64) a1, .val [] (.int .i64) a2, .val [] (.int .i64) a3, .val [(0, 0)] (.slice (.prod (.int .i64) (.prod .bool (.prod (.int .i64) (.prod (.int .i64) (.prod (.slice (.int .u8)) .unit)))))) a4] [] K = f14 k a0 a1 a2 a3 a4 (fun z0 => K [.val [] .bool z0] []) := by
  rw [f14_def]
  cases k with
  | zero => rfl
  | succ k =>
    refine Eq.trans (show _ = exec T an14 (modesOf F) 0 k 70 (callC T F k) (ending T Try.f14 an14 0 K) (bodyOf Try.f14) ⟨argEnv 0 [.val [] (.int .i64) a0, .val [] (.int .i64) a1, .val [] (.int .i64) a2, .val [] (.int .i64) a3, .val [(0, 0)] (.slice (.prod (.int .i64) (.prod .bool (.prod (.int .i64) (.prod (.int .i64) (.prod (.slice (.int .u8)) .unit)))))) a4] (fun _ => none), rowsOf []⟩ (ending T Try.f14 an14 0 K) (fun _ _ => none) from by kernel_rfl) ?_
    rw [← S14_eq k, ← execS_eq T an14 (modesOf F) 0 k 70 (S14 k) (L14 k K) (bodyOf Try.f14) (cuts_of _ _ _ _ _ _ _ _ (bodyOf Try.f14) (l := [(0, sp14_0, cd14_0)]) (by kernel_rfl) ⟨l14_0 k K, trivial⟩)]
    kernel_rfl
noncomputable def s14 (k : Nat) (a : List PV) (r : List RowS) (K : List PV → List RowS → Option R) : Option R :=
  onShape [.val [] (.int .i64), .val [] (.int .i64), .val [] (.int .i64), .val [] (.int .i64), .val [(0, 0)] (.slice (.prod (.int .i64) (.prod .bool (.prod (.int .i64) (.prod (.int .i64) (.prod (.slice (.int .u8)) .unit))))))] [] (fun v => f14 k v.1.1 v.1.2.1 v.1.2.2.1 v.1.2.2.2.1 v.1.2.2.2.2.1 (fun z0 => K [.val [] .bool z0] [])) (callC T F k 14 a r K) a r
theorem s14_eq (k : Nat) (a : List PV) (r : List RowS) (K : List PV → List RowS → Option R) : s14 k a r K = callC T F k 14 a r K := by
  unfold s14
  exact onShape_eq (a := [.val [] (.int .i64), .val [] (.int .i64), .val [] (.int .i64), .val [] (.int .i64), .val [(0, 0)] (.slice (.prod (.int .i64) (.prod .bool (.prod (.int .i64) (.prod (.int .i64) (.prod (.slice (.int .u8)) .unit))))))]) (b := []) (G := fun a r => callC T F k 14 a r K) (fun x y => Eq.trans (by kernel_rfl) (Eq.trans (e14 k x.1 x.2.1 x.2.2.1 x.2.2.2.1 x.2.2.2.2.1 K).symm (by kernel_rfl))) a r
end
section
variable {R : Type}
noncomputable def S15 (k g : Nat) (a : List PV) (r : List RowS) (K : List PV → List RowS → Option R) : Option R := bif g == 21 then s21 k a r K else bif g == 24 then s24 k a r K else bif g == 48 then s48 k a r K else bif g == 50 then s50 k a r K else callC T F k g a r K
theorem S15_eq (k : Nat) : S15 (R := R) k = callC T F k := by
  funext g a r K
  exact pick_eq (fun e => by subst e; exact s21_eq k a r K) (pick_eq (fun e => by subst e; exact s24_eq k a r K) (pick_eq (fun e => by subst e; exact s48_eq k a r K) (pick_eq (fun e => by subst e; exact s50_eq k a r K) (rfl))))
section
variable {R : Type} (k : Nat) (K : List PV → List RowS → Option R)
noncomputable def L15_1000009 (ws : List PV) (rs : List RowS) (N : St → Option R) (X : Nat → St → Option R) : Option R :=
  onShape [.val [] (.int .i64), .val [(0, 0)] (.slice (.prod (.int .i64) (.prod .bool (.prod (.int .i64) (.prod (.int .i64) (.prod (.slice (.int .u8)) .unit)))))), .val [(0, 0)] (.slice .bool), .rw 1, .ptr 2 0, .rw 3, .val [] (.int .i64), .val [] (.int .i64), .val [] .bool] [.arr [] (.prod (.int .i64) (.prod (.int .i64) (.prod (.int .i64) (.prod (.int .i64) (.prod (.slice (.int .u8)) .unit))))), .vars [.val [] (.int .i64), .val [] (.int .i64), .val [] (.int .i64), .val [] (.int .i64), .val [] (.slice (.int .u8))], .arr [] (.prod (.int .i64) (.prod (.int .i64) (.prod (.int .i64) (.prod (.int .i64) (.prod (.slice (.int .u8)) .unit)))))] (fun v => f15_1000009 k (fun yN_5 => N (sh fi15_9 [.val [] (.int .i64) v.1.1, .val [(0, 0)] (.slice (.prod (.int .i64) (.prod .bool (.prod (.int .i64) (.prod (.int .i64) (.prod (.slice (.int .u8)) .unit)))))) v.1.2.1, .val [(0, 0)] (.slice .bool) v.1.2.2.1, .rw 1, .rw 2, .val [] (.int .i64) v.1.2.2.2.2.2.2.1, .val [] (.int .i64) v.1.2.2.2.2.2.2.2.1] [⟨0, .arr [] (.prod (.int .i64) (.prod (.int .i64) (.prod (.int .i64) (.prod (.int .i64) (.prod (.slice (.int .u8)) .unit))))) yN_5⟩, ⟨0, .arr [] (.prod (.int .i64) (.prod (.int .i64) (.prod (.int .i64) (.prod (.int .i64) (.prod (.slice (.int .u8)) .unit))))) v.2.2.2.1⟩])) v.1.1 v.1.2.1 v.1.2.2.1 v.1.2.2.2.2.2.2.1 v.1.2.2.2.2.2.2.2.1 v.1.2.2.2.2.2.2.2.2.1 v.2.1 v.2.2.1.1 v.2.2.1.2.1 v.2.2.1.2.2.1 v.2.2.1.2.2.2.1 v.2.2.1.2.2.2.2.1 v.2.2.2.1) (inner T an15 (modesOf F) 0 k 111 (S15 k) (ending T Try.f15 an15 0 K) cd15_1000009 (sh sp15_1000009 ws rs) N X) ws rs
noncomputable def L15_0 (ws : List PV) (rs : List RowS) (N : St → Option R) (X : Nat → St → Option R) : Option R :=
  onShape [.val [] (.int .i64), .val [(0, 0)] (.slice (.prod (.int .i64) (.prod .bool (.prod (.int .i64) (.prod (.int .i64) (.prod (.slice (.int .u8)) .unit)))))), .val [(0, 0)] (.slice .bool), .rw 1, .rw 2, .val [] (.int .i64), .val [] (.int .i64)] [.arr [] (.prod (.int .i64) (.prod (.int .i64) (.prod (.int .i64) (.prod (.int .i64) (.prod (.slice (.int .u8)) .unit))))), .arr [] (.prod (.int .i64) (.prod (.int .i64) (.prod (.int .i64) (.prod (.int .i64) (.prod (.slice (.int .u8)) .unit)))))] (fun v => f15_0 k (fun y0_2 => N (sh jn15_0 [.val [] (.int .i64) v.1.1, .val [(0, 0)] (.slice (.prod (.int .i64) (.prod .bool (.prod (.int .i64) (.prod (.int .i64) (.prod (.slice (.int .u8)) .unit)))))) v.1.2.1, .rw 1] [⟨0, .arr [] (.prod (.int .i64) (.prod (.int .i64) (.prod (.int .i64) (.prod (.int .i64) (.prod (.slice (.int .u8)) .unit))))) y0_2⟩])) v.1.1 v.1.2.1 v.1.2.2.1 v.1.2.2.2.2.2.1 v.2.2.1 k v.1.2.2.2.2.2.2.1 v.2.1) (inner T an15 (modesOf F) 0 k 111 (S15 k) (ending T Try.f15 an15 0 K) cd15_0 (sh sp15_0 ws rs) N X) ws rs
noncomputable def L15_1000017 (ws : List PV) (rs : List RowS) (N : St → Option R) (X : Nat → St → Option R) : Option R :=
  onShape [.val [] (.int .i64), .rw 1, .val [] (.int .i64), .val [(0, 0)] (.slice (.prod (.int .i64) (.prod .bool (.prod (.int .i64) (.prod (.int .i64) (.prod (.slice (.int .u8)) .unit)))))), .val [] (.int .i64), .val [] (.int .i64), .val [] .bool] [.arr [] (.prod (.int .i64) (.prod .bool (.prod (.int .i64) (.prod (.int .i64) (.prod (.slice (.int .u8)) .unit)))))] (fun v => f15_1000017 k (fun yN_1 => N (sh fi15_17 [.val [] (.int .i64) v.1.1, .rw 1, .val [] (.int .i64) yN_1, .val [(0, 0)] (.slice (.prod (.int .i64) (.prod .bool (.prod (.int .i64) (.prod (.int .i64) (.prod (.slice (.int .u8)) .unit)))))) v.1.2.2.2.1, .val [] (.int .i64) v.1.2.2.2.2.1, .val [] (.int .i64) v.1.2.2.2.2.2.1] [⟨0, .arr [] (.prod (.int .i64) (.prod .bool (.prod (.int .i64) (.prod (.int .i64) (.prod (.slice (.int .u8)) .unit))))) v.2.1⟩])) v.1.1 v.1.2.2.1 v.1.2.2.2.1 v.1.2.2.2.2.1 v.1.2.2.2.2.2.1 v.1.2.2.2.2.2.2.1 v.2.1) (inner T an15 (modesOf F) 0 k 111 (S15 k) (ending T Try.f15 an15 0 K) cd15_1000017 (sh sp15_1000017 ws rs) N X) ws rs
noncomputable def L15_2 (ws : List PV) (rs : List RowS) (N : St → Option R) (X : Nat → St → Option R) : Option R :=
  onShape [.val [] (.int .i64), .rw 1, .val [] (.int .i64), .val [(0, 0)] (.slice (.prod (.int .i64) (.prod .bool (.prod (.int .i64) (.prod (.int .i64) (.prod (.slice (.int .u8)) .unit)))))), .val [] (.int .i64), .val [] (.int .i64)] [.arr [] (.prod (.int .i64) (.prod .bool (.prod (.int .i64) (.prod (.int .i64) (.prod (.slice (.int .u8)) .unit)))))] (fun v => f15_2 k (fun y2_1 => N (sh jn15_2 [.val [] (.int .i64) v.1.1, .rw 1, .val [] (.int .i64) y2_1] [⟨0, .arr [] (.prod (.int .i64) (.prod .bool (.prod (.int .i64) (.prod (.int .i64) (.prod (.slice (.int .u8)) .unit))))) v.2.1⟩])) v.1.1 v.1.2.2.2.1 v.1.2.2.2.2.1 v.2.1 k v.1.2.2.1 v.1.2.2.2.2.2.1) (inner T an15 (modesOf F) 0 k 111 (S15 k) (ending T Try.f15 an15 0 K) cd15_2 (sh sp15_2 ws rs) N X) ws rs
noncomputable def L15 (id : Nat) (ws : List PV) (rs : List RowS) (N : St → Option R) (X : Nat → St → Option R) : Option R := bif id == 1000009 then L15_1000009 k K ws rs N X else bif id == 0 then L15_0 k K ws rs N X else bif id == 1000017 then L15_1000017 k K ws rs N X else bif id == 2 then L15_2 k K ws rs N X else none
theorem l15_1000009 (ws : List PV) (rs : List RowS) (N : St → Option R) (X : Nat → St → Option R) : L15 k K 1000009 ws rs N X = inner T an15 (modesOf F) 0 k 111 (S15 k) (ending T Try.f15 an15 0 K) cd15_1000009 (sh sp15_1000009 ws rs) N X := by
  show L15_1000009 k K ws rs N X = _
  unfold L15_1000009
  rw [f15_1000009_def]
  exact onShape_eq (a := [.val [] (.int .i64), .val [(0, 0)] (.slice (.prod (.int .i64) (.prod .bool (.prod (.int .i64) (.prod (.int .i64) (.prod (.slice (.int .u8)) .unit)))))), .val [(0, 0)] (.slice .bool), .rw 1, .ptr 2 0, .rw 3, .val [] (.int .i64), .val [] (.int .i64), .val [] .bool]) (b := [.arr [] (.prod (.int .i64) (.prod (.int .i64) (.prod (.int .i64) (.prod (.int .i64) (.prod (.slice (.int .u8)) .unit))))), .vars [.val [] (.int .i64), .val [] (.int .i64), .val [] (.int .i64), .val [] (.int .i64), .val [] (.slice (.int .u8))], .arr [] (.prod (.int .i64) (.prod (.int .i64) (.prod (.int .i64) (.prod (.int .i64) (.prod (.slice (.int .u8)) .unit)))))]) (G := fun ws rs => inner T an15 (modesOf F) 0 k 111 (S15 k) (ending T Try.f15 an15 0 K) cd15_1000009 (sh sp15_1000009 ws rs) N X) (fun x y => Eq.trans (by kernel_rfl) (innerS_eq T an15 (modesOf F) 0 k 111 (S15 k) (L15 k K) cd15_1000009 (l := []) (by kernel_rfl) trivial _ N X)) ws rs
theorem b15_0 (rec : St → Option R) (N : St → Option R) (X : Nat → St → Option R) (v0_0 : Int) (v0_1 : List ((Int × (Bool × (Int × (Int × (List Int × Unit))))))) (v0_2 : List Bool) (v0_3 : Int) (v0_6 : List (Int × (Int × (Int × (Int × (List Int × Unit)))))) (v0_4 : Int) (v0_5 : List (Int × (Int × (Int × (Int × (List Int × Unit)))))) :
    execS T an15 (modesOf F) 0 k 111 (S15 k) (L15 k K) (ending T Try.f15 an15 0 K) bd15_0 (sh sp15_0 [.val [] (.int .i64) v0_0, .val [(0, 0)] (.slice (.prod (.int .i64) (.prod .bool (.prod (.int .i64) (.prod (.int .i64) (.prod (.slice (.int .u8)) .unit)))))) v0_1, .val [(0, 0)] (.slice .bool) v0_2, .rw 1, .rw 2, .val [] (.int .i64) v0_3, .val [] (.int .i64) v0_4] [⟨0, .arr [] (.prod (.int .i64) (.prod (.int .i64) (.prod (.int .i64) (.prod (.int .i64) (.prod (.slice (.int .u8)) .unit))))) v0_5⟩, ⟨0, .arr [] (.prod (.int .i64) (.prod (.int .i64) (.prod (.int .i64) (.prod (.int .i64) (.prod (.slice (.int .u8)) .unit))))) v0_6⟩]) (fun st => atHead an15 0 bd15_0 st rec) (outX an15 0 0 N X) =
      f15_0b k (fun v0_4 v0_5 => rec (sh sp15_0 [.val [] (.int .i64) v0_0, .val [(0, 0)] (.slice (.prod (.int .i64) (.prod .bool (.prod (.int .i64) (.prod (.int .i64) (.prod (.slice (.int .u8)) .unit)))))) v0_1, .val [(0, 0)] (.slice .bool) v0_2, .rw 1, .rw 2, .val [] (.int .i64) v0_3, .val [] (.int .i64) v0_4] [⟨0, .arr [] (.prod (.int .i64) (.prod (.int .i64) (.prod (.int .i64) (.prod (.int .i64) (.prod (.slice (.int .u8)) .unit))))) v0_5⟩, ⟨0, .arr [] (.prod (.int .i64) (.prod (.int .i64) (.prod (.int .i64) (.prod (.int .i64) (.prod (.slice (.int .u8)) .unit))))) v0_6⟩])) (fun y0_2 => N (sh jn15_0 [.val [] (.int .i64) v0_0, .val [(0, 0)] (.slice (.prod (.int .i64) (.prod .bool (.prod (.int .i64) (.prod (.int .i64) (.prod (.slice (.int .u8)) .unit)))))) v0_1, .rw 1] [⟨0, .arr [] (.prod (.int .i64) (.prod (.int .i64) (.prod (.int .i64) (.prod (.int .i64) (.prod (.slice (.int .u8)) .unit))))) y0_2⟩])) v0_0 v0_1 v0_2 v0_3 v0_6 v0_4 v0_5 := by kernel_rfl
theorem i15_0 (N : St → Option R) (X : Nat → St → Option R) (v0_0 : Int) (v0_1 : List ((Int × (Bool × (Int × (Int × (List Int × Unit))))))) (v0_2 : List Bool) (v0_3 : Int) (v0_6 : List (Int × (Int × (Int × (Int × (List Int × Unit)))))) (m : Nat) : ∀ (v0_4 : Int) (v0_5 : List (Int × (Int × (Int × (Int × (List Int × Unit)))))),
    iter (atHead an15 0 bd15_0) m (fun st N' => exec T an15 (modesOf F) 0 k 111 (S15 k) (ending T Try.f15 an15 0 K) bd15_0 st N' (outX an15 0 0 N X)) (sh sp15_0 [.val [] (.int .i64) v0_0, .val [(0, 0)] (.slice (.prod (.int .i64) (.prod .bool (.prod (.int .i64) (.prod (.int .i64) (.prod (.slice (.int .u8)) .unit)))))) v0_1, .val [(0, 0)] (.slice .bool) v0_2, .rw 1, .rw 2, .val [] (.int .i64) v0_3, .val [] (.int .i64) v0_4] [⟨0, .arr [] (.prod (.int .i64) (.prod (.int .i64) (.prod (.int .i64) (.prod (.int .i64) (.prod (.slice (.int .u8)) .unit))))) v0_5⟩, ⟨0, .arr [] (.prod (.int .i64) (.prod (.int .i64) (.prod (.int .i64) (.prod (.int .i64) (.prod (.slice (.int .u8)) .unit))))) v0_6⟩]) = f15_0d k (fun y0_2 => N (sh jn15_0 [.val [] (.int .i64) v0_0, .val [(0, 0)] (.slice (.prod (.int .i64) (.prod .bool (.prod (.int .i64) (.prod (.int .i64) (.prod (.slice (.int .u8)) .unit)))))) v0_1, .rw 1] [⟨0, .arr [] (.prod (.int .i64) (.prod (.int .i64) (.prod (.int .i64) (.prod (.int .i64) (.prod (.slice (.int .u8)) .unit))))) y0_2⟩])) v0_0 v0_1 v0_2 v0_3 v0_6 m v0_4 v0_5 := by
  induction m with
  | zero => intros; rfl
  | succ m ih =>
    intro v0_4 v0_5
    simp only [iter]
    rw [← execS_eq T an15 (modesOf F) 0 k 111 (S15 k) (L15 k K) bd15_0 (cuts_of _ _ _ _ _ _ _ _ bd15_0 (l := [(1000009, sp15_1000009, cd15_1000009)]) (by kernel_rfl) ⟨l15_1000009 k K, trivial⟩)]
    refine (b15_0 k K _ N X v0_0 v0_1 v0_2 v0_3 v0_6 v0_4 v0_5).trans ?_
    simp only [f15_0d, ih]
theorem l15_0 (ws : List PV) (rs : List RowS) (N : St → Option R) (X : Nat → St → Option R) : L15 k K 0 ws rs N X = inner T an15 (modesOf F) 0 k 111 (S15 k) (ending T Try.f15 an15 0 K) cd15_0 (sh sp15_0 ws rs) N X := by
  show L15_0 k K ws rs N X = _
  unfold L15_0
  rw [f15_0_def]
  exact onShape_eq (a := [.val [] (.int .i64), .val [(0, 0)] (.slice (.prod (.int .i64) (.prod .bool (.prod (.int .i64) (.prod (.int .i64) (.prod (.slice (.int .u8)) .unit)))))), .val [(0, 0)] (.slice .bool), .rw 1, .rw 2, .val [] (.int .i64), .val [] (.int .i64)]) (b := [.arr [] (.prod (.int .i64) (.prod (.int .i64) (.prod (.int .i64) (.prod (.int .i64) (.prod (.slice (.int .u8)) .unit))))), .arr [] (.prod (.int .i64) (.prod (.int .i64) (.prod (.int .i64) (.prod (.int .i64) (.prod (.slice (.int .u8)) .unit)))))]) (G := fun ws rs => inner T an15 (modesOf F) 0 k 111 (S15 k) (ending T Try.f15 an15 0 K) cd15_0 (sh sp15_0 ws rs) N X) (fun x y => Eq.trans (by kernel_rfl) (Eq.trans (i15_0 k K N X x.1 x.2.1 x.2.2.1 x.2.2.2.2.2.1 y.2.1 k x.2.2.2.2.2.2.1 y.1).symm (by kernel_rfl))) ws rs
theorem l15_1000017 (ws : List PV) (rs : List RowS) (N : St → Option R) (X : Nat → St → Option R) : L15 k K 1000017 ws rs N X = inner T an15 (modesOf F) 0 k 111 (S15 k) (ending T Try.f15 an15 0 K) cd15_1000017 (sh sp15_1000017 ws rs) N X := by
  show L15_1000017 k K ws rs N X = _
  unfold L15_1000017
  rw [f15_1000017_def]
  exact onShape_eq (a := [.val [] (.int .i64), .rw 1, .val [] (.int .i64), .val [(0, 0)] (.slice (.prod (.int .i64) (.prod .bool (.prod (.int .i64) (.prod (.int .i64) (.prod (.slice (.int .u8)) .unit)))))), .val [] (.int .i64), .val [] (.int .i64), .val [] .bool]) (b := [.arr [] (.prod (.int .i64) (.prod .bool (.prod (.int .i64) (.prod (.int .i64) (.prod (.slice (.int .u8)) .unit)))))]) (G := fun ws rs => inner T an15 (modesOf F) 0 k 111 (S15 k) (ending T Try.f15 an15 0 K) cd15_1000017 (sh sp15_1000017 ws rs) N X) (fun x y => Eq.trans (by kernel_rfl) (innerS_eq T an15 (modesOf F) 0 k 111 (S15 k) (L15 k K) cd15_1000017 (l := []) (by kernel_rfl) trivial _ N X)) ws rs
theorem b15_2 (rec : St → Option R) (N : St → Option R) (X : Nat → St → Option R) (v2_0 : Int) (v2_2 : List ((Int × (Bool × (Int × (Int × (List Int × Unit))))))) (v2_3 : Int) (v2_5 : List (Int × (Bool × (Int × (Int × (List Int × Unit)))))) (v2_1 : Int) (v2_4 : Int) :
    execS T an15 (modesOf F) 0 k 111 (S15 k) (L15 k K) (ending T Try.f15 an15 0 K) bd15_2 (sh sp15_2 [.val [] (.int .i64) v2_0, .rw 1, .val [] (.int .i64) v2_1, .val [(0, 0)] (.slice (.prod (.int .i64) (.prod .bool (.prod (.int .i64) (.prod (.int .i64) (.prod (.slice (.int .u8)) .unit)))))) v2_2, .val [] (.int .i64) v2_3, .val [] (.int .i64) v2_4] [⟨0, .arr [] (.prod (.int .i64) (.prod .bool (.prod (.int .i64) (.prod (.int .i64) (.prod (.slice (.int .u8)) .unit))))) v2_5⟩]) (fun st => atHead an15 0 bd15_2 st rec) (outX an15 0 2 N X) =
      f15_2b k (fun v2_1 v2_4 => rec (sh sp15_2 [.val [] (.int .i64) v2_0, .rw 1, .val [] (.int .i64) v2_1, .val [(0, 0)] (.slice (.prod (.int .i64) (.prod .bool (.prod (.int .i64) (.prod (.int .i64) (.prod (.slice (.int .u8)) .unit)))))) v2_2, .val [] (.int .i64) v2_3, .val [] (.int .i64) v2_4] [⟨0, .arr [] (.prod (.int .i64) (.prod .bool (.prod (.int .i64) (.prod (.int .i64) (.prod (.slice (.int .u8)) .unit))))) v2_5⟩])) (fun y2_1 => N (sh jn15_2 [.val [] (.int .i64) v2_0, .rw 1, .val [] (.int .i64) y2_1] [⟨0, .arr [] (.prod (.int .i64) (.prod .bool (.prod (.int .i64) (.prod (.int .i64) (.prod (.slice (.int .u8)) .unit))))) v2_5⟩])) v2_0 v2_2 v2_3 v2_5 v2_1 v2_4 := by kernel_rfl
theorem i15_2 (N : St → Option R) (X : Nat → St → Option R) (v2_0 : Int) (v2_2 : List ((Int × (Bool × (Int × (Int × (List Int × Unit))))))) (v2_3 : Int) (v2_5 : List (Int × (Bool × (Int × (Int × (List Int × Unit)))))) (m : Nat) : ∀ (v2_1 : Int) (v2_4 : Int),
    iter (atHead an15 0 bd15_2) m (fun st N' => exec T an15 (modesOf F) 0 k 111 (S15 k) (ending T Try.f15 an15 0 K) bd15_2 st N' (outX an15 0 2 N X)) (sh sp15_2 [.val [] (.int .i64) v2_0, .rw 1, .val [] (.int .i64) v2_1, .val [(0, 0)] (.slice (.prod (.int .i64) (.prod .bool (.prod (.int .i64) (.prod (.int .i64) (.prod (.slice (.int .u8)) .unit)))))) v2_2, .val [] (.int .i64) v2_3, .val [] (.int .i64) v2_4] [⟨0, .arr [] (.prod (.int .i64) (.prod .bool (.prod (.int .i64) (.prod (.int .i64) (.prod (.slice (.int .u8)) .unit))))) v2_5⟩]) = f15_2d k (fun y2_1 => N (sh jn15_2 [.val [] (.int .i64) v2_0, .rw 1, .val [] (.int .i64) y2_1] [⟨0, .arr [] (.prod (.int .i64) (.prod .bool (.prod (.int .i64) (.prod (.int .i64) (.prod (.slice (.int .u8)) .unit))))) v2_5⟩])) v2_0 v2_2 v2_3 v2_5 m v2_1 v2_4 := by
  induction m with
  | zero => intros; rfl
  | succ m ih =>
    intro v2_1 v2_4
    simp only [iter]
    rw [← execS_eq T an15 (modesOf F) 0 k 111 (S15 k) (L15 k K) bd15_2 (cuts_of _ _ _ _ _ _ _ _ bd15_2 (l := [(1000017, sp15_1000017, cd15_1000017)]) (by kernel_rfl) ⟨l15_1000017 k K, trivial⟩)]
    refine (b15_2 k K _ N X v2_0 v2_2 v2_3 v2_5 v2_1 v2_4).trans ?_
    simp only [f15_2d, ih]
theorem l15_2 (ws : List PV) (rs : List RowS) (N : St → Option R) (X : Nat → St → Option R) : L15 k K 2 ws rs N X = inner T an15 (modesOf F) 0 k 111 (S15 k) (ending T Try.f15 an15 0 K) cd15_2 (sh sp15_2 ws rs) N X := by
  show L15_2 k K ws rs N X = _
  unfold L15_2
  rw [f15_2_def]
  exact onShape_eq (a := [.val [] (.int .i64), .rw 1, .val [] (.int .i64), .val [(0, 0)] (.slice (.prod (.int .i64) (.prod .bool (.prod (.int .i64) (.prod (.int .i64) (.prod (.slice (.int .u8)) .unit)))))), .val [] (.int .i64), .val [] (.int .i64)]) (b := [.arr [] (.prod (.int .i64) (.prod .bool (.prod (.int .i64) (.prod (.int .i64) (.prod (.slice (.int .u8)) .unit)))))]) (G := fun ws rs => inner T an15 (modesOf F) 0 k 111 (S15 k) (ending T Try.f15 an15 0 K) cd15_2 (sh sp15_2 ws rs) N X) (fun x y => Eq.trans (by kernel_rfl) (Eq.trans (i15_2 k K N X x.1 x.2.2.2.1 x.2.2.2.2.1 y.1 k x.2.2.1 x.2.2.2.2.2.1).symm (by kernel_rfl))) ws rs
end
theorem e15 (k : Nat) (a0 : Int) (a1 : Int) (a2 : Int) (a3 : Int) (a4 : List ((Int × (Bool × (Int × (Int × (List Int × Unit))))))) (a5 : List Bool) (K : List PV → List RowS → Option R) : callC T F k 15 [.val [] (.int .i64) a0, .val [] (.int .i64) a1, .val [] (.int .i64) a2, .val [] (.int .i64) a3, .val [(0, 0)] (.slice (.prod (.int .i64) (.prod .bool (.prod (.int .i64) (.prod (.int .i64) (.prod (.slice (.int .u8)) .unit)))))) a4, .val [(0, 0)] (.slice .bool) a5] [] K = f15 k a0 a1 a2 a3 a4 a5 (fun z0 => K [.val [] .bool z0] []) := by
  rw [f15_def]
  cases k with
  | zero => rfl
  | succ k =>
    refine Eq.trans (show _ = exec T an15 (modesOf F) 0 k 111 (callC T F k) (ending T Try.f15 an15 0 K) (bodyOf Try.f15) ⟨argEnv 0 [.val [] (.int .i64) a0, .val [] (.int .i64) a1, .val [] (.int .i64) a2, .val [] (.int .i64) a3, .val [(0, 0)] (.slice (.prod (.int .i64) (.prod .bool (.prod (.int .i64) (.prod (.int .i64) (.prod (.slice (.int .u8)) .unit)))))) a4, .val [(0, 0)] (.slice .bool) a5] (fun _ => none), rowsOf []⟩ (ending T Try.f15 an15 0 K) (fun _ _ => none) from by kernel_rfl) ?_
    rw [← S15_eq k, ← execS_eq T an15 (modesOf F) 0 k 111 (S15 k) (L15 k K) (bodyOf Try.f15) (cuts_of _ _ _ _ _ _ _ _ (bodyOf Try.f15) (l := [(0, sp15_0, cd15_0), (2, sp15_2, cd15_2)]) (by kernel_rfl) ⟨l15_0 k K, l15_2 k K, trivial⟩)]
    kernel_rfl
noncomputable def s15 (k : Nat) (a : List PV) (r : List RowS) (K : List PV → List RowS → Option R) : Option R :=
  onShape [.val [] (.int .i64), .val [] (.int .i64), .val [] (.int .i64), .val [] (.int .i64), .val [(0, 0)] (.slice (.prod (.int .i64) (.prod .bool (.prod (.int .i64) (.prod (.int .i64) (.prod (.slice (.int .u8)) .unit)))))), .val [(0, 0)] (.slice .bool)] [] (fun v => f15 k v.1.1 v.1.2.1 v.1.2.2.1 v.1.2.2.2.1 v.1.2.2.2.2.1 v.1.2.2.2.2.2.1 (fun z0 => K [.val [] .bool z0] [])) (callC T F k 15 a r K) a r
theorem s15_eq (k : Nat) (a : List PV) (r : List RowS) (K : List PV → List RowS → Option R) : s15 k a r K = callC T F k 15 a r K := by
  unfold s15
  exact onShape_eq (a := [.val [] (.int .i64), .val [] (.int .i64), .val [] (.int .i64), .val [] (.int .i64), .val [(0, 0)] (.slice (.prod (.int .i64) (.prod .bool (.prod (.int .i64) (.prod (.int .i64) (.prod (.slice (.int .u8)) .unit)))))), .val [(0, 0)] (.slice .bool)]) (b := []) (G := fun a r => callC T F k 15 a r K) (fun x y => Eq.trans (by kernel_rfl) (Eq.trans (e15 k x.1 x.2.1 x.2.2.1 x.2.2.2.1 x.2.2.2.2.1 x.2.2.2.2.2.1 K).symm (by kernel_rfl))) a r
end
end Go.Proofs.Ytahdmfboidjkoaa.PM
