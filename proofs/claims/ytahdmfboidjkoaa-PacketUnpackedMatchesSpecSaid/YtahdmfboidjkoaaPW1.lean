/- The small machine's run is the typed form (printed by a program of this work). -/
import Derived.Test.YtahdmfboidjkoaaPW0
set_option linter.unusedVariables false
set_option linter.unusedSimpArgs false
set_option maxRecDepth 100000
namespace Go.Proofs.Ytahdmfboidjkoaa.PM
open Go
section
variable {R : Type}
noncomputable def S45 (k g : Nat) (a : List PV) (r : List RowS) (K : List PV → List RowS → Option R) : Option R := bif g == 39 then s39 k a r K else callC T F k g a r K
theorem S45_eq (k : Nat) : S45 (R := R) k = callC T F k := by
  funext g a r K
  exact pick_eq (fun e => by subst e; exact s39_eq k a r K) (rfl)
section
variable {R : Type} (k : Nat) (K : List PV → List RowS → Option R)
noncomputable def L45_0 (ws : List PV) (rs : List RowS) (N : St → Option R) (X : Nat → St → Option R) : Option R :=
  onShape [.val [(0, 0)] (.slice (.prod (.int .i64) (.prod (.int .i64) (.prod (.int .i64) (.prod (.int .i64) (.prod (.slice (.int .u8)) .unit)))))), .val [(0, 0)] (.slice (.prod (.int .i64) (.prod (.int .i64) (.prod (.int .i64) (.prod (.int .i64) (.prod (.slice (.int .u8)) .unit)))))), .val [] (.int .i64), .val [] (.int .i64)] [] (fun v => f45_0 k (fun z0 => K [.val [] .bool z0] []) (N (sh jn45_0 [] [])) v.1.1 v.1.2.1 v.1.2.2.1 k v.1.2.2.2.1) (inner T an45 (modesOf F) 0 k 27 (S45 k) (ending T Try.f45 an45 0 K) cd45_0 (sh sp45_0 ws rs) N X) ws rs
noncomputable def L45 (id : Nat) (ws : List PV) (rs : List RowS) (N : St → Option R) (X : Nat → St → Option R) : Option R := bif id == 0 then L45_0 k K ws rs N X else none
theorem b45_0 (rec : St → Option R) (N : St → Option R) (X : Nat → St → Option R) (v0_0 : List ((Int × (Int × (Int × (Int × (List Int × Unit))))))) (v0_1 : List ((Int × (Int × (Int × (Int × (List Int × Unit))))))) (v0_2 : Int) (v0_3 : Int) :
    execS T an45 (modesOf F) 0 k 27 (S45 k) (L45 k K) (ending T Try.f45 an45 0 K) bd45_0 (sh sp45_0 [.val [(0, 0)] (.slice (.prod (.int .i64) (.prod (.int .i64) (.prod (.int .i64) (.prod (.int .i64) (.prod (.slice (.int .u8)) .unit)))))) v0_0, .val [(0, 0)] (.slice (.prod (.int .i64) (.prod (.int .i64) (.prod (.int .i64) (.prod (.int .i64) (.prod (.slice (.int .u8)) .unit)))))) v0_1, .val [] (.int .i64) v0_2, .val [] (.int .i64) v0_3] []) (fun st => atHead an45 0 bd45_0 st rec) (outX an45 0 0 N X) =
      f45_0b k (fun v0_3 => rec (sh sp45_0 [.val [(0, 0)] (.slice (.prod (.int .i64) (.prod (.int .i64) (.prod (.int .i64) (.prod (.int .i64) (.prod (.slice (.int .u8)) .unit)))))) v0_0, .val [(0, 0)] (.slice (.prod (.int .i64) (.prod (.int .i64) (.prod (.int .i64) (.prod (.int .i64) (.prod (.slice (.int .u8)) .unit)))))) v0_1, .val [] (.int .i64) v0_2, .val [] (.int .i64) v0_3] [])) (fun z0 => K [.val [] .bool z0] []) (N (sh jn45_0 [] [])) v0_0 v0_1 v0_2 v0_3 := by kernel_rfl
theorem i45_0 (N : St → Option R) (X : Nat → St → Option R) (v0_0 : List ((Int × (Int × (Int × (Int × (List Int × Unit))))))) (v0_1 : List ((Int × (Int × (Int × (Int × (List Int × Unit))))))) (v0_2 : Int) (m : Nat) : ∀ (v0_3 : Int),
    iter (atHead an45 0 bd45_0) m (fun st N' => exec T an45 (modesOf F) 0 k 27 (S45 k) (ending T Try.f45 an45 0 K) bd45_0 st N' (outX an45 0 0 N X)) (sh sp45_0 [.val [(0, 0)] (.slice (.prod (.int .i64) (.prod (.int .i64) (.prod (.int .i64) (.prod (.int .i64) (.prod (.slice (.int .u8)) .unit)))))) v0_0, .val [(0, 0)] (.slice (.prod (.int .i64) (.prod (.int .i64) (.prod (.int .i64) (.prod (.int .i64) (.prod (.slice (.int .u8)) .unit)))))) v0_1, .val [] (.int .i64) v0_2, .val [] (.int .i64) v0_3] []) = f45_0d k (fun z0 => K [.val [] .bool z0] []) (N (sh jn45_0 [] [])) v0_0 v0_1 v0_2 m v0_3 := by
  induction m with
  | zero => intros; rfl
  | succ m ih =>
    intro v0_3
    simp only [iter]
    rw [← execS_eq T an45 (modesOf F) 0 k 27 (S45 k) (L45 k K) bd45_0 (cuts_of _ _ _ _ _ _ _ _ bd45_0 (l := []) (by kernel_rfl) trivial)]
    refine (b45_0 k K _ N X v0_0 v0_1 v0_2 v0_3).trans ?_
    simp only [f45_0d, ih]
theorem l45_0 (ws : List PV) (rs : List RowS) (N : St → Option R) (X : Nat → St → Option R) : L45 k K 0 ws rs N X = inner T an45 (modesOf F) 0 k 27 (S45 k) (ending T Try.f45 an45 0 K) cd45_0 (sh sp45_0 ws rs) N X := by
  show L45_0 k K ws rs N X = _
  unfold L45_0
  rw [f45_0_def]
  exact onShape_eq (a := [.val [(0, 0)] (.slice (.prod (.int .i64) (.prod (.int .i64) (.prod (.int .i64) (.prod (.int .i64) (.prod (.slice (.int .u8)) .unit)))))), .val [(0, 0)] (.slice (.prod (.int .i64) (.prod (.int .i64) (.prod (.int .i64) (.prod (.int .i64) (.prod (.slice (.int .u8)) .unit)))))), .val [] (.int .i64), .val [] (.int .i64)]) (b := []) (G := fun ws rs => inner T an45 (modesOf F) 0 k 27 (S45 k) (ending T Try.f45 an45 0 K) cd45_0 (sh sp45_0 ws rs) N X) (fun x y => Eq.trans (by kernel_rfl) (Eq.trans (i45_0 k K N X x.1 x.2.1 x.2.2.1 k x.2.2.2.1).symm (by kernel_rfl))) ws rs
end
theorem e45 (k : Nat) (a0 : List ((Int × (Int × (Int × (Int × (List Int × Unit))))))) (a1 : List ((Int × (Int × (Int × (Int × (List Int × Unit))))))) (K : List PV → List RowS → Option R) : callC T F k 45 [.val [(0, 0)] (.slice (.prod (.int .i64) (.prod (.int .i64) (.prod (.int .i64) (.prod (.int .i64) (.prod (.slice (.int .u8)) .unit)))))) a0, .val [(0, 0)] (.slice (.prod (.int .i64) (.prod (.int .i64) (.prod (.int .i64) (.prod (.int .i64) (.prod (.slice (.int .u8)) .unit)))))) a1] [] K = f45 k a0 a1 (fun z0 => K [.val [] .bool z0] []) := by
  rw [f45_def]
  cases k with
  | zero => rfl
  | succ k =>
    refine Eq.trans (show _ = exec T an45 (modesOf F) 0 k 27 (callC T F k) (ending T Try.f45 an45 0 K) (bodyOf Try.f45) ⟨argEnv 0 [.val [(0, 0)] (.slice (.prod (.int .i64) (.prod (.int .i64) (.prod (.int .i64) (.prod (.int .i64) (.prod (.slice (.int .u8)) .unit)))))) a0, .val [(0, 0)] (.slice (.prod (.int .i64) (.prod (.int .i64) (.prod (.int .i64) (.prod (.int .i64) (.prod (.slice (.int .u8)) .unit)))))) a1] (fun _ => none), rowsOf []⟩ (ending T Try.f45 an45 0 K) (fun _ _ => none) from by kernel_rfl) ?_
    rw [← S45_eq k, ← execS_eq T an45 (modesOf F) 0 k 27 (S45 k) (L45 k K) (bodyOf Try.f45) (cuts_of _ _ _ _ _ _ _ _ (bodyOf Try.f45) (l := [(0, sp45_0, cd45_0)]) (by kernel_rfl) ⟨l45_0 k K, trivial⟩)]
    kernel_rfl
noncomputable def s45 (k : Nat) (a : List PV) (r : List RowS) (K : List PV → List RowS → Option R) : Option R :=
  onShape [.val [(0, 0)] (.slice (.prod (.int .i64) (.prod (.int .i64) (.prod (.int .i64) (.prod (.int .i64) (.prod (.slice (.int .u8)) .unit)))))), .val [(0, 0)] (.slice (.prod (.int .i64) (.prod (.int .i64) (.prod (.int .i64) (.prod (.int .i64) (.prod (.slice (.int .u8)) .unit))))))] [] (fun v => f45 k v.1.1 v.1.2.1 (fun z0 => K [.val [] .bool z0] [])) (callC T F k 45 a r K) a r
theorem s45_eq (k : Nat) (a : List PV) (r : List RowS) (K : List PV → List RowS → Option R) : s45 k a r K = callC T F k 45 a r K := by
  unfold s45
  exact onShape_eq (a := [.val [(0, 0)] (.slice (.prod (.int .i64) (.prod (.int .i64) (.prod (.int .i64) (.prod (.int .i64) (.prod (.slice (.int .u8)) .unit)))))), .val [(0, 0)] (.slice (.prod (.int .i64) (.prod (.int .i64) (.prod (.int .i64) (.prod (.int .i64) (.prod (.slice (.int .u8)) .unit))))))]) (b := []) (G := fun a r => callC T F k 45 a r K) (fun x y => Eq.trans (by kernel_rfl) (Eq.trans (e45 k x.1 x.2.1 K).symm (by kernel_rfl))) a r
end
section
variable {R : Type}
noncomputable def S9 (k g : Nat) (a : List PV) (r : List RowS) (K : List PV → List RowS → Option R) : Option R := bif g == 21 then s21 k a r K else bif g == 32 then s32 k a r K else bif g == 43 then s43 k a r K else bif g == 44 then s44 k a r K else bif g == 45 then s45 k a r K else callC T F k g a r K
theorem S9_eq (k : Nat) : S9 (R := R) k = callC T F k := by
  funext g a r K
  exact pick_eq (fun e => by subst e; exact s21_eq k a r K) (pick_eq (fun e => by subst e; exact s32_eq k a r K) (pick_eq (fun e => by subst e; exact s43_eq k a r K) (pick_eq (fun e => by subst e; exact s44_eq k a r K) (pick_eq (fun e => by subst e; exact s45_eq k a r K) (rfl)))))
theorem e9 (k : Nat) (a0 : List Int) (a1 : List Int) (a2 : Int) (K : List PV → List RowS → Option R) : callC T F k 9 [.val [(0, 0)] (.slice (.int .u8)) a0, .val [(0, 0)] (.slice (.int .u8)) a1, .val [] (.int .i64) a2] [] K = f9 k a0 a1 a2 (fun z0 => K [.val [] .bool z0] []) := by
  rw [f9_def]
  cases k with
  | zero => rfl
  | succ k =>
    refine Eq.trans (show _ = exec T an9 (modesOf F) 0 k 45 (callC T F k) (ending T Try.f9 an9 0 K) (bodyOf Try.f9) ⟨argEnv 0 [.val [(0, 0)] (.slice (.int .u8)) a0, .val [(0, 0)] (.slice (.int .u8)) a1, .val [] (.int .i64) a2] (fun _ => none), rowsOf []⟩ (ending T Try.f9 an9 0 K) (fun _ _ => none) from by kernel_rfl) ?_
    rw [← S9_eq k, ← execS_eq T an9 (modesOf F) 0 k 45 (S9 k) (fun _ _ _ _ _ => none) (bodyOf Try.f9) (cuts_of _ _ _ _ _ _ _ _ (bodyOf Try.f9) (l := []) (by kernel_rfl) trivial)]
    kernel_rfl
noncomputable def s9 (k : Nat) (a : List PV) (r : List RowS) (K : List PV → List RowS → Option R) : Option R :=
  onShape [.val [(0, 0)] (.slice (.int .u8)), .val [(0, 0)] (.slice (.int .u8)), .val [] (.int .i64)] [] (fun v => f9 k v.1.1 v.1.2.1 v.1.2.2.1 (fun z0 => K [.val [] .bool z0] [])) (callC T F k 9 a r K) a r
theorem s9_eq (k : Nat) (a : List PV) (r : List RowS) (K : List PV → List RowS → Option R) : s9 k a r K = callC T F k 9 a r K := by
  unfold s9
  exact onShape_eq (a := [.val [(0, 0)] (.slice (.int .u8)), .val [(0, 0)] (.slice (.int .u8)), .val [] (.int .i64)]) (b := []) (G := fun a r => callC T F k 9 a r K) (fun x y => Eq.trans (by kernel_rfl) (Eq.trans (e9 k x.1 x.2.1 x.2.2.1 K).symm (by kernel_rfl))) a r
end
section
variable {R : Type}
noncomputable def S46 (k g : Nat) (a : List PV) (r : List RowS) (K : List PV → List RowS → Option R) : Option R := bif g == 75 then s75 k a r K else bif g == 80 then s80 k a r K else callC T F k g a r K
theorem S46_eq (k : Nat) : S46 (R := R) k = callC T F k := by
  funext g a r K
  exact pick_eq (fun e => by subst e; exact s75_eq k a r K) (pick_eq (fun e => by subst e; exact s80_eq k a r K) (rfl))
theorem e46 (k : Nat) (a0 : List Int) (a1 : Int) (K : List PV → List RowS → Option R) : callC T F k 46 [.val [(0, 0)] (.slice (.int .u8)) a0, .val [] (.int .i64) a1] [] K = f46 k a0 a1 (fun z0 z1 z2 => K [.rw 1, .rw 2, .val [] (.int .i64) z0] [⟨0, .arr [] (.prod (.int .i64) (.prod (.int .i64) (.prod (.int .i64) (.prod (.int .i64) (.prod (.slice (.int .u8)) .unit))))) z1⟩, ⟨0, .arr [] (.int .i64) z2⟩]) := by
  rw [f46_def]
  cases k with
  | zero => rfl
  | succ k =>
    refine Eq.trans (show _ = exec T an46 (modesOf F) 0 k 27 (callC T F k) (ending T Try.f46 an46 0 K) (bodyOf Try.f46) ⟨argEnv 0 [.val [(0, 0)] (.slice (.int .u8)) a0, .val [] (.int .i64) a1] (fun _ => none), rowsOf []⟩ (ending T Try.f46 an46 0 K) (fun _ _ => none) from by kernel_rfl) ?_
    rw [← S46_eq k, ← execS_eq T an46 (modesOf F) 0 k 27 (S46 k) (fun _ _ _ _ _ => none) (bodyOf Try.f46) (cuts_of _ _ _ _ _ _ _ _ (bodyOf Try.f46) (l := []) (by kernel_rfl) trivial)]
    kernel_rfl
noncomputable def s46 (k : Nat) (a : List PV) (r : List RowS) (K : List PV → List RowS → Option R) : Option R :=
  onShape [.val [(0, 0)] (.slice (.int .u8)), .val [] (.int .i64)] [] (fun v => f46 k v.1.1 v.1.2.1 (fun z0 z1 z2 => K [.rw 1, .rw 2, .val [] (.int .i64) z0] [⟨0, .arr [] (.prod (.int .i64) (.prod (.int .i64) (.prod (.int .i64) (.prod (.int .i64) (.prod (.slice (.int .u8)) .unit))))) z1⟩, ⟨0, .arr [] (.int .i64) z2⟩])) (callC T F k 46 a r K) a r
theorem s46_eq (k : Nat) (a : List PV) (r : List RowS) (K : List PV → List RowS → Option R) : s46 k a r K = callC T F k 46 a r K := by
  unfold s46
  exact onShape_eq (a := [.val [(0, 0)] (.slice (.int .u8)), .val [] (.int .i64)]) (b := []) (G := fun a r => callC T F k 46 a r K) (fun x y => Eq.trans (by kernel_rfl) (Eq.trans (e46 k x.1 x.2.1 K).symm (by kernel_rfl))) a r
end
section
variable {R : Type}
theorem e47 (k : Nat) (a0 : List Int) (K : List PV → List RowS → Option R) : callC T F k 47 [.val [(0, 0)] (.slice (.int .i64)) a0] [] K = f47 k a0 (fun z0 => K [.rw 1] [⟨0, .arr [] (.int .i64) z0⟩]) := by
  rw [f47_def]
  cases k with
  | zero => rfl
  | succ k => exact clone_call (m := [.lend (.int .i64)]) (ty := (.int .i64)) (bytes := 8) (by kernel_rfl) a0 K
noncomputable def s47 (k : Nat) (a : List PV) (r : List RowS) (K : List PV → List RowS → Option R) : Option R :=
  onShape [.val [(0, 0)] (.slice (.int .i64))] [] (fun v => f47 k v.1.1 (fun z0 => K [.rw 1] [⟨0, .arr [] (.int .i64) z0⟩])) (callC T F k 47 a r K) a r
theorem s47_eq (k : Nat) (a : List PV) (r : List RowS) (K : List PV → List RowS → Option R) : s47 k a r K = callC T F k 47 a r K := by
  unfold s47
  exact onShape_eq (a := [.val [(0, 0)] (.slice (.int .i64))]) (b := []) (G := fun a r => callC T F k 47 a r K) (fun x y => Eq.trans (by kernel_rfl) (Eq.trans (e47 k x.1 K).symm (by kernel_rfl))) a r
end
section
variable {R : Type}
noncomputable def S42 (k g : Nat) (a : List PV) (r : List RowS) (K : List PV → List RowS → Option R) : Option R := callC T F k g a r K
theorem S42_eq (k : Nat) : S42 (R := R) k = callC T F k := by
  funext g a r K
  exact rfl
section
variable {R : Type} (k : Nat) (K : List PV → List RowS → Option R)
noncomputable def L42_1000003 (ws : List PV) (rs : List RowS) (N : St → Option R) (X : Nat → St → Option R) : Option R :=
  onShape [.val [] (.int .i64), .val [] (.int .i64), .val [] .bool] [] (fun v => f42_1000003 k (fun yN_0 => N (sh fi42_3 [.val [] (.int .i64) yN_0] [])) v.1.1 v.1.2.1 v.1.2.2.1) (inner T an42 (modesOf F) 0 k 14 (S42 k) (ending T Try.f42 an42 0 K) cd42_1000003 (sh sp42_1000003 ws rs) N X) ws rs
noncomputable def L42 (id : Nat) (ws : List PV) (rs : List RowS) (N : St → Option R) (X : Nat → St → Option R) : Option R := bif id == 1000003 then L42_1000003 k K ws rs N X else none
theorem l42_1000003 (ws : List PV) (rs : List RowS) (N : St → Option R) (X : Nat → St → Option R) : L42 k K 1000003 ws rs N X = inner T an42 (modesOf F) 0 k 14 (S42 k) (ending T Try.f42 an42 0 K) cd42_1000003 (sh sp42_1000003 ws rs) N X := by
  show L42_1000003 k K ws rs N X = _
  unfold L42_1000003
  rw [f42_1000003_def]
  exact onShape_eq (a := [.val [] (.int .i64), .val [] (.int .i64), .val [] .bool]) (b := []) (G := fun ws rs => inner T an42 (modesOf F) 0 k 14 (S42 k) (ending T Try.f42 an42 0 K) cd42_1000003 (sh sp42_1000003 ws rs) N X) (fun x y => Eq.trans (by kernel_rfl) (innerS_eq T an42 (modesOf F) 0 k 14 (S42 k) (L42 k K) cd42_1000003 (l := []) (by kernel_rfl) trivial _ N X)) ws rs
end
theorem e42 (k : Nat) (a0 : Int) (a1 : Int) (K : List PV → List RowS → Option R) : callC T F k 42 [.val [] (.int .i64) a0, .val [] (.int .i64) a1] [] K = f42 k a0 a1 (fun z0 => K [.val [] (.int .i64) z0] []) := by
  rw [f42_def]
  cases k with
  | zero => rfl
  | succ k =>
    refine Eq.trans (show _ = exec T an42 (modesOf F) 0 k 14 (callC T F k) (ending T Try.f42 an42 0 K) (bodyOf Try.f42) ⟨argEnv 0 [.val [] (.int .i64) a0, .val [] (.int .i64) a1] (fun _ => none), rowsOf []⟩ (ending T Try.f42 an42 0 K) (fun _ _ => none) from by kernel_rfl) ?_
    rw [← S42_eq k, ← execS_eq T an42 (modesOf F) 0 k 14 (S42 k) (L42 k K) (bodyOf Try.f42) (cuts_of _ _ _ _ _ _ _ _ (bodyOf Try.f42) (l := [(1000003, sp42_1000003, cd42_1000003)]) (by kernel_rfl) ⟨l42_1000003 k K, trivial⟩)]
    kernel_rfl
noncomputable def s42 (k : Nat) (a : List PV) (r : List RowS) (K : List PV → List RowS → Option R) : Option R :=
  onShape [.val [] (.int .i64), .val [] (.int .i64)] [] (fun v => f42 k v.1.1 v.1.2.1 (fun z0 => K [.val [] (.int .i64) z0] [])) (callC T F k 42 a r K) a r
theorem s42_eq (k : Nat) (a : List PV) (r : List RowS) (K : List PV → List RowS → Option R) : s42 k a r K = callC T F k 42 a r K := by
  unfold s42
  exact onShape_eq (a := [.val [] (.int .i64), .val [] (.int .i64)]) (b := []) (G := fun a r => callC T F k 42 a r K) (fun x y => Eq.trans (by kernel_rfl) (Eq.trans (e42 k x.1 x.2.1 K).symm (by kernel_rfl))) a r
end
section
variable {R : Type}
noncomputable def S10 (k g : Nat) (a : List PV) (r : List RowS) (K : List PV → List RowS → Option R) : Option R := bif g == 21 then s21 k a r K else bif g == 42 then s42 k a r K else bif g == 43 then s43 k a r K else bif g == 45 then s45 k a r K else bif g == 46 then s46 k a r K else bif g == 47 then s47 k a r K else callC T F k g a r K
theorem S10_eq (k : Nat) : S10 (R := R) k = callC T F k := by
  funext g a r K
  exact pick_eq (fun e => by subst e; exact s21_eq k a r K) (pick_eq (fun e => by subst e; exact s42_eq k a r K) (pick_eq (fun e => by subst e; exact s43_eq k a r K) (pick_eq (fun e => by subst e; exact s45_eq k a r K) (pick_eq (fun e => by subst e; exact s46_eq k a r K) (pick_eq (fun e => by subst e; exact s47_eq k a r K) (rfl))))))
section
variable {R : Type} (k : Nat) (K : List PV → List RowS → Option R)
noncomputable def L10_1000012 (ws : List PV) (rs : List RowS) (N : St → Option R) (X : Nat → St → Option R) : Option R :=
  onShape [.val [(0, 0)] (.slice (.int .u8)), .val [] (.int .i64), .rw 1, .rw 2, .rw 3, .val [] (.int .i64), .val [] (.int .i64), .val [] (.int .i64), .rw 4, .val [] (.int .i64), .val [] (.int .i64), .val [] .bool] [.arr [] (.prod (.int .i64) (.prod (.int .i64) (.prod (.int .i64) (.prod (.int .i64) (.prod (.slice (.int .u8)) .unit))))), .arr [] (.prod (.int .i64) (.prod (.int .i64) (.prod (.int .i64) (.prod (.int .i64) (.prod (.slice (.int .u8)) .unit))))), .arr [] (.int .u8), .arr [] (.int .i64)] (fun v => f10_1000012 k (fun yN_3 => N (sh fi10_12 [.val [(0, 0)] (.slice (.int .u8)) v.1.1, .val [] (.int .i64) v.1.2.1, .rw 1, .rw 2, .rw 3, .val [] (.int .i64) v.1.2.2.2.2.2.1, .val [] (.int .i64) yN_3, .rw 4, .val [] (.int .i64) v.1.2.2.2.2.2.2.2.2.2.1, .val [] (.int .i64) v.1.2.2.2.2.2.2.2.2.2.2.1] [⟨0, .arr [] (.prod (.int .i64) (.prod (.int .i64) (.prod (.int .i64) (.prod (.int .i64) (.prod (.slice (.int .u8)) .unit))))) v.2.1⟩, ⟨0, .arr [] (.prod (.int .i64) (.prod (.int .i64) (.prod (.int .i64) (.prod (.int .i64) (.prod (.slice (.int .u8)) .unit))))) v.2.2.1⟩, ⟨0, .arr [] (.int .u8) v.2.2.2.1⟩, ⟨0, .arr [] (.int .i64) v.2.2.2.2.1⟩])) v.1.1 v.1.2.1 v.1.2.2.2.2.2.1 v.1.2.2.2.2.2.2.1 v.1.2.2.2.2.2.2.2.1 v.1.2.2.2.2.2.2.2.2.2.1 v.1.2.2.2.2.2.2.2.2.2.2.1 v.1.2.2.2.2.2.2.2.2.2.2.2.1 v.2.1 v.2.2.1 v.2.2.2.1 v.2.2.2.2.1) (inner T an10 (modesOf F) 0 k 92 (S10 k) (ending T Try.f10 an10 0 K) cd10_1000012 (sh sp10_1000012 ws rs) N X) ws rs
noncomputable def L10_0 (ws : List PV) (rs : List RowS) (N : St → Option R) (X : Nat → St → Option R) : Option R :=
  onShape [.val [(0, 0)] (.slice (.int .u8)), .val [] (.int .i64), .rw 1, .rw 2, .rw 3, .val [] (.int .i64), .rw 4, .val [] (.int .i64), .val [] (.int .i64)] [.arr [] (.prod (.int .i64) (.prod (.int .i64) (.prod (.int .i64) (.prod (.int .i64) (.prod (.slice (.int .u8)) .unit))))), .arr [] (.prod (.int .i64) (.prod (.int .i64) (.prod (.int .i64) (.prod (.int .i64) (.prod (.slice (.int .u8)) .unit))))), .arr [] (.int .u8), .arr [] (.int .i64)] (fun v => f10_0 k (fun z0 => K [.val [] .bool z0] []) (fun y0_1 => N (sh jn10_0 [.rw 1, .rw 2] [⟨0, .arr [] (.prod (.int .i64) (.prod (.int .i64) (.prod (.int .i64) (.prod (.int .i64) (.prod (.slice (.int .u8)) .unit))))) v.2.1⟩, ⟨0, .arr [] (.prod (.int .i64) (.prod (.int .i64) (.prod (.int .i64) (.prod (.int .i64) (.prod (.slice (.int .u8)) .unit))))) y0_1⟩])) v.1.1 v.1.2.1 v.1.2.2.2.2.2.2.2.1 v.2.1 v.2.2.2.2.1 k v.1.2.2.2.2.2.1 v.1.2.2.2.2.2.2.2.2.1 v.2.2.1 v.2.2.2.1) (inner T an10 (modesOf F) 0 k 92 (S10 k) (ending T Try.f10 an10 0 K) cd10_0 (sh sp10_0 ws rs) N X) ws rs
noncomputable def L10 (id : Nat) (ws : List PV) (rs : List RowS) (N : St → Option R) (X : Nat → St → Option R) : Option R := bif id == 1000012 then L10_1000012 k K ws rs N X else bif id == 0 then L10_0 k K ws rs N X else none
theorem l10_1000012 (ws : List PV) (rs : List RowS) (N : St → Option R) (X : Nat → St → Option R) : L10 k K 1000012 ws rs N X = inner T an10 (modesOf F) 0 k 92 (S10 k) (ending T Try.f10 an10 0 K) cd10_1000012 (sh sp10_1000012 ws rs) N X := by
  show L10_1000012 k K ws rs N X = _
  unfold L10_1000012
  rw [f10_1000012_def]
  exact onShape_eq (a := [.val [(0, 0)] (.slice (.int .u8)), .val [] (.int .i64), .rw 1, .rw 2, .rw 3, .val [] (.int .i64), .val [] (.int .i64), .val [] (.int .i64), .rw 4, .val [] (.int .i64), .val [] (.int .i64), .val [] .bool]) (b := [.arr [] (.prod (.int .i64) (.prod (.int .i64) (.prod (.int .i64) (.prod (.int .i64) (.prod (.slice (.int .u8)) .unit))))), .arr [] (.prod (.int .i64) (.prod (.int .i64) (.prod (.int .i64) (.prod (.int .i64) (.prod (.slice (.int .u8)) .unit))))), .arr [] (.int .u8), .arr [] (.int .i64)]) (G := fun ws rs => inner T an10 (modesOf F) 0 k 92 (S10 k) (ending T Try.f10 an10 0 K) cd10_1000012 (sh sp10_1000012 ws rs) N X) (fun x y => Eq.trans (by kernel_rfl) (innerS_eq T an10 (modesOf F) 0 k 92 (S10 k) (L10 k K) cd10_1000012 (l := []) (by kernel_rfl) trivial _ N X)) ws rs
theorem b10_0 (rec : St → Option R) (N : St → Option R) (X : Nat → St → Option R) (v0_0 : List Int) (v0_1 : Int) (v0_3 : Int) (v0_5 : List (Int × (Int × (Int × (Int × (List Int × Unit)))))) (v0_8 : List Int) (v0_2 : Int) (v0_4 : Int) (v0_6 : List (Int × (Int × (Int × (Int × (List Int × Unit)))))) (v0_7 : List Int) :
    execS T an10 (modesOf F) 0 k 92 (S10 k) (L10 k K) (ending T Try.f10 an10 0 K) bd10_0 (sh sp10_0 [.val [(0, 0)] (.slice (.int .u8)) v0_0, .val [] (.int .i64) v0_1, .rw 1, .rw 2, .rw 3, .val [] (.int .i64) v0_2, .rw 4, .val [] (.int .i64) v0_3, .val [] (.int .i64) v0_4] [⟨0, .arr [] (.prod (.int .i64) (.prod (.int .i64) (.prod (.int .i64) (.prod (.int .i64) (.prod (.slice (.int .u8)) .unit))))) v0_5⟩, ⟨0, .arr [] (.prod (.int .i64) (.prod (.int .i64) (.prod (.int .i64) (.prod (.int .i64) (.prod (.slice (.int .u8)) .unit))))) v0_6⟩, ⟨0, .arr [] (.int .u8) v0_7⟩, ⟨0, .arr [] (.int .i64) v0_8⟩]) (fun st => atHead an10 0 bd10_0 st rec) (outX an10 0 0 N X) =
      f10_0b k (fun v0_2 v0_4 v0_6 v0_7 => rec (sh sp10_0 [.val [(0, 0)] (.slice (.int .u8)) v0_0, .val [] (.int .i64) v0_1, .rw 1, .rw 2, .rw 3, .val [] (.int .i64) v0_2, .rw 4, .val [] (.int .i64) v0_3, .val [] (.int .i64) v0_4] [⟨0, .arr [] (.prod (.int .i64) (.prod (.int .i64) (.prod (.int .i64) (.prod (.int .i64) (.prod (.slice (.int .u8)) .unit))))) v0_5⟩, ⟨0, .arr [] (.prod (.int .i64) (.prod (.int .i64) (.prod (.int .i64) (.prod (.int .i64) (.prod (.slice (.int .u8)) .unit))))) v0_6⟩, ⟨0, .arr [] (.int .u8) v0_7⟩, ⟨0, .arr [] (.int .i64) v0_8⟩])) (fun z0 => K [.val [] .bool z0] []) (fun y0_1 => N (sh jn10_0 [.rw 1, .rw 2] [⟨0, .arr [] (.prod (.int .i64) (.prod (.int .i64) (.prod (.int .i64) (.prod (.int .i64) (.prod (.slice (.int .u8)) .unit))))) v0_5⟩, ⟨0, .arr [] (.prod (.int .i64) (.prod (.int .i64) (.prod (.int .i64) (.prod (.int .i64) (.prod (.slice (.int .u8)) .unit))))) y0_1⟩])) v0_0 v0_1 v0_3 v0_5 v0_8 v0_2 v0_4 v0_6 v0_7 := by kernel_rfl
theorem i10_0 (N : St → Option R) (X : Nat → St → Option R) (v0_0 : List Int) (v0_1 : Int) (v0_3 : Int) (v0_5 : List (Int × (Int × (Int × (Int × (List Int × Unit)))))) (v0_8 : List Int) (m : Nat) : ∀ (v0_2 : Int) (v0_4 : Int) (v0_6 : List (Int × (Int × (Int × (Int × (List Int × Unit)))))) (v0_7 : List Int),
    iter (atHead an10 0 bd10_0) m (fun st N' => exec T an10 (modesOf F) 0 k 92 (S10 k) (ending T Try.f10 an10 0 K) bd10_0 st N' (outX an10 0 0 N X)) (sh sp10_0 [.val [(0, 0)] (.slice (.int .u8)) v0_0, .val [] (.int .i64) v0_1, .rw 1, .rw 2, .rw 3, .val [] (.int .i64) v0_2, .rw 4, .val [] (.int .i64) v0_3, .val [] (.int .i64) v0_4] [⟨0, .arr [] (.prod (.int .i64) (.prod (.int .i64) (.prod (.int .i64) (.prod (.int .i64) (.prod (.slice (.int .u8)) .unit))))) v0_5⟩, ⟨0, .arr [] (.prod (.int .i64) (.prod (.int .i64) (.prod (.int .i64) (.prod (.int .i64) (.prod (.slice (.int .u8)) .unit))))) v0_6⟩, ⟨0, .arr [] (.int .u8) v0_7⟩, ⟨0, .arr [] (.int .i64) v0_8⟩]) = f10_0d k (fun z0 => K [.val [] .bool z0] []) (fun y0_1 => N (sh jn10_0 [.rw 1, .rw 2] [⟨0, .arr [] (.prod (.int .i64) (.prod (.int .i64) (.prod (.int .i64) (.prod (.int .i64) (.prod (.slice (.int .u8)) .unit))))) v0_5⟩, ⟨0, .arr [] (.prod (.int .i64) (.prod (.int .i64) (.prod (.int .i64) (.prod (.int .i64) (.prod (.slice (.int .u8)) .unit))))) y0_1⟩])) v0_0 v0_1 v0_3 v0_5 v0_8 m v0_2 v0_4 v0_6 v0_7 := by
  induction m with
  | zero => intros; rfl
  | succ m ih =>
    intro v0_2 v0_4 v0_6 v0_7
    simp only [iter]
    rw [← execS_eq T an10 (modesOf F) 0 k 92 (S10 k) (L10 k K) bd10_0 (cuts_of _ _ _ _ _ _ _ _ bd10_0 (l := [(1000012, sp10_1000012, cd10_1000012)]) (by kernel_rfl) ⟨l10_1000012 k K, trivial⟩)]
    refine (b10_0 k K _ N X v0_0 v0_1 v0_3 v0_5 v0_8 v0_2 v0_4 v0_6 v0_7).trans ?_
    simp only [f10_0d, ih]
theorem l10_0 (ws : List PV) (rs : List RowS) (N : St → Option R) (X : Nat → St → Option R) : L10 k K 0 ws rs N X = inner T an10 (modesOf F) 0 k 92 (S10 k) (ending T Try.f10 an10 0 K) cd10_0 (sh sp10_0 ws rs) N X := by
  show L10_0 k K ws rs N X = _
  unfold L10_0
  rw [f10_0_def]
  exact onShape_eq (a := [.val [(0, 0)] (.slice (.int .u8)), .val [] (.int .i64), .rw 1, .rw 2, .rw 3, .val [] (.int .i64), .rw 4, .val [] (.int .i64), .val [] (.int .i64)]) (b := [.arr [] (.prod (.int .i64) (.prod (.int .i64) (.prod (.int .i64) (.prod (.int .i64) (.prod (.slice (.int .u8)) .unit))))), .arr [] (.prod (.int .i64) (.prod (.int .i64) (.prod (.int .i64) (.prod (.int .i64) (.prod (.slice (.int .u8)) .unit))))), .arr [] (.int .u8), .arr [] (.int .i64)]) (G := fun ws rs => inner T an10 (modesOf F) 0 k 92 (S10 k) (ending T Try.f10 an10 0 K) cd10_0 (sh sp10_0 ws rs) N X) (fun x y => Eq.trans (by kernel_rfl) (Eq.trans (i10_0 k K N X x.1 x.2.1 x.2.2.2.2.2.2.2.1 y.1 y.2.2.2.1 k x.2.2.2.2.2.1 x.2.2.2.2.2.2.2.2.1 y.2.1 y.2.2.1).symm (by kernel_rfl))) ws rs
end
theorem e10 (k : Nat) (a0 : List Int) (a1 : Int) (a2 : List Int) (K : List PV → List RowS → Option R) : callC T F k 10 [.val [(0, 0)] (.slice (.int .u8)) a0, .val [] (.int .i64) a1, .val [(0, 0)] (.slice (.int .i64)) a2] [] K = f10 k a0 a1 a2 (fun z0 => K [.val [] .bool z0] []) := by
  rw [f10_def]
  cases k with
  | zero => rfl
  | succ k =>
    refine Eq.trans (show _ = exec T an10 (modesOf F) 0 k 92 (callC T F k) (ending T Try.f10 an10 0 K) (bodyOf Try.f10) ⟨argEnv 0 [.val [(0, 0)] (.slice (.int .u8)) a0, .val [] (.int .i64) a1, .val [(0, 0)] (.slice (.int .i64)) a2] (fun _ => none), rowsOf []⟩ (ending T Try.f10 an10 0 K) (fun _ _ => none) from by kernel_rfl) ?_
    rw [← S10_eq k, ← execS_eq T an10 (modesOf F) 0 k 92 (S10 k) (L10 k K) (bodyOf Try.f10) (cuts_of _ _ _ _ _ _ _ _ (bodyOf Try.f10) (l := [(0, sp10_0, cd10_0)]) (by kernel_rfl) ⟨l10_0 k K, trivial⟩)]
    kernel_rfl
noncomputable def s10 (k : Nat) (a : List PV) (r : List RowS) (K : List PV → List RowS → Option R) : Option R :=
  onShape [.val [(0, 0)] (.slice (.int .u8)), .val [] (.int .i64), .val [(0, 0)] (.slice (.int .i64))] [] (fun v => f10 k v.1.1 v.1.2.1 v.1.2.2.1 (fun z0 => K [.val [] .bool z0] [])) (callC T F k 10 a r K) a r
theorem s10_eq (k : Nat) (a : List PV) (r : List RowS) (K : List PV → List RowS → Option R) : s10 k a r K = callC T F k 10 a r K := by
  unfold s10
  exact onShape_eq (a := [.val [(0, 0)] (.slice (.int .u8)), .val [] (.int .i64), .val [(0, 0)] (.slice (.int .i64))]) (b := []) (G := fun a r => callC T F k 10 a r K) (fun x y => Eq.trans (by kernel_rfl) (Eq.trans (e10 k x.1 x.2.1 x.2.2.1 K).symm (by kernel_rfl))) a r
end
section
variable {R : Type}
noncomputable def S83 (k g : Nat) (a : List PV) (r : List RowS) (K : List PV → List RowS → Option R) : Option R := bif g == 30 then s30 k a r K else callC T F k g a r K
theorem S83_eq (k : Nat) : S83 (R := R) k = callC T F k := by
  funext g a r K
  exact pick_eq (fun e => by subst e; exact s30_eq k a r K) (rfl)
section
variable {R : Type} (k : Nat) (K : List PV → List RowS → Option R)
noncomputable def L83_0 (ws : List PV) (rs : List RowS) (N : St → Option R) (X : Nat → St → Option R) : Option R :=
  onShape [.val [(0, 0)] (.slice (.prod (.int .i64) (.prod .bool (.prod (.int .i64) (.prod (.int .i64) (.prod (.slice (.int .u8)) .unit)))))), .val [] (.int .i64), .val [] (.int .i64)] [] (fun v => f83_0 k (fun z0 => K [.val [] (.int .i64) z0] []) (N (sh jn83_0 [] [])) v.1.1 v.1.2.1 k v.1.2.2.1) (inner T an83 (modesOf F) 0 k 21 (S83 k) (ending T Try.f83 an83 0 K) cd83_0 (sh sp83_0 ws rs) N X) ws rs
noncomputable def L83 (id : Nat) (ws : List PV) (rs : List RowS) (N : St → Option R) (X : Nat → St → Option R) : Option R := bif id == 0 then L83_0 k K ws rs N X else none
theorem b83_0 (rec : St → Option R) (N : St → Option R) (X : Nat → St → Option R) (v0_0 : List ((Int × (Bool × (Int × (Int × (List Int × Unit))))))) (v0_1 : Int) (v0_2 : Int) :
    execS T an83 (modesOf F) 0 k 21 (S83 k) (L83 k K) (ending T Try.f83 an83 0 K) bd83_0 (sh sp83_0 [.val [(0, 0)] (.slice (.prod (.int .i64) (.prod .bool (.prod (.int .i64) (.prod (.int .i64) (.prod (.slice (.int .u8)) .unit)))))) v0_0, .val [] (.int .i64) v0_1, .val [] (.int .i64) v0_2] []) (fun st => atHead an83 0 bd83_0 st rec) (outX an83 0 0 N X) =
      f83_0b k (fun v0_2 => rec (sh sp83_0 [.val [(0, 0)] (.slice (.prod (.int .i64) (.prod .bool (.prod (.int .i64) (.prod (.int .i64) (.prod (.slice (.int .u8)) .unit)))))) v0_0, .val [] (.int .i64) v0_1, .val [] (.int .i64) v0_2] [])) (fun z0 => K [.val [] (.int .i64) z0] []) (N (sh jn83_0 [] [])) v0_0 v0_1 v0_2 := by kernel_rfl
theorem i83_0 (N : St → Option R) (X : Nat → St → Option R) (v0_0 : List ((Int × (Bool × (Int × (Int × (List Int × Unit))))))) (v0_1 : Int) (m : Nat) : ∀ (v0_2 : Int),
    iter (atHead an83 0 bd83_0) m (fun st N' => exec T an83 (modesOf F) 0 k 21 (S83 k) (ending T Try.f83 an83 0 K) bd83_0 st N' (outX an83 0 0 N X)) (sh sp83_0 [.val [(0, 0)] (.slice (.prod (.int .i64) (.prod .bool (.prod (.int .i64) (.prod (.int .i64) (.prod (.slice (.int .u8)) .unit)))))) v0_0, .val [] (.int .i64) v0_1, .val [] (.int .i64) v0_2] []) = f83_0d k (fun z0 => K [.val [] (.int .i64) z0] []) (N (sh jn83_0 [] [])) v0_0 v0_1 m v0_2 := by
  induction m with
  | zero => intros; rfl
  | succ m ih =>
    intro v0_2
    simp only [iter]
    rw [← execS_eq T an83 (modesOf F) 0 k 21 (S83 k) (L83 k K) bd83_0 (cuts_of _ _ _ _ _ _ _ _ bd83_0 (l := []) (by kernel_rfl) trivial)]
    refine (b83_0 k K _ N X v0_0 v0_1 v0_2).trans ?_
    simp only [f83_0d, ih]
theorem l83_0 (ws : List PV) (rs : List RowS) (N : St → Option R) (X : Nat → St → Option R) : L83 k K 0 ws rs N X = inner T an83 (modesOf F) 0 k 21 (S83 k) (ending T Try.f83 an83 0 K) cd83_0 (sh sp83_0 ws rs) N X := by
  show L83_0 k K ws rs N X = _
  unfold L83_0
  rw [f83_0_def]
  exact onShape_eq (a := [.val [(0, 0)] (.slice (.prod (.int .i64) (.prod .bool (.prod (.int .i64) (.prod (.int .i64) (.prod (.slice (.int .u8)) .unit)))))), .val [] (.int .i64), .val [] (.int .i64)]) (b := []) (G := fun ws rs => inner T an83 (modesOf F) 0 k 21 (S83 k) (ending T Try.f83 an83 0 K) cd83_0 (sh sp83_0 ws rs) N X) (fun x y => Eq.trans (by kernel_rfl) (Eq.trans (i83_0 k K N X x.1 x.2.1 k x.2.2.1).symm (by kernel_rfl))) ws rs
end
theorem e83 (k : Nat) (a0 : List ((Int × (Bool × (Int × (Int × (List Int × Unit))))))) (K : List PV → List RowS → Option R) : callC T F k 83 [.val [(0, 0)] (.slice (.prod (.int .i64) (.prod .bool (.prod (.int .i64) (.prod (.int .i64) (.prod (.slice (.int .u8)) .unit)))))) a0] [] K = f83 k a0 (fun z0 => K [.val [] (.int .i64) z0] []) := by
  rw [f83_def]
  cases k with
  | zero => rfl
  | succ k =>
    refine Eq.trans (show _ = exec T an83 (modesOf F) 0 k 21 (callC T F k) (ending T Try.f83 an83 0 K) (bodyOf Try.f83) ⟨argEnv 0 [.val [(0, 0)] (.slice (.prod (.int .i64) (.prod .bool (.prod (.int .i64) (.prod (.int .i64) (.prod (.slice (.int .u8)) .unit)))))) a0] (fun _ => none), rowsOf []⟩ (ending T Try.f83 an83 0 K) (fun _ _ => none) from by kernel_rfl) ?_
    rw [← S83_eq k, ← execS_eq T an83 (modesOf F) 0 k 21 (S83 k) (L83 k K) (bodyOf Try.f83) (cuts_of _ _ _ _ _ _ _ _ (bodyOf Try.f83) (l := [(0, sp83_0, cd83_0)]) (by kernel_rfl) ⟨l83_0 k K, trivial⟩)]
    kernel_rfl
noncomputable def s83 (k : Nat) (a : List PV) (r : List RowS) (K : List PV → List RowS → Option R) : Option R :=
  onShape [.val [(0, 0)] (.slice (.prod (.int .i64) (.prod .bool (.prod (.int .i64) (.prod (.int .i64) (.prod (.slice (.int .u8)) .unit))))))] [] (fun v => f83 k v.1.1 (fun z0 => K [.val [] (.int .i64) z0] [])) (callC T F k 83 a r K) a r
theorem s83_eq (k : Nat) (a : List PV) (r : List RowS) (K : List PV → List RowS → Option R) : s83 k a r K = callC T F k 83 a r K := by
  unfold s83
  exact onShape_eq (a := [.val [(0, 0)] (.slice (.prod (.int .i64) (.prod .bool (.prod (.int .i64) (.prod (.int .i64) (.prod (.slice (.int .u8)) .unit))))))]) (b := []) (G := fun a r => callC T F k 83 a r K) (fun x y => Eq.trans (by kernel_rfl) (Eq.trans (e83 k x.1 K).symm (by kernel_rfl))) a r
end
section
variable {R : Type}
noncomputable def S72 (k g : Nat) (a : List PV) (r : List RowS) (K : List PV → List RowS → Option R) : Option R := callC T F k g a r K
theorem S72_eq (k : Nat) : S72 (R := R) k = callC T F k := by
  funext g a r K
  exact rfl
theorem e72 (k : Nat) (a0 : Int) (K : List PV → List RowS → Option R) : callC T F k 72 [.val [] (.int .i64) a0] [] K = f72 k a0 (fun z0 => K [.rw 1] [⟨0, .arr [] (.int .u8) z0⟩]) := by
  rw [f72_def]
  cases k with
  | zero => rfl
  | succ k =>
    refine Eq.trans (show _ = exec T an72 (modesOf F) 0 k 9 (callC T F k) (ending T Try.f72 an72 0 K) (bodyOf Try.f72) ⟨argEnv 0 [.val [] (.int .i64) a0] (fun _ => none), rowsOf []⟩ (ending T Try.f72 an72 0 K) (fun _ _ => none) from by kernel_rfl) ?_
    rw [← S72_eq k, ← execS_eq T an72 (modesOf F) 0 k 9 (S72 k) (fun _ _ _ _ _ => none) (bodyOf Try.f72) (cuts_of _ _ _ _ _ _ _ _ (bodyOf Try.f72) (l := []) (by kernel_rfl) trivial)]
    kernel_rfl
noncomputable def s72 (k : Nat) (a : List PV) (r : List RowS) (K : List PV → List RowS → Option R) : Option R :=
  onShape [.val [] (.int .i64)] [] (fun v => f72 k v.1.1 (fun z0 => K [.rw 1] [⟨0, .arr [] (.int .u8) z0⟩])) (callC T F k 72 a r K) a r
theorem s72_eq (k : Nat) (a : List PV) (r : List RowS) (K : List PV → List RowS → Option R) : s72 k a r K = callC T F k 72 a r K := by
  unfold s72
  exact onShape_eq (a := [.val [] (.int .i64)]) (b := []) (G := fun a r => callC T F k 72 a r K) (fun x y => Eq.trans (by kernel_rfl) (Eq.trans (e72 k x.1 K).symm (by kernel_rfl))) a r
end
section
variable {R : Type}
noncomputable def S73 (k g : Nat) (a : List PV) (r : List RowS) (K : List PV → List RowS → Option R) : Option R := bif g == 19 then s19 k a r K else bif g == 72 then s72 k a r K else callC T F k g a r K
theorem S73_eq (k : Nat) : S73 (R := R) k = callC T F k := by
  funext g a r K
  exact pick_eq (fun e => by subst e; exact s19_eq k a r K) (pick_eq (fun e => by subst e; exact s72_eq k a r K) (rfl))
theorem e73 (k : Nat) (a0 : List Int) (K : List PV → List RowS → Option R) : callC T F k 73 [.rw 1] [⟨0, .arr [] (.int .u8) a0⟩] K = f73 k a0 (fun z0 => K [.rw 2] [⟨0, .gone⟩, ⟨0, .arr [] (.int .u8) z0⟩]) := by
  rw [f73_def]
  cases k with
  | zero => rfl
  | succ k =>
    refine Eq.trans (show _ = exec T an73 (modesOf F) 1 k 8 (callC T F k) (ending T Try.f73 an73 1 K) (bodyOf Try.f73) ⟨argEnv 0 [.rw 1] (fun _ => none), rowsOf [⟨0, .arr [] (.int .u8) a0⟩]⟩ (ending T Try.f73 an73 1 K) (fun _ _ => none) from by kernel_rfl) ?_
    rw [← S73_eq k, ← execS_eq T an73 (modesOf F) 1 k 8 (S73 k) (fun _ _ _ _ _ => none) (bodyOf Try.f73) (cuts_of _ _ _ _ _ _ _ _ (bodyOf Try.f73) (l := []) (by kernel_rfl) trivial)]
    kernel_rfl
noncomputable def s73 (k : Nat) (a : List PV) (r : List RowS) (K : List PV → List RowS → Option R) : Option R :=
  onShape [.rw 1] [.arr [] (.int .u8)] (fun v => f73 k v.2.1 (fun z0 => K [.rw 2] [⟨0, .gone⟩, ⟨0, .arr [] (.int .u8) z0⟩])) (callC T F k 73 a r K) a r
theorem s73_eq (k : Nat) (a : List PV) (r : List RowS) (K : List PV → List RowS → Option R) : s73 k a r K = callC T F k 73 a r K := by
  unfold s73
  exact onShape_eq (a := [.rw 1]) (b := [.arr [] (.int .u8)]) (G := fun a r => callC T F k 73 a r K) (fun x y => Eq.trans (by kernel_rfl) (Eq.trans (e73 k y.1 K).symm (by kernel_rfl))) a r
end
section
variable {R : Type}
noncomputable def S70 (k g : Nat) (a : List PV) (r : List RowS) (K : List PV → List RowS → Option R) : Option R := bif g == 72 then s72 k a r K else bif g == 73 then s73 k a r K else callC T F k g a r K
theorem S70_eq (k : Nat) : S70 (R := R) k = callC T F k := by
  funext g a r K
  exact pick_eq (fun e => by subst e; exact s72_eq k a r K) (pick_eq (fun e => by subst e; exact s73_eq k a r K) (rfl))
section
variable {R : Type} (k : Nat) (K : List PV → List RowS → Option R)
noncomputable def L70_1000003 (ws : List PV) (rs : List RowS) (N : St → Option R) (X : Nat → St → Option R) : Option R :=
  onShape [.ptr 1 0, .val [] (.int .i64), .val [] .bool] [.vars [.val [] (.int .i64), .val [] .bool, .val [] (.int .i64), .val [] (.int .i64), .val [(0, 0)] (.slice (.int .u8))]] (fun v => f70_1000003 k (fun yN_0 => N (sh fi70_3 [.ptr 1 0, .val [] (.int .i64) yN_0] [⟨0, .vars [.val [] (.int .i64) v.2.1.1, .val [] .bool v.2.1.2.1, .val [] (.int .i64) v.2.1.2.2.1, .val [] (.int .i64) v.2.1.2.2.2.1, .val [(0, 0)] (.slice (.int .u8)) v.2.1.2.2.2.2.1]⟩])) v.1.2.1 v.1.2.2.1 v.2.1.1 v.2.1.2.1 v.2.1.2.2.1 v.2.1.2.2.2.1 v.2.1.2.2.2.2.1) (inner T an70 (modesOf F) 0 k 33 (S70 k) (ending T Try.f70 an70 0 K) cd70_1000003 (sh sp70_1000003 ws rs) N X) ws rs
noncomputable def L70 (id : Nat) (ws : List PV) (rs : List RowS) (N : St → Option R) (X : Nat → St → Option R) : Option R := bif id == 1000003 then L70_1000003 k K ws rs N X else none
theorem l70_1000003 (ws : List PV) (rs : List RowS) (N : St → Option R) (X : Nat → St → Option R) : L70 k K 1000003 ws rs N X = inner T an70 (modesOf F) 0 k 33 (S70 k) (ending T Try.f70 an70 0 K) cd70_1000003 (sh sp70_1000003 ws rs) N X := by
  show L70_1000003 k K ws rs N X = _
  unfold L70_1000003
  rw [f70_1000003_def]
  exact onShape_eq (a := [.ptr 1 0, .val [] (.int .i64), .val [] .bool]) (b := [.vars [.val [] (.int .i64), .val [] .bool, .val [] (.int .i64), .val [] (.int .i64), .val [(0, 0)] (.slice (.int .u8))]]) (G := fun ws rs => inner T an70 (modesOf F) 0 k 33 (S70 k) (ending T Try.f70 an70 0 K) cd70_1000003 (sh sp70_1000003 ws rs) N X) (fun x y => Eq.trans (by kernel_rfl) (innerS_eq T an70 (modesOf F) 0 k 33 (S70 k) (L70 k K) cd70_1000003 (l := []) (by kernel_rfl) trivial _ N X)) ws rs
end
theorem e70 (k : Nat) (a0 : Int) (a1 : Bool) (a2 : Int) (a3 : Int) (a4 : List Int) (K : List PV → List RowS → Option R) : callC T F k 70 [.agg [.val [] (.int .i64) a0, .val [] .bool a1, .val [] (.int .i64) a2, .val [] (.int .i64) a3, .val [(0, 0)] (.slice (.int .u8)) a4]] [] K = f70 k a0 a1 a2 a3 a4 (fun z0 => K [.rw 1] [⟨0, .arr [] (.int .u8) z0⟩]) := by
  rw [f70_def]
  cases k with
  | zero => rfl
  | succ k =>
    refine Eq.trans (show _ = exec T an70 (modesOf F) 0 k 33 (callC T F k) (ending T Try.f70 an70 0 K) (bodyOf Try.f70) ⟨argEnv 0 [.agg [.val [] (.int .i64) a0, .val [] .bool a1, .val [] (.int .i64) a2, .val [] (.int .i64) a3, .val [(0, 0)] (.slice (.int .u8)) a4]] (fun _ => none), rowsOf []⟩ (ending T Try.f70 an70 0 K) (fun _ _ => none) from by kernel_rfl) ?_
    rw [← S70_eq k, ← execS_eq T an70 (modesOf F) 0 k 33 (S70 k) (L70 k K) (bodyOf Try.f70) (cuts_of _ _ _ _ _ _ _ _ (bodyOf Try.f70) (l := [(1000003, sp70_1000003, cd70_1000003)]) (by kernel_rfl) ⟨l70_1000003 k K, trivial⟩)]
    kernel_rfl
noncomputable def s70 (k : Nat) (a : List PV) (r : List RowS) (K : List PV → List RowS → Option R) : Option R :=
  onShape [.agg [.val [] (.int .i64), .val [] .bool, .val [] (.int .i64), .val [] (.int .i64), .val [(0, 0)] (.slice (.int .u8))]] [] (fun v => f70 k v.1.1.1 v.1.1.2.1 v.1.1.2.2.1 v.1.1.2.2.2.1 v.1.1.2.2.2.2.1 (fun z0 => K [.rw 1] [⟨0, .arr [] (.int .u8) z0⟩])) (callC T F k 70 a r K) a r
theorem s70_eq (k : Nat) (a : List PV) (r : List RowS) (K : List PV → List RowS → Option R) : s70 k a r K = callC T F k 70 a r K := by
  unfold s70
  exact onShape_eq (a := [.agg [.val [] (.int .i64), .val [] .bool, .val [] (.int .i64), .val [] (.int .i64), .val [(0, 0)] (.slice (.int .u8))]]) (b := []) (G := fun a r => callC T F k 70 a r K) (fun x y => Eq.trans (by kernel_rfl) (Eq.trans (e70 k x.1.1 x.1.2.1 x.1.2.2.1 x.1.2.2.2.1 x.1.2.2.2.2.1 K).symm (by kernel_rfl))) a r
end
section
variable {R : Type}
noncomputable def S48 (k g : Nat) (a : List PV) (r : List RowS) (K : List PV → List RowS → Option R) : Option R := bif g == 35 then s35 k a r K else bif g == 41 then s41 k a r K else bif g == 70 then s70 k a r K else bif g == 75 then s75 k a r K else bif g == 83 then s83 k a r K else callC T F k g a r K
theorem S48_eq (k : Nat) : S48 (R := R) k = callC T F k := by
  funext g a r K
  exact pick_eq (fun e => by subst e; exact s35_eq k a r K) (pick_eq (fun e => by subst e; exact s41_eq k a r K) (pick_eq (fun e => by subst e; exact s70_eq k a r K) (pick_eq (fun e => by subst e; exact s75_eq k a r K) (pick_eq (fun e => by subst e; exact s83_eq k a r K) (rfl)))))
section
variable {R : Type} (k : Nat) (K : List PV → List RowS → Option R)
noncomputable def L48_0 (ws : List PV) (rs : List RowS) (N : St → Option R) (X : Nat → St → Option R) : Option R :=
  onShape [.val [] (.int .i64), .val [] (.int .i64), .val [] (.int .i64), .val [] (.int .i64), .rw 1, .rw 2, .val [(0, 0)] (.slice (.prod (.int .i64) (.prod .bool (.prod (.int .i64) (.prod (.int .i64) (.prod (.slice (.int .u8)) .unit)))))), .val [] (.int .i64), .val [] (.int .i64)] [.arr [] (.int .u8), .arr [] (.int .i64)] (fun v => f48_0 k (fun y0_4 y0_5 => N (sh jn48_0 [.val [] (.int .i64) v.1.1, .val [] (.int .i64) v.1.2.1, .val [] (.int .i64) v.1.2.2.1, .val [] (.int .i64) v.1.2.2.2.1, .rw 1, .rw 2] [⟨0, .arr [] (.int .u8) y0_4⟩, ⟨0, .arr [] (.int .i64) y0_5⟩])) v.1.1 v.1.2.1 v.1.2.2.1 v.1.2.2.2.1 v.1.2.2.2.2.2.2.1 v.1.2.2.2.2.2.2.2.1 k v.1.2.2.2.2.2.2.2.2.1 v.2.1 v.2.2.1) (inner T an48 (modesOf F) 0 k 152 (S48 k) (ending T Try.f48 an48 0 K) cd48_0 (sh sp48_0 ws rs) N X) ws rs
noncomputable def L48_1000022 (ws : List PV) (rs : List RowS) (N : St → Option R) (X : Nat → St → Option R) : Option R :=
  onShape [.val [] (.int .i64), .val [] (.int .i64), .val [] (.int .i64), .rw 1, .rw 2, .val [] (.int .i64), .val [] (.int .i64), .val [] .bool] [.arr [] (.int .u8), .arr [] (.int .i64)] (fun v => f48_1000022 k (fun yN_4 => N (sh fi48_22 [.val [] (.int .i64) v.1.1, .val [] (.int .i64) v.1.2.1, .val [] (.int .i64) v.1.2.2.1, .rw 1, .rw 2, .val [] (.int .i64) v.1.2.2.2.2.2.1, .val [] (.int .i64) yN_4] [⟨0, .arr [] (.int .u8) v.2.1⟩, ⟨0, .arr [] (.int .i64) v.2.2.1⟩])) v.1.1 v.1.2.1 v.1.2.2.1 v.1.2.2.2.2.2.1 v.1.2.2.2.2.2.2.1 v.1.2.2.2.2.2.2.2.1 v.2.1 v.2.2.1) (inner T an48 (modesOf F) 0 k 152 (S48 k) (ending T Try.f48 an48 0 K) cd48_1000022 (sh sp48_1000022 ws rs) N X) ws rs
noncomputable def L48_1000021 (ws : List PV) (rs : List RowS) (N : St → Option R) (X : Nat → St → Option R) : Option R :=
  onShape [.val [] (.int .i64), .val [] (.int .i64), .val [] (.int .i64), .rw 1, .rw 2, .val [] (.int .i64), .val [] (.int .i64), .val [] .bool] [.arr [] (.int .u8), .arr [] (.int .i64)] (fun v => f48_1000021 k (fun yN_4 yN_5 => N (sh fi48_21 [.val [] (.int .i64) v.1.1, .val [] (.int .i64) v.1.2.1, .val [] (.int .i64) v.1.2.2.1, .rw 1, .rw 2, .val [] (.int .i64) v.1.2.2.2.2.2.1] [⟨0, .arr [] (.int .u8) yN_4⟩, ⟨0, .arr [] (.int .i64) yN_5⟩])) v.1.1 v.1.2.1 v.1.2.2.1 v.1.2.2.2.2.2.1 v.1.2.2.2.2.2.2.1 v.1.2.2.2.2.2.2.2.1 v.2.1 v.2.2.1) (inner T an48 (modesOf F) 0 k 152 (S48 k) (ending T Try.f48 an48 0 K) cd48_1000021 (sh sp48_1000021 ws rs) N X) ws rs
noncomputable def L48_1000035 (ws : List PV) (rs : List RowS) (N : St → Option R) (X : Nat → St → Option R) : Option R :=
  onShape [.val [] (.int .i64), .val [] (.int .i64), .val [] (.int .i64), .rw 1, .rw 2, .val [] (.int .i64), .rw 3, .val [] (.int .i64), .ptr 4 0, .val [] (.int .i64), .val [] (.int .i64), .val [] .bool] [.arr [] (.int .u8), .arr [] (.int .i64), .arr [] (.prod (.int .i64) (.prod (.int .i64) (.prod (.int .i64) (.prod (.int .i64) (.prod (.slice (.int .u8)) .unit))))), .vars [.val [] (.int .i64), .val [] (.int .i64), .val [] (.int .i64), .val [] (.int .i64), .rw 5], .arr [] (.int .u8)] (fun v => f48_1000035 k (fun yN_13 => N (sh fi48_35 [.val [] (.int .i64) v.1.1, .val [] (.int .i64) v.1.2.1, .val [] (.int .i64) v.1.2.2.1, .rw 1, .rw 2, .val [] (.int .i64) v.1.2.2.2.2.2.1, .rw 3, .val [] (.int .i64) v.1.2.2.2.2.2.2.2.1, .ptr 4 0, .val [] (.int .i64) v.1.2.2.2.2.2.2.2.2.2.1, .val [] (.int .i64) v.1.2.2.2.2.2.2.2.2.2.2.1] [⟨0, .arr [] (.int .u8) v.2.1⟩, ⟨0, .arr [] (.int .i64) v.2.2.1⟩, ⟨0, .arr [] (.prod (.int .i64) (.prod (.int .i64) (.prod (.int .i64) (.prod (.int .i64) (.prod (.slice (.int .u8)) .unit))))) v.2.2.2.1⟩, ⟨0, .vars [.val [] (.int .i64) v.2.2.2.2.1.1, .val [] (.int .i64) v.2.2.2.2.1.2.1, .val [] (.int .i64) v.2.2.2.2.1.2.2.1, .val [] (.int .i64) yN_13, .rw 5]⟩, ⟨0, .arr [] (.int .u8) v.2.2.2.2.2.1⟩])) v.1.1 v.1.2.1 v.1.2.2.1 v.1.2.2.2.2.2.1 v.1.2.2.2.2.2.2.2.1 v.1.2.2.2.2.2.2.2.2.2.1 v.1.2.2.2.2.2.2.2.2.2.2.1 v.1.2.2.2.2.2.2.2.2.2.2.2.1 v.2.1 v.2.2.1 v.2.2.2.1 v.2.2.2.2.1.1 v.2.2.2.2.1.2.1 v.2.2.2.2.1.2.2.1 v.2.2.2.2.1.2.2.2.1 v.2.2.2.2.2.1) (inner T an48 (modesOf F) 0 k 152 (S48 k) (ending T Try.f48 an48 0 K) cd48_1000035 (sh sp48_1000035 ws rs) N X) ws rs
noncomputable def L48_4 (ws : List PV) (rs : List RowS) (N : St → Option R) (X : Nat → St → Option R) : Option R :=
  onShape [.val [] (.int .i64), .val [] (.int .i64), .val [] (.int .i64), .rw 1, .rw 2, .val [] (.int .i64), .rw 3, .val [] (.int .i64), .ptr 4 0, .val [] (.int .i64), .val [] (.int .i64)] [.arr [] (.int .u8), .arr [] (.int .i64), .arr [] (.prod (.int .i64) (.prod (.int .i64) (.prod (.int .i64) (.prod (.int .i64) (.prod (.slice (.int .u8)) .unit))))), .vars [.val [] (.int .i64), .val [] (.int .i64), .val [] (.int .i64), .val [] (.int .i64), .rw 5], .arr [] (.int .u8)] (fun v => f48_4 k (fun y4_7 y4_12 => N (sh jn48_4 [.val [] (.int .i64) v.1.1, .val [] (.int .i64) v.1.2.1, .val [] (.int .i64) v.1.2.2.1, .rw 1, .rw 2, .val [] (.int .i64) v.1.2.2.2.2.2.1, .rw 3, .ptr 4 0, .val [] (.int .i64) v.1.2.2.2.2.2.2.2.2.2.1, .val [] (.int .i64) v.1.2.2.2.2.2.2.2.2.2.2.1] [⟨0, .arr [] (.int .u8) v.2.1⟩, ⟨0, .arr [] (.int .i64) y4_7⟩, ⟨0, .arr [] (.prod (.int .i64) (.prod (.int .i64) (.prod (.int .i64) (.prod (.int .i64) (.prod (.slice (.int .u8)) .unit))))) v.2.2.2.1⟩, ⟨0, .vars [.val [] (.int .i64) v.2.2.2.2.1.1, .val [] (.int .i64) v.2.2.2.2.1.2.1, .val [] (.int .i64) v.2.2.2.2.1.2.2.1, .val [] (.int .i64) y4_12, .rw 5]⟩, ⟨0, .arr [] (.int .u8) v.2.2.2.2.2.1⟩])) v.1.1 v.1.2.1 v.1.2.2.1 v.1.2.2.2.2.2.1 v.1.2.2.2.2.2.2.2.1 v.1.2.2.2.2.2.2.2.2.2.1 v.1.2.2.2.2.2.2.2.2.2.2.1 v.2.1 v.2.2.2.1 v.2.2.2.2.1.1 v.2.2.2.2.1.2.1 v.2.2.2.2.1.2.2.1 v.2.2.2.2.2.1 k v.2.2.1 v.2.2.2.2.1.2.2.2.1) (inner T an48 (modesOf F) 0 k 152 (S48 k) (ending T Try.f48 an48 0 K) cd48_4 (sh sp48_4 ws rs) N X) ws rs
noncomputable def L48_2 (ws : List PV) (rs : List RowS) (N : St → Option R) (X : Nat → St → Option R) : Option R :=
  onShape [.val [] (.int .i64), .val [] (.int .i64), .val [] (.int .i64), .rw 1, .rw 2, .val [] (.int .i64), .rw 3, .val [] (.int .i64), .val [] (.int .i64)] [.arr [] (.int .u8), .arr [] (.int .i64), .arr [] (.prod (.int .i64) (.prod (.int .i64) (.prod (.int .i64) (.prod (.int .i64) (.prod (.slice (.int .u8)) .unit)))))] (fun v => f48_2 k (fun y2_0 => N (sh jn48_2 [.rw 1] [⟨0, .arr [] (.prod (.int .i64) (.prod (.int .i64) (.prod (.int .i64) (.prod (.int .i64) (.prod (.slice (.int .u8)) .unit))))) y2_0⟩])) v.1.1 v.1.2.1 v.1.2.2.1 v.1.2.2.2.2.2.1 v.1.2.2.2.2.2.2.2.1 v.2.1 k v.1.2.2.2.2.2.2.2.2.1 v.2.2.1 v.2.2.2.1) (inner T an48 (modesOf F) 0 k 152 (S48 k) (ending T Try.f48 an48 0 K) cd48_2 (sh sp48_2 ws rs) N X) ws rs
noncomputable def L48 (id : Nat) (ws : List PV) (rs : List RowS) (N : St → Option R) (X : Nat → St → Option R) : Option R := bif id == 0 then L48_0 k K ws rs N X else bif id == 1000022 then L48_1000022 k K ws rs N X else bif id == 1000021 then L48_1000021 k K ws rs N X else bif id == 1000035 then L48_1000035 k K ws rs N X else bif id == 4 then L48_4 k K ws rs N X else bif id == 2 then L48_2 k K ws rs N X else none
theorem b48_0 (rec : St → Option R) (N : St → Option R) (X : Nat → St → Option R) (v0_0 : Int) (v0_1 : Int) (v0_2 : Int) (v0_3 : Int) (v0_4 : List ((Int × (Bool × (Int × (Int × (List Int × Unit))))))) (v0_5 : Int) (v0_6 : Int) (v0_7 : List Int) (v0_8 : List Int) :
    execS T an48 (modesOf F) 0 k 152 (S48 k) (L48 k K) (ending T Try.f48 an48 0 K) bd48_0 (sh sp48_0 [.val [] (.int .i64) v0_0, .val [] (.int .i64) v0_1, .val [] (.int .i64) v0_2, .val [] (.int .i64) v0_3, .rw 1, .rw 2, .val [(0, 0)] (.slice (.prod (.int .i64) (.prod .bool (.prod (.int .i64) (.prod (.int .i64) (.prod (.slice (.int .u8)) .unit)))))) v0_4, .val [] (.int .i64) v0_5, .val [] (.int .i64) v0_6] [⟨0, .arr [] (.int .u8) v0_7⟩, ⟨0, .arr [] (.int .i64) v0_8⟩]) (fun st => atHead an48 0 bd48_0 st rec) (outX an48 0 0 N X) =
      f48_0b k (fun v0_6 v0_7 v0_8 => rec (sh sp48_0 [.val [] (.int .i64) v0_0, .val [] (.int .i64) v0_1, .val [] (.int .i64) v0_2, .val [] (.int .i64) v0_3, .rw 1, .rw 2, .val [(0, 0)] (.slice (.prod (.int .i64) (.prod .bool (.prod (.int .i64) (.prod (.int .i64) (.prod (.slice (.int .u8)) .unit)))))) v0_4, .val [] (.int .i64) v0_5, .val [] (.int .i64) v0_6] [⟨0, .arr [] (.int .u8) v0_7⟩, ⟨0, .arr [] (.int .i64) v0_8⟩])) (fun y0_4 y0_5 => N (sh jn48_0 [.val [] (.int .i64) v0_0, .val [] (.int .i64) v0_1, .val [] (.int .i64) v0_2, .val [] (.int .i64) v0_3, .rw 1, .rw 2] [⟨0, .arr [] (.int .u8) y0_4⟩, ⟨0, .arr [] (.int .i64) y0_5⟩])) v0_0 v0_1 v0_2 v0_3 v0_4 v0_5 v0_6 v0_7 v0_8 := by kernel_rfl
theorem i48_0 (N : St → Option R) (X : Nat → St → Option R) (v0_0 : Int) (v0_1 : Int) (v0_2 : Int) (v0_3 : Int) (v0_4 : List ((Int × (Bool × (Int × (Int × (List Int × Unit))))))) (v0_5 : Int) (m : Nat) : ∀ (v0_6 : Int) (v0_7 : List Int) (v0_8 : List Int),
    iter (atHead an48 0 bd48_0) m (fun st N' => exec T an48 (modesOf F) 0 k 152 (S48 k) (ending T Try.f48 an48 0 K) bd48_0 st N' (outX an48 0 0 N X)) (sh sp48_0 [.val [] (.int .i64) v0_0, .val [] (.int .i64) v0_1, .val [] (.int .i64) v0_2, .val [] (.int .i64) v0_3, .rw 1, .rw 2, .val [(0, 0)] (.slice (.prod (.int .i64) (.prod .bool (.prod (.int .i64) (.prod (.int .i64) (.prod (.slice (.int .u8)) .unit)))))) v0_4, .val [] (.int .i64) v0_5, .val [] (.int .i64) v0_6] [⟨0, .arr [] (.int .u8) v0_7⟩, ⟨0, .arr [] (.int .i64) v0_8⟩]) = f48_0d k (fun y0_4 y0_5 => N (sh jn48_0 [.val [] (.int .i64) v0_0, .val [] (.int .i64) v0_1, .val [] (.int .i64) v0_2, .val [] (.int .i64) v0_3, .rw 1, .rw 2] [⟨0, .arr [] (.int .u8) y0_4⟩, ⟨0, .arr [] (.int .i64) y0_5⟩])) v0_0 v0_1 v0_2 v0_3 v0_4 v0_5 m v0_6 v0_7 v0_8 := by
  induction m with
  | zero => intros; rfl
  | succ m ih =>
    intro v0_6 v0_7 v0_8
    simp only [iter]
    rw [← execS_eq T an48 (modesOf F) 0 k 152 (S48 k) (L48 k K) bd48_0 (cuts_of _ _ _ _ _ _ _ _ bd48_0 (l := []) (by kernel_rfl) trivial)]
    refine (b48_0 k K _ N X v0_0 v0_1 v0_2 v0_3 v0_4 v0_5 v0_6 v0_7 v0_8).trans ?_
    simp only [f48_0d, ih]
theorem l48_0 (ws : List PV) (rs : List RowS) (N : St → Option R) (X : Nat → St → Option R) : L48 k K 0 ws rs N X = inner T an48 (modesOf F) 0 k 152 (S48 k) (ending T Try.f48 an48 0 K) cd48_0 (sh sp48_0 ws rs) N X := by
  show L48_0 k K ws rs N X = _
  unfold L48_0
  rw [f48_0_def]
  exact onShape_eq (a := [.val [] (.int .i64), .val [] (.int .i64), .val [] (.int .i64), .val [] (.int .i64), .rw 1, .rw 2, .val [(0, 0)] (.slice (.prod (.int .i64) (.prod .bool (.prod (.int .i64) (.prod (.int .i64) (.prod (.slice (.int .u8)) .unit)))))), .val [] (.int .i64), .val [] (.int .i64)]) (b := [.arr [] (.int .u8), .arr [] (.int .i64)]) (G := fun ws rs => inner T an48 (modesOf F) 0 k 152 (S48 k) (ending T Try.f48 an48 0 K) cd48_0 (sh sp48_0 ws rs) N X) (fun x y => Eq.trans (by kernel_rfl) (Eq.trans (i48_0 k K N X x.1 x.2.1 x.2.2.1 x.2.2.2.1 x.2.2.2.2.2.2.1 x.2.2.2.2.2.2.2.1 k x.2.2.2.2.2.2.2.2.1 y.1 y.2.1).symm (by kernel_rfl))) ws rs
theorem l48_1000022 (ws : List PV) (rs : List RowS) (N : St → Option R) (X : Nat → St → Option R) : L48 k K 1000022 ws rs N X = inner T an48 (modesOf F) 0 k 152 (S48 k) (ending T Try.f48 an48 0 K) cd48_1000022 (sh sp48_1000022 ws rs) N X := by
  show L48_1000022 k K ws rs N X = _
  unfold L48_1000022
  rw [f48_1000022_def]
  exact onShape_eq (a := [.val [] (.int .i64), .val [] (.int .i64), .val [] (.int .i64), .rw 1, .rw 2, .val [] (.int .i64), .val [] (.int .i64), .val [] .bool]) (b := [.arr [] (.int .u8), .arr [] (.int .i64)]) (G := fun ws rs => inner T an48 (modesOf F) 0 k 152 (S48 k) (ending T Try.f48 an48 0 K) cd48_1000022 (sh sp48_1000022 ws rs) N X) (fun x y => Eq.trans (by kernel_rfl) (innerS_eq T an48 (modesOf F) 0 k 152 (S48 k) (L48 k K) cd48_1000022 (l := []) (by kernel_rfl) trivial _ N X)) ws rs
theorem l48_1000021 (ws : List PV) (rs : List RowS) (N : St → Option R) (X : Nat → St → Option R) : L48 k K 1000021 ws rs N X = inner T an48 (modesOf F) 0 k 152 (S48 k) (ending T Try.f48 an48 0 K) cd48_1000021 (sh sp48_1000021 ws rs) N X := by
  show L48_1000021 k K ws rs N X = _
  unfold L48_1000021
  rw [f48_1000021_def]
  exact onShape_eq (a := [.val [] (.int .i64), .val [] (.int .i64), .val [] (.int .i64), .rw 1, .rw 2, .val [] (.int .i64), .val [] (.int .i64), .val [] .bool]) (b := [.arr [] (.int .u8), .arr [] (.int .i64)]) (G := fun ws rs => inner T an48 (modesOf F) 0 k 152 (S48 k) (ending T Try.f48 an48 0 K) cd48_1000021 (sh sp48_1000021 ws rs) N X) (fun x y => Eq.trans (by kernel_rfl) (innerS_eq T an48 (modesOf F) 0 k 152 (S48 k) (L48 k K) cd48_1000021 (l := [(1000022, sp48_1000022, cd48_1000022)]) (by kernel_rfl) ⟨l48_1000022 k K, trivial⟩ _ N X)) ws rs
theorem l48_1000035 (ws : List PV) (rs : List RowS) (N : St → Option R) (X : Nat → St → Option R) : L48 k K 1000035 ws rs N X = inner T an48 (modesOf F) 0 k 152 (S48 k) (ending T Try.f48 an48 0 K) cd48_1000035 (sh sp48_1000035 ws rs) N X := by
  show L48_1000035 k K ws rs N X = _
  unfold L48_1000035
  rw [f48_1000035_def]
  exact onShape_eq (a := [.val [] (.int .i64), .val [] (.int .i64), .val [] (.int .i64), .rw 1, .rw 2, .val [] (.int .i64), .rw 3, .val [] (.int .i64), .ptr 4 0, .val [] (.int .i64), .val [] (.int .i64), .val [] .bool]) (b := [.arr [] (.int .u8), .arr [] (.int .i64), .arr [] (.prod (.int .i64) (.prod (.int .i64) (.prod (.int .i64) (.prod (.int .i64) (.prod (.slice (.int .u8)) .unit))))), .vars [.val [] (.int .i64), .val [] (.int .i64), .val [] (.int .i64), .val [] (.int .i64), .rw 5], .arr [] (.int .u8)]) (G := fun ws rs => inner T an48 (modesOf F) 0 k 152 (S48 k) (ending T Try.f48 an48 0 K) cd48_1000035 (sh sp48_1000035 ws rs) N X) (fun x y => Eq.trans (by kernel_rfl) (innerS_eq T an48 (modesOf F) 0 k 152 (S48 k) (L48 k K) cd48_1000035 (l := []) (by kernel_rfl) trivial _ N X)) ws rs
theorem b48_4 (rec : St → Option R) (N : St → Option R) (X : Nat → St → Option R) (v4_0 : Int) (v4_1 : Int) (v4_2 : Int) (v4_3 : Int) (v4_4 : Int) (v4_5 : Int) (v4_6 : Int) (v4_7 : List Int) (v4_9 : List (Int × (Int × (Int × (Int × (List Int × Unit)))))) (v4_10 : Int) (v4_11 : Int) (v4_12 : Int) (v4_14 : List Int) (v4_8 : List Int) (v4_13 : Int) :
    execS T an48 (modesOf F) 0 k 152 (S48 k) (L48 k K) (ending T Try.f48 an48 0 K) bd48_4 (sh sp48_4 [.val [] (.int .i64) v4_0, .val [] (.int .i64) v4_1, .val [] (.int .i64) v4_2, .rw 1, .rw 2, .val [] (.int .i64) v4_3, .rw 3, .val [] (.int .i64) v4_4, .ptr 4 0, .val [] (.int .i64) v4_5, .val [] (.int .i64) v4_6] [⟨0, .arr [] (.int .u8) v4_7⟩, ⟨0, .arr [] (.int .i64) v4_8⟩, ⟨0, .arr [] (.prod (.int .i64) (.prod (.int .i64) (.prod (.int .i64) (.prod (.int .i64) (.prod (.slice (.int .u8)) .unit))))) v4_9⟩, ⟨0, .vars [.val [] (.int .i64) v4_10, .val [] (.int .i64) v4_11, .val [] (.int .i64) v4_12, .val [] (.int .i64) v4_13, .rw 5]⟩, ⟨0, .arr [] (.int .u8) v4_14⟩]) (fun st => atHead an48 0 bd48_4 st rec) (outX an48 0 4 N X) =
      f48_4b k (fun v4_8 v4_13 => rec (sh sp48_4 [.val [] (.int .i64) v4_0, .val [] (.int .i64) v4_1, .val [] (.int .i64) v4_2, .rw 1, .rw 2, .val [] (.int .i64) v4_3, .rw 3, .val [] (.int .i64) v4_4, .ptr 4 0, .val [] (.int .i64) v4_5, .val [] (.int .i64) v4_6] [⟨0, .arr [] (.int .u8) v4_7⟩, ⟨0, .arr [] (.int .i64) v4_8⟩, ⟨0, .arr [] (.prod (.int .i64) (.prod (.int .i64) (.prod (.int .i64) (.prod (.int .i64) (.prod (.slice (.int .u8)) .unit))))) v4_9⟩, ⟨0, .vars [.val [] (.int .i64) v4_10, .val [] (.int .i64) v4_11, .val [] (.int .i64) v4_12, .val [] (.int .i64) v4_13, .rw 5]⟩, ⟨0, .arr [] (.int .u8) v4_14⟩])) (fun y4_7 y4_12 => N (sh jn48_4 [.val [] (.int .i64) v4_0, .val [] (.int .i64) v4_1, .val [] (.int .i64) v4_2, .rw 1, .rw 2, .val [] (.int .i64) v4_3, .rw 3, .ptr 4 0, .val [] (.int .i64) v4_5, .val [] (.int .i64) v4_6] [⟨0, .arr [] (.int .u8) v4_7⟩, ⟨0, .arr [] (.int .i64) y4_7⟩, ⟨0, .arr [] (.prod (.int .i64) (.prod (.int .i64) (.prod (.int .i64) (.prod (.int .i64) (.prod (.slice (.int .u8)) .unit))))) v4_9⟩, ⟨0, .vars [.val [] (.int .i64) v4_10, .val [] (.int .i64) v4_11, .val [] (.int .i64) v4_12, .val [] (.int .i64) y4_12, .rw 5]⟩, ⟨0, .arr [] (.int .u8) v4_14⟩])) v4_0 v4_1 v4_2 v4_3 v4_4 v4_5 v4_6 v4_7 v4_9 v4_10 v4_11 v4_12 v4_14 v4_8 v4_13 := by kernel_rfl
theorem i48_4 (N : St → Option R) (X : Nat → St → Option R) (v4_0 : Int) (v4_1 : Int) (v4_2 : Int) (v4_3 : Int) (v4_4 : Int) (v4_5 : Int) (v4_6 : Int) (v4_7 : List Int) (v4_9 : List (Int × (Int × (Int × (Int × (List Int × Unit)))))) (v4_10 : Int) (v4_11 : Int) (v4_12 : Int) (v4_14 : List Int) (m : Nat) : ∀ (v4_8 : List Int) (v4_13 : Int),
    iter (atHead an48 0 bd48_4) m (fun st N' => exec T an48 (modesOf F) 0 k 152 (S48 k) (ending T Try.f48 an48 0 K) bd48_4 st N' (outX an48 0 4 N X)) (sh sp48_4 [.val [] (.int .i64) v4_0, .val [] (.int .i64) v4_1, .val [] (.int .i64) v4_2, .rw 1, .rw 2, .val [] (.int .i64) v4_3, .rw 3, .val [] (.int .i64) v4_4, .ptr 4 0, .val [] (.int .i64) v4_5, .val [] (.int .i64) v4_6] [⟨0, .arr [] (.int .u8) v4_7⟩, ⟨0, .arr [] (.int .i64) v4_8⟩, ⟨0, .arr [] (.prod (.int .i64) (.prod (.int .i64) (.prod (.int .i64) (.prod (.int .i64) (.prod (.slice (.int .u8)) .unit))))) v4_9⟩, ⟨0, .vars [.val [] (.int .i64) v4_10, .val [] (.int .i64) v4_11, .val [] (.int .i64) v4_12, .val [] (.int .i64) v4_13, .rw 5]⟩, ⟨0, .arr [] (.int .u8) v4_14⟩]) = f48_4d k (fun y4_7 y4_12 => N (sh jn48_4 [.val [] (.int .i64) v4_0, .val [] (.int .i64) v4_1, .val [] (.int .i64) v4_2, .rw 1, .rw 2, .val [] (.int .i64) v4_3, .rw 3, .ptr 4 0, .val [] (.int .i64) v4_5, .val [] (.int .i64) v4_6] [⟨0, .arr [] (.int .u8) v4_7⟩, ⟨0, .arr [] (.int .i64) y4_7⟩, ⟨0, .arr [] (.prod (.int .i64) (.prod (.int .i64) (.prod (.int .i64) (.prod (.int .i64) (.prod (.slice (.int .u8)) .unit))))) v4_9⟩, ⟨0, .vars [.val [] (.int .i64) v4_10, .val [] (.int .i64) v4_11, .val [] (.int .i64) v4_12, .val [] (.int .i64) y4_12, .rw 5]⟩, ⟨0, .arr [] (.int .u8) v4_14⟩])) v4_0 v4_1 v4_2 v4_3 v4_4 v4_5 v4_6 v4_7 v4_9 v4_10 v4_11 v4_12 v4_14 m v4_8 v4_13 := by
  induction m with
  | zero => intros; rfl
  | succ m ih =>
    intro v4_8 v4_13
    simp only [iter]
    rw [← execS_eq T an48 (modesOf F) 0 k 152 (S48 k) (L48 k K) bd48_4 (cuts_of _ _ _ _ _ _ _ _ bd48_4 (l := [(1000035, sp48_1000035, cd48_1000035)]) (by kernel_rfl) ⟨l48_1000035 k K, trivial⟩)]
    refine (b48_4 k K _ N X v4_0 v4_1 v4_2 v4_3 v4_4 v4_5 v4_6 v4_7 v4_9 v4_10 v4_11 v4_12 v4_14 v4_8 v4_13).trans ?_
    simp only [f48_4d, ih]
theorem l48_4 (ws : List PV) (rs : List RowS) (N : St → Option R) (X : Nat → St → Option R) : L48 k K 4 ws rs N X = inner T an48 (modesOf F) 0 k 152 (S48 k) (ending T Try.f48 an48 0 K) cd48_4 (sh sp48_4 ws rs) N X := by
  show L48_4 k K ws rs N X = _
  unfold L48_4
  rw [f48_4_def]
  exact onShape_eq (a := [.val [] (.int .i64), .val [] (.int .i64), .val [] (.int .i64), .rw 1, .rw 2, .val [] (.int .i64), .rw 3, .val [] (.int .i64), .ptr 4 0, .val [] (.int .i64), .val [] (.int .i64)]) (b := [.arr [] (.int .u8), .arr [] (.int .i64), .arr [] (.prod (.int .i64) (.prod (.int .i64) (.prod (.int .i64) (.prod (.int .i64) (.prod (.slice (.int .u8)) .unit))))), .vars [.val [] (.int .i64), .val [] (.int .i64), .val [] (.int .i64), .val [] (.int .i64), .rw 5], .arr [] (.int .u8)]) (G := fun ws rs => inner T an48 (modesOf F) 0 k 152 (S48 k) (ending T Try.f48 an48 0 K) cd48_4 (sh sp48_4 ws rs) N X) (fun x y => Eq.trans (by kernel_rfl) (Eq.trans (i48_4 k K N X x.1 x.2.1 x.2.2.1 x.2.2.2.2.2.1 x.2.2.2.2.2.2.2.1 x.2.2.2.2.2.2.2.2.2.1 x.2.2.2.2.2.2.2.2.2.2.1 y.1 y.2.2.1 y.2.2.2.1.1 y.2.2.2.1.2.1 y.2.2.2.1.2.2.1 y.2.2.2.2.1 k y.2.1 y.2.2.2.1.2.2.2.1).symm (by kernel_rfl))) ws rs
theorem b48_2 (rec : St → Option R) (N : St → Option R) (X : Nat → St → Option R) (v2_0 : Int) (v2_1 : Int) (v2_2 : Int) (v2_3 : Int) (v2_4 : Int) (v2_6 : List Int) (v2_5 : Int) (v2_7 : List Int) (v2_8 : List (Int × (Int × (Int × (Int × (List Int × Unit)))))) :
    execS T an48 (modesOf F) 0 k 152 (S48 k) (L48 k K) (ending T Try.f48 an48 0 K) bd48_2 (sh sp48_2 [.val [] (.int .i64) v2_0, .val [] (.int .i64) v2_1, .val [] (.int .i64) v2_2, .rw 1, .rw 2, .val [] (.int .i64) v2_3, .rw 3, .val [] (.int .i64) v2_4, .val [] (.int .i64) v2_5] [⟨0, .arr [] (.int .u8) v2_6⟩, ⟨0, .arr [] (.int .i64) v2_7⟩, ⟨0, .arr [] (.prod (.int .i64) (.prod (.int .i64) (.prod (.int .i64) (.prod (.int .i64) (.prod (.slice (.int .u8)) .unit))))) v2_8⟩]) (fun st => atHead an48 0 bd48_2 st rec) (outX an48 0 2 N X) =
      f48_2b k (fun v2_5 v2_7 v2_8 => rec (sh sp48_2 [.val [] (.int .i64) v2_0, .val [] (.int .i64) v2_1, .val [] (.int .i64) v2_2, .rw 1, .rw 2, .val [] (.int .i64) v2_3, .rw 3, .val [] (.int .i64) v2_4, .val [] (.int .i64) v2_5] [⟨0, .arr [] (.int .u8) v2_6⟩, ⟨0, .arr [] (.int .i64) v2_7⟩, ⟨0, .arr [] (.prod (.int .i64) (.prod (.int .i64) (.prod (.int .i64) (.prod (.int .i64) (.prod (.slice (.int .u8)) .unit))))) v2_8⟩])) (fun y2_0 => N (sh jn48_2 [.rw 1] [⟨0, .arr [] (.prod (.int .i64) (.prod (.int .i64) (.prod (.int .i64) (.prod (.int .i64) (.prod (.slice (.int .u8)) .unit))))) y2_0⟩])) v2_0 v2_1 v2_2 v2_3 v2_4 v2_6 v2_5 v2_7 v2_8 := by kernel_rfl
theorem i48_2 (N : St → Option R) (X : Nat → St → Option R) (v2_0 : Int) (v2_1 : Int) (v2_2 : Int) (v2_3 : Int) (v2_4 : Int) (v2_6 : List Int) (m : Nat) : ∀ (v2_5 : Int) (v2_7 : List Int) (v2_8 : List (Int × (Int × (Int × (Int × (List Int × Unit)))))),
    iter (atHead an48 0 bd48_2) m (fun st N' => exec T an48 (modesOf F) 0 k 152 (S48 k) (ending T Try.f48 an48 0 K) bd48_2 st N' (outX an48 0 2 N X)) (sh sp48_2 [.val [] (.int .i64) v2_0, .val [] (.int .i64) v2_1, .val [] (.int .i64) v2_2, .rw 1, .rw 2, .val [] (.int .i64) v2_3, .rw 3, .val [] (.int .i64) v2_4, .val [] (.int .i64) v2_5] [⟨0, .arr [] (.int .u8) v2_6⟩, ⟨0, .arr [] (.int .i64) v2_7⟩, ⟨0, .arr [] (.prod (.int .i64) (.prod (.int .i64) (.prod (.int .i64) (.prod (.int .i64) (.prod (.slice (.int .u8)) .unit))))) v2_8⟩]) = f48_2d k (fun y2_0 => N (sh jn48_2 [.rw 1] [⟨0, .arr [] (.prod (.int .i64) (.prod (.int .i64) (.prod (.int .i64) (.prod (.int .i64) (.prod (.slice (.int .u8)) .unit))))) y2_0⟩])) v2_0 v2_1 v2_2 v2_3 v2_4 v2_6 m v2_5 v2_7 v2_8 := by
  induction m with
  | zero => intros; rfl
  | succ m ih =>
    intro v2_5 v2_7 v2_8
    simp only [iter]
    rw [← execS_eq T an48 (modesOf F) 0 k 152 (S48 k) (L48 k K) bd48_2 (cuts_of _ _ _ _ _ _ _ _ bd48_2 (l := [(4, sp48_4, cd48_4)]) (by kernel_rfl) ⟨l48_4 k K, trivial⟩)]
    refine (b48_2 k K _ N X v2_0 v2_1 v2_2 v2_3 v2_4 v2_6 v2_5 v2_7 v2_8).trans ?_
    simp only [f48_2d, ih]
theorem l48_2 (ws : List PV) (rs : List RowS) (N : St → Option R) (X : Nat → St → Option R) : L48 k K 2 ws rs N X = inner T an48 (modesOf F) 0 k 152 (S48 k) (ending T Try.f48 an48 0 K) cd48_2 (sh sp48_2 ws rs) N X := by
  show L48_2 k K ws rs N X = _
  unfold L48_2
  rw [f48_2_def]
  exact onShape_eq (a := [.val [] (.int .i64), .val [] (.int .i64), .val [] (.int .i64), .rw 1, .rw 2, .val [] (.int .i64), .rw 3, .val [] (.int .i64), .val [] (.int .i64)]) (b := [.arr [] (.int .u8), .arr [] (.int .i64), .arr [] (.prod (.int .i64) (.prod (.int .i64) (.prod (.int .i64) (.prod (.int .i64) (.prod (.slice (.int .u8)) .unit)))))]) (G := fun ws rs => inner T an48 (modesOf F) 0 k 152 (S48 k) (ending T Try.f48 an48 0 K) cd48_2 (sh sp48_2 ws rs) N X) (fun x y => Eq.trans (by kernel_rfl) (Eq.trans (i48_2 k K N X x.1 x.2.1 x.2.2.1 x.2.2.2.2.2.1 x.2.2.2.2.2.2.2.1 y.1 k x.2.2.2.2.2.2.2.2.1 y.2.1 y.2.2.1).symm (by kernel_rfl))) ws rs
end
theorem e48 (k : Nat) (a0 : Int) (a1 : Int) (a2 : Int) (a3 : Int) (a4 : List ((Int × (Bool × (Int × (Int × (List Int × Unit))))))) (K : List PV → List RowS → Option R) : callC T F k 48 [.val [] (.int .i64) a0, .val [] (.int .i64) a1, .val [] (.int .i64) a2, .val [] (.int .i64) a3, .val [(0, 0)] (.slice (.prod (.int .i64) (.prod .bool (.prod (.int .i64) (.prod (.int .i64) (.prod (.slice (.int .u8)) .unit)))))) a4] [] K = f48 k a0 a1 a2 a3 a4 (fun z0 z1 => K [.rw 1, .val [] (.int .i64) z0] [⟨0, .arr [] (.prod (.int .i64) (.prod (.int .i64) (.prod (.int .i64) (.prod (.int .i64) (.prod (.slice (.int .u8)) .unit))))) z1⟩]) := by
  rw [f48_def]
  cases k with
  | zero => rfl
  | succ k =>
    refine Eq.trans (show _ = exec T an48 (modesOf F) 0 k 152 (callC T F k) (ending T Try.f48 an48 0 K) (bodyOf Try.f48) ⟨argEnv 0 [.val [] (.int .i64) a0, .val [] (.int .i64) a1, .val [] (.int .i64) a2, .val [] (.int .i64) a3, .val [(0, 0)] (.slice (.prod (.int .i64) (.prod .bool (.prod (.int .i64) (.prod (.int .i64) (.prod (.slice (.int .u8)) .unit)))))) a4] (fun _ => none), rowsOf []⟩ (ending T Try.f48 an48 0 K) (fun _ _ => none) from by kernel_rfl) ?_
    rw [← S48_eq k, ← execS_eq T an48 (modesOf F) 0 k 152 (S48 k) (L48 k K) (bodyOf Try.f48) (cuts_of _ _ _ _ _ _ _ _ (bodyOf Try.f48) (l := [(0, sp48_0, cd48_0), (1000021, sp48_1000021, cd48_1000021), (2, sp48_2, cd48_2)]) (by kernel_rfl) ⟨l48_0 k K, l48_1000021 k K, l48_2 k K, trivial⟩)]
    kernel_rfl
noncomputable def s48 (k : Nat) (a : List PV) (r : List RowS) (K : List PV → List RowS → Option R) : Option R :=
  onShape [.val [] (.int .i64), .val [] (.int .i64), .val [] (.int .i64), .val [] (.int .i64), .val [(0, 0)] (.slice (.prod (.int .i64) (.prod .bool (.prod (.int .i64) (.prod (.int .i64) (.prod (.slice (.int .u8)) .unit))))))] [] (fun v => f48 k v.1.1 v.1.2.1 v.1.2.2.1 v.1.2.2.2.1 v.1.2.2.2.2.1 (fun z0 z1 => K [.rw 1, .val [] (.int .i64) z0] [⟨0, .arr [] (.prod (.int .i64) (.prod (.int .i64) (.prod (.int .i64) (.prod (.int .i64) (.prod (.slice (.int .u8)) .unit))))) z1⟩])) (callC T F k 48 a r K) a r
theorem s48_eq (k : Nat) (a : List PV) (r : List RowS) (K : List PV → List RowS → Option R) : s48 k a r K = callC T F k 48 a r K := by
  unfold s48
  exact onShape_eq (a := [.val [] (.int .i64), .val [] (.int .i64), .val [] (.int .i64), .val [] (.int .i64), .val [(0, 0)] (.slice (.prod (.int .i64) (.prod .bool (.prod (.int .i64) (.prod (.int .i64) (.prod (.slice (.int .u8)) .unit))))))]) (b := []) (G := fun a r => callC T F k 48 a r K) (fun x y => Eq.trans (by kernel_rfl) (Eq.trans (e48 k x.1 x.2.1 x.2.2.1 x.2.2.2.1 x.2.2.2.2.1 K).symm (by kernel_rfl))) a r
end
section
variable {R : Type}
noncomputable def S84 (k g : Nat) (a : List PV) (r : List RowS) (K : List PV → List RowS → Option R) : Option R := bif g == 31 then s31 k a r K else callC T F k g a r K
theorem S84_eq (k : Nat) : S84 (R := R) k = callC T F k := by
  funext g a r K
  exact pick_eq (fun e => by subst e; exact s31_eq k a r K) (rfl)
section
variable {R : Type} (k : Nat) (K : List PV → List RowS → Option R)
noncomputable def L84_0 (ws : List PV) (rs : List RowS) (N : St → Option R) (X : Nat → St → Option R) : Option R :=
  onShape [.val [(0, 0)] (.slice (.prod (.int .i64) (.prod .bool (.prod (.int .i64) (.prod (.int .i64) (.prod (.slice (.int .u8)) .unit)))))), .val [] (.int .i64), .val [] (.int .i64)] [] (fun v => f84_0 k (fun z0 => K [.val [] (.int .i64) z0] []) (N (sh jn84_0 [] [])) v.1.1 v.1.2.1 k v.1.2.2.1) (inner T an84 (modesOf F) 0 k 21 (S84 k) (ending T Try.f84 an84 0 K) cd84_0 (sh sp84_0 ws rs) N X) ws rs
noncomputable def L84 (id : Nat) (ws : List PV) (rs : List RowS) (N : St → Option R) (X : Nat → St → Option R) : Option R := bif id == 0 then L84_0 k K ws rs N X else none
theorem b84_0 (rec : St → Option R) (N : St → Option R) (X : Nat → St → Option R) (v0_0 : List ((Int × (Bool × (Int × (Int × (List Int × Unit))))))) (v0_1 : Int) (v0_2 : Int) :
    execS T an84 (modesOf F) 0 k 21 (S84 k) (L84 k K) (ending T Try.f84 an84 0 K) bd84_0 (sh sp84_0 [.val [(0, 0)] (.slice (.prod (.int .i64) (.prod .bool (.prod (.int .i64) (.prod (.int .i64) (.prod (.slice (.int .u8)) .unit)))))) v0_0, .val [] (.int .i64) v0_1, .val [] (.int .i64) v0_2] []) (fun st => atHead an84 0 bd84_0 st rec) (outX an84 0 0 N X) =
      f84_0b k (fun v0_2 => rec (sh sp84_0 [.val [(0, 0)] (.slice (.prod (.int .i64) (.prod .bool (.prod (.int .i64) (.prod (.int .i64) (.prod (.slice (.int .u8)) .unit)))))) v0_0, .val [] (.int .i64) v0_1, .val [] (.int .i64) v0_2] [])) (fun z0 => K [.val [] (.int .i64) z0] []) (N (sh jn84_0 [] [])) v0_0 v0_1 v0_2 := by kernel_rfl
theorem i84_0 (N : St → Option R) (X : Nat → St → Option R) (v0_0 : List ((Int × (Bool × (Int × (Int × (List Int × Unit))))))) (v0_1 : Int) (m : Nat) : ∀ (v0_2 : Int),
    iter (atHead an84 0 bd84_0) m (fun st N' => exec T an84 (modesOf F) 0 k 21 (S84 k) (ending T Try.f84 an84 0 K) bd84_0 st N' (outX an84 0 0 N X)) (sh sp84_0 [.val [(0, 0)] (.slice (.prod (.int .i64) (.prod .bool (.prod (.int .i64) (.prod (.int .i64) (.prod (.slice (.int .u8)) .unit)))))) v0_0, .val [] (.int .i64) v0_1, .val [] (.int .i64) v0_2] []) = f84_0d k (fun z0 => K [.val [] (.int .i64) z0] []) (N (sh jn84_0 [] [])) v0_0 v0_1 m v0_2 := by
  induction m with
  | zero => intros; rfl
  | succ m ih =>
    intro v0_2
    simp only [iter]
    rw [← execS_eq T an84 (modesOf F) 0 k 21 (S84 k) (L84 k K) bd84_0 (cuts_of _ _ _ _ _ _ _ _ bd84_0 (l := []) (by kernel_rfl) trivial)]
    refine (b84_0 k K _ N X v0_0 v0_1 v0_2).trans ?_
    simp only [f84_0d, ih]
theorem l84_0 (ws : List PV) (rs : List RowS) (N : St → Option R) (X : Nat → St → Option R) : L84 k K 0 ws rs N X = inner T an84 (modesOf F) 0 k 21 (S84 k) (ending T Try.f84 an84 0 K) cd84_0 (sh sp84_0 ws rs) N X := by
  show L84_0 k K ws rs N X = _
  unfold L84_0
  rw [f84_0_def]
  exact onShape_eq (a := [.val [(0, 0)] (.slice (.prod (.int .i64) (.prod .bool (.prod (.int .i64) (.prod (.int .i64) (.prod (.slice (.int .u8)) .unit)))))), .val [] (.int .i64), .val [] (.int .i64)]) (b := []) (G := fun ws rs => inner T an84 (modesOf F) 0 k 21 (S84 k) (ending T Try.f84 an84 0 K) cd84_0 (sh sp84_0 ws rs) N X) (fun x y => Eq.trans (by kernel_rfl) (Eq.trans (i84_0 k K N X x.1 x.2.1 k x.2.2.1).symm (by kernel_rfl))) ws rs
end
theorem e84 (k : Nat) (a0 : List ((Int × (Bool × (Int × (Int × (List Int × Unit))))))) (K : List PV → List RowS → Option R) : callC T F k 84 [.val [(0, 0)] (.slice (.prod (.int .i64) (.prod .bool (.prod (.int .i64) (.prod (.int .i64) (.prod (.slice (.int .u8)) .unit)))))) a0] [] K = f84 k a0 (fun z0 => K [.val [] (.int .i64) z0] []) := by
  rw [f84_def]
  cases k with
  | zero => rfl
  | succ k =>
    refine Eq.trans (show _ = exec T an84 (modesOf F) 0 k 21 (callC T F k) (ending T Try.f84 an84 0 K) (bodyOf Try.f84) ⟨argEnv 0 [.val [(0, 0)] (.slice (.prod (.int .i64) (.prod .bool (.prod (.int .i64) (.prod (.int .i64) (.prod (.slice (.int .u8)) .unit)))))) a0] (fun _ => none), rowsOf []⟩ (ending T Try.f84 an84 0 K) (fun _ _ => none) from by kernel_rfl) ?_
    rw [← S84_eq k, ← execS_eq T an84 (modesOf F) 0 k 21 (S84 k) (L84 k K) (bodyOf Try.f84) (cuts_of _ _ _ _ _ _ _ _ (bodyOf Try.f84) (l := [(0, sp84_0, cd84_0)]) (by kernel_rfl) ⟨l84_0 k K, trivial⟩)]
    kernel_rfl
noncomputable def s84 (k : Nat) (a : List PV) (r : List RowS) (K : List PV → List RowS → Option R) : Option R :=
  onShape [.val [(0, 0)] (.slice (.prod (.int .i64) (.prod .bool (.prod (.int .i64) (.prod (.int .i64) (.prod (.slice (.int .u8)) .unit))))))] [] (fun v => f84 k v.1.1 (fun z0 => K [.val [] (.int .i64) z0] [])) (callC T F k 84 a r K) a r
theorem s84_eq (k : Nat) (a : List PV) (r : List RowS) (K : List PV → List RowS → Option R) : s84 k a r K = callC T F k 84 a r K := by
  unfold s84
  exact onShape_eq (a := [.val [(0, 0)] (.slice (.prod (.int .i64) (.prod .bool (.prod (.int .i64) (.prod (.int .i64) (.prod (.slice (.int .u8)) .unit))))))]) (b := []) (G := fun a r => callC T F k 84 a r K) (fun x y => Eq.trans (by kernel_rfl) (Eq.trans (e84 k x.1 K).symm (by kernel_rfl))) a r
end
section
variable {R : Type}
noncomputable def S95 (k g : Nat) (a : List PV) (r : List RowS) (K : List PV → List RowS → Option R) : Option R := callC T F k g a r K
theorem S95_eq (k : Nat) : S95 (R := R) k = callC T F k := by
  funext g a r K
  exact rfl
theorem e95 (k : Nat) (a0 : Int) (K : List PV → List RowS → Option R) : callC T F k 95 [.val [] (.int .i64) a0] [] K = f95 k a0 (fun z0 => K [.rw 1] [⟨0, .arr [] (.int .u8) z0⟩]) := by
  rw [f95_def]
  cases k with
  | zero => rfl
  | succ k =>
    refine Eq.trans (show _ = exec T an95 (modesOf F) 0 k 9 (callC T F k) (ending T Try.f95 an95 0 K) (bodyOf Try.f95) ⟨argEnv 0 [.val [] (.int .i64) a0] (fun _ => none), rowsOf []⟩ (ending T Try.f95 an95 0 K) (fun _ _ => none) from by kernel_rfl) ?_
    rw [← S95_eq k, ← execS_eq T an95 (modesOf F) 0 k 9 (S95 k) (fun _ _ _ _ _ => none) (bodyOf Try.f95) (cuts_of _ _ _ _ _ _ _ _ (bodyOf Try.f95) (l := []) (by kernel_rfl) trivial)]
    kernel_rfl
noncomputable def s95 (k : Nat) (a : List PV) (r : List RowS) (K : List PV → List RowS → Option R) : Option R :=
  onShape [.val [] (.int .i64)] [] (fun v => f95 k v.1.1 (fun z0 => K [.rw 1] [⟨0, .arr [] (.int .u8) z0⟩])) (callC T F k 95 a r K) a r
theorem s95_eq (k : Nat) (a : List PV) (r : List RowS) (K : List PV → List RowS → Option R) : s95 k a r K = callC T F k 95 a r K := by
  unfold s95
  exact onShape_eq (a := [.val [] (.int .i64)]) (b := []) (G := fun a r => callC T F k 95 a r K) (fun x y => Eq.trans (by kernel_rfl) (Eq.trans (e95 k x.1 K).symm (by kernel_rfl))) a r
end
section
variable {R : Type}
noncomputable def S71 (k g : Nat) (a : List PV) (r : List RowS) (K : List PV → List RowS → Option R) : Option R := bif g == 20 then s20 k a r K else bif g == 40 then s40 k a r K else bif g == 95 then s95 k a r K else callC T F k g a r K
theorem S71_eq (k : Nat) : S71 (R := R) k = callC T F k := by
  funext g a r K
  exact pick_eq (fun e => by subst e; exact s20_eq k a r K) (pick_eq (fun e => by subst e; exact s40_eq k a r K) (pick_eq (fun e => by subst e; exact s95_eq k a r K) (rfl)))
section
variable {R : Type} (k : Nat) (K : List PV → List RowS → Option R)
noncomputable def L71_1000003 (ws : List PV) (rs : List RowS) (N : St → Option R) (X : Nat → St → Option R) : Option R :=
  onShape [.ptr 1 0, .val [] (.int .i64), .val [] .bool] [.vars [.val [] (.int .i64), .val [] .bool, .val [] (.int .i64), .val [] (.int .i64), .val [(0, 0)] (.slice (.int .u8))]] (fun v => f71_1000003 k (fun yN_0 => N (sh fi71_3 [.ptr 1 0, .val [] (.int .i64) yN_0] [⟨0, .vars [.val [] (.int .i64) v.2.1.1, .val [] .bool v.2.1.2.1, .val [] (.int .i64) v.2.1.2.2.1, .val [] (.int .i64) v.2.1.2.2.2.1, .val [(0, 0)] (.slice (.int .u8)) v.2.1.2.2.2.2.1]⟩])) v.1.2.1 v.1.2.2.1 v.2.1.1 v.2.1.2.1 v.2.1.2.2.1 v.2.1.2.2.2.1 v.2.1.2.2.2.2.1) (inner T an71 (modesOf F) 0 k 34 (S71 k) (ending T Try.f71 an71 0 K) cd71_1000003 (sh sp71_1000003 ws rs) N X) ws rs
noncomputable def L71 (id : Nat) (ws : List PV) (rs : List RowS) (N : St → Option R) (X : Nat → St → Option R) : Option R := bif id == 1000003 then L71_1000003 k K ws rs N X else none
theorem l71_1000003 (ws : List PV) (rs : List RowS) (N : St → Option R) (X : Nat → St → Option R) : L71 k K 1000003 ws rs N X = inner T an71 (modesOf F) 0 k 34 (S71 k) (ending T Try.f71 an71 0 K) cd71_1000003 (sh sp71_1000003 ws rs) N X := by
  show L71_1000003 k K ws rs N X = _
  unfold L71_1000003
  rw [f71_1000003_def]
  exact onShape_eq (a := [.ptr 1 0, .val [] (.int .i64), .val [] .bool]) (b := [.vars [.val [] (.int .i64), .val [] .bool, .val [] (.int .i64), .val [] (.int .i64), .val [(0, 0)] (.slice (.int .u8))]]) (G := fun ws rs => inner T an71 (modesOf F) 0 k 34 (S71 k) (ending T Try.f71 an71 0 K) cd71_1000003 (sh sp71_1000003 ws rs) N X) (fun x y => Eq.trans (by kernel_rfl) (innerS_eq T an71 (modesOf F) 0 k 34 (S71 k) (L71 k K) cd71_1000003 (l := []) (by kernel_rfl) trivial _ N X)) ws rs
end
theorem e71 (k : Nat) (a0 : Int) (a1 : Bool) (a2 : Int) (a3 : Int) (a4 : List Int) (K : List PV → List RowS → Option R) : callC T F k 71 [.agg [.val [] (.int .i64) a0, .val [] .bool a1, .val [] (.int .i64) a2, .val [] (.int .i64) a3, .val [(0, 0)] (.slice (.int .u8)) a4]] [] K = f71 k a0 a1 a2 a3 a4 (fun z0 => K [.rw 1] [⟨0, .arr [] (.int .u8) z0⟩]) := by
  rw [f71_def]
  cases k with
  | zero => rfl
  | succ k =>
    refine Eq.trans (show _ = exec T an71 (modesOf F) 0 k 34 (callC T F k) (ending T Try.f71 an71 0 K) (bodyOf Try.f71) ⟨argEnv 0 [.agg [.val [] (.int .i64) a0, .val [] .bool a1, .val [] (.int .i64) a2, .val [] (.int .i64) a3, .val [(0, 0)] (.slice (.int .u8)) a4]] (fun _ => none), rowsOf []⟩ (ending T Try.f71 an71 0 K) (fun _ _ => none) from by kernel_rfl) ?_
    rw [← S71_eq k, ← execS_eq T an71 (modesOf F) 0 k 34 (S71 k) (L71 k K) (bodyOf Try.f71) (cuts_of _ _ _ _ _ _ _ _ (bodyOf Try.f71) (l := [(1000003, sp71_1000003, cd71_1000003)]) (by kernel_rfl) ⟨l71_1000003 k K, trivial⟩)]
    kernel_rfl
noncomputable def s71 (k : Nat) (a : List PV) (r : List RowS) (K : List PV → List RowS → Option R) : Option R :=
  onShape [.agg [.val [] (.int .i64), .val [] .bool, .val [] (.int .i64), .val [] (.int .i64), .val [(0, 0)] (.slice (.int .u8))]] [] (fun v => f71 k v.1.1.1 v.1.1.2.1 v.1.1.2.2.1 v.1.1.2.2.2.1 v.1.1.2.2.2.2.1 (fun z0 => K [.rw 1] [⟨0, .arr [] (.int .u8) z0⟩])) (callC T F k 71 a r K) a r
theorem s71_eq (k : Nat) (a : List PV) (r : List RowS) (K : List PV → List RowS → Option R) : s71 k a r K = callC T F k 71 a r K := by
  unfold s71
  exact onShape_eq (a := [.agg [.val [] (.int .i64), .val [] .bool, .val [] (.int .i64), .val [] (.int .i64), .val [(0, 0)] (.slice (.int .u8))]]) (b := []) (G := fun a r => callC T F k 71 a r K) (fun x y => Eq.trans (by kernel_rfl) (Eq.trans (e71 k x.1.1 x.1.2.1 x.1.2.2.1 x.1.2.2.2.1 x.1.2.2.2.2.1 K).symm (by kernel_rfl))) a r
end
section
variable {R : Type}
noncomputable def S49 (k g : Nat) (a : List PV) (r : List RowS) (K : List PV → List RowS → Option R) : Option R := bif g == 41 then s41 k a r K else bif g == 69 then s69 k a r K else bif g == 71 then s71 k a r K else bif g == 76 then s76 k a r K else bif g == 77 then s77 k a r K else bif g == 84 then s84 k a r K else callC T F k g a r K
theorem S49_eq (k : Nat) : S49 (R := R) k = callC T F k := by
  funext g a r K
  exact pick_eq (fun e => by subst e; exact s41_eq k a r K) (pick_eq (fun e => by subst e; exact s69_eq k a r K) (pick_eq (fun e => by subst e; exact s71_eq k a r K) (pick_eq (fun e => by subst e; exact s76_eq k a r K) (pick_eq (fun e => by subst e; exact s77_eq k a r K) (pick_eq (fun e => by subst e; exact s84_eq k a r K) (rfl))))))
section
variable {R : Type} (k : Nat) (K : List PV → List RowS → Option R)
noncomputable def L49_0 (ws : List PV) (rs : List RowS) (N : St → Option R) (X : Nat → St → Option R) : Option R :=
  onShape [.val [] (.int .i64), .val [] (.int .i64), .val [] (.int .i64), .val [] (.int .i64), .rw 1, .rw 2, .val [(0, 0)] (.slice (.prod (.int .i64) (.prod .bool (.prod (.int .i64) (.prod (.int .i64) (.prod (.slice (.int .u8)) .unit)))))), .val [] (.int .i64), .val [] (.int .i64)] [.arr [] (.int .u8), .arr [] (.int .i64)] (fun v => f49_0 k (fun y0_4 y0_5 => N (sh jn49_0 [.val [] (.int .i64) v.1.1, .val [] (.int .i64) v.1.2.1, .val [] (.int .i64) v.1.2.2.1, .val [] (.int .i64) v.1.2.2.2.1, .rw 1, .rw 2] [⟨0, .arr [] (.int .u8) y0_4⟩, ⟨0, .arr [] (.int .i64) y0_5⟩])) v.1.1 v.1.2.1 v.1.2.2.1 v.1.2.2.2.1 v.1.2.2.2.2.2.2.1 v.1.2.2.2.2.2.2.2.1 k v.1.2.2.2.2.2.2.2.2.1 v.2.1 v.2.2.1) (inner T an49 (modesOf F) 0 k 138 (S49 k) (ending T Try.f49 an49 0 K) cd49_0 (sh sp49_0 ws rs) N X) ws rs
noncomputable def L49_1000022 (ws : List PV) (rs : List RowS) (N : St → Option R) (X : Nat → St → Option R) : Option R :=
  onShape [.val [] (.int .i64), .val [] (.int .i64), .val [] (.int .i64), .rw 1, .rw 2, .val [] (.int .i64), .val [] (.int .i64), .val [] .bool] [.arr [] (.int .u8), .arr [] (.int .i64)] (fun v => f49_1000022 k (fun yN_4 => N (sh fi49_22 [.val [] (.int .i64) v.1.1, .val [] (.int .i64) v.1.2.1, .val [] (.int .i64) v.1.2.2.1, .rw 1, .rw 2, .val [] (.int .i64) v.1.2.2.2.2.2.1, .val [] (.int .i64) yN_4] [⟨0, .arr [] (.int .u8) v.2.1⟩, ⟨0, .arr [] (.int .i64) v.2.2.1⟩])) v.1.1 v.1.2.1 v.1.2.2.1 v.1.2.2.2.2.2.1 v.1.2.2.2.2.2.2.1 v.1.2.2.2.2.2.2.2.1 v.2.1 v.2.2.1) (inner T an49 (modesOf F) 0 k 138 (S49 k) (ending T Try.f49 an49 0 K) cd49_1000022 (sh sp49_1000022 ws rs) N X) ws rs
noncomputable def L49_1000021 (ws : List PV) (rs : List RowS) (N : St → Option R) (X : Nat → St → Option R) : Option R :=
  onShape [.val [] (.int .i64), .val [] (.int .i64), .val [] (.int .i64), .rw 1, .rw 2, .val [] (.int .i64), .val [] (.int .i64), .val [] .bool] [.arr [] (.int .u8), .arr [] (.int .i64)] (fun v => f49_1000021 k (fun yN_4 yN_5 => N (sh fi49_21 [.val [] (.int .i64) v.1.1, .val [] (.int .i64) v.1.2.1, .val [] (.int .i64) v.1.2.2.1, .rw 1, .rw 2, .val [] (.int .i64) v.1.2.2.2.2.2.1] [⟨0, .arr [] (.int .u8) yN_4⟩, ⟨0, .arr [] (.int .i64) yN_5⟩])) v.1.1 v.1.2.1 v.1.2.2.1 v.1.2.2.2.2.2.1 v.1.2.2.2.2.2.2.1 v.1.2.2.2.2.2.2.2.1 v.2.1 v.2.2.1) (inner T an49 (modesOf F) 0 k 138 (S49 k) (ending T Try.f49 an49 0 K) cd49_1000021 (sh sp49_1000021 ws rs) N X) ws rs
noncomputable def L49_4 (ws : List PV) (rs : List RowS) (N : St → Option R) (X : Nat → St → Option R) : Option R :=
  onShape [.val [] (.int .i64), .val [] (.int .i64), .val [] (.int .i64), .rw 1, .rw 2, .val [] (.int .i64), .rw 3, .val [] (.int .i64), .ptr 4 0, .rw 2, .val [] (.int .i64), .val [] (.int .i64)] [.arr [] (.int .u8), .arr [] (.int .i64), .arr [] (.prod (.int .i64) (.prod (.int .i64) (.prod (.int .i64) (.prod (.int .i64) (.prod (.slice (.int .u8)) .unit))))), .vars [.val [] (.int .i64), .val [] (.int .i64), .val [] (.int .i64), .val [] (.int .i64), .rw 5], .arr [] (.int .u8)] (fun v => f49_4 k (fun y4_11 => N (sh jn49_4 [.val [] (.int .i64) v.1.1, .val [] (.int .i64) v.1.2.1, .val [] (.int .i64) v.1.2.2.1, .rw 1, .rw 2, .val [] (.int .i64) v.1.2.2.2.2.2.1, .rw 3, .val [] (.int .i64) v.1.2.2.2.2.2.2.2.1, .ptr 4 0] [⟨0, .arr [] (.int .u8) v.2.1⟩, ⟨0, .arr [] (.int .i64) v.2.2.1⟩, ⟨0, .arr [] (.prod (.int .i64) (.prod (.int .i64) (.prod (.int .i64) (.prod (.int .i64) (.prod (.slice (.int .u8)) .unit))))) v.2.2.2.1⟩, ⟨0, .vars [.val [] (.int .i64) v.2.2.2.2.1.1, .val [] (.int .i64) v.2.2.2.2.1.2.1, .val [] (.int .i64) v.2.2.2.2.1.2.2.1, .val [] (.int .i64) y4_11, .rw 5]⟩, ⟨0, .arr [] (.int .u8) v.2.2.2.2.2.1⟩])) v.1.1 v.1.2.1 v.1.2.2.1 v.1.2.2.2.2.2.1 v.1.2.2.2.2.2.2.2.1 v.1.2.2.2.2.2.2.2.2.2.2.1 v.2.1 v.2.2.1 v.2.2.2.1 v.2.2.2.2.1.1 v.2.2.2.2.1.2.1 v.2.2.2.2.1.2.2.1 v.2.2.2.2.1.2.2.2.1 v.2.2.2.2.2.1 k v.1.2.2.2.2.2.2.2.2.2.2.2.1) (inner T an49 (modesOf F) 0 k 138 (S49 k) (ending T Try.f49 an49 0 K) cd49_4 (sh sp49_4 ws rs) N X) ws rs
noncomputable def L49_2 (ws : List PV) (rs : List RowS) (N : St → Option R) (X : Nat → St → Option R) : Option R :=
  onShape [.val [] (.int .i64), .val [] (.int .i64), .val [] (.int .i64), .rw 1, .rw 2, .val [] (.int .i64), .rw 3, .val [] (.int .i64)] [.arr [] (.int .u8), .arr [] (.int .i64), .arr [] (.prod (.int .i64) (.prod (.int .i64) (.prod (.int .i64) (.prod (.int .i64) (.prod (.slice (.int .u8)) .unit)))))] (fun v => f49_2 k (fun y2_0 => N (sh jn49_2 [.rw 1] [⟨0, .arr [] (.prod (.int .i64) (.prod (.int .i64) (.prod (.int .i64) (.prod (.int .i64) (.prod (.slice (.int .u8)) .unit))))) y2_0⟩])) v.1.1 v.1.2.1 v.1.2.2.1 v.1.2.2.2.2.2.1 v.2.1 v.2.2.1 k v.1.2.2.2.2.2.2.2.1 v.2.2.2.1) (inner T an49 (modesOf F) 0 k 138 (S49 k) (ending T Try.f49 an49 0 K) cd49_2 (sh sp49_2 ws rs) N X) ws rs
noncomputable def L49 (id : Nat) (ws : List PV) (rs : List RowS) (N : St → Option R) (X : Nat → St → Option R) : Option R := bif id == 0 then L49_0 k K ws rs N X else bif id == 1000022 then L49_1000022 k K ws rs N X else bif id == 1000021 then L49_1000021 k K ws rs N X else bif id == 4 then L49_4 k K ws rs N X else bif id == 2 then L49_2 k K ws rs N X else none
theorem b49_0 (rec : St → Option R) (N : St → Option R) (X : Nat → St → Option R) (v0_0 : Int) (v0_1 : Int) (v0_2 : Int) (v0_3 : Int) (v0_4 : List ((Int × (Bool × (Int × (Int × (List Int × Unit))))))) (v0_5 : Int) (v0_6 : Int) (v0_7 : List Int) (v0_8 : List Int) :
    execS T an49 (modesOf F) 0 k 138 (S49 k) (L49 k K) (ending T Try.f49 an49 0 K) bd49_0 (sh sp49_0 [.val [] (.int .i64) v0_0, .val [] (.int .i64) v0_1, .val [] (.int .i64) v0_2, .val [] (.int .i64) v0_3, .rw 1, .rw 2, .val [(0, 0)] (.slice (.prod (.int .i64) (.prod .bool (.prod (.int .i64) (.prod (.int .i64) (.prod (.slice (.int .u8)) .unit)))))) v0_4, .val [] (.int .i64) v0_5, .val [] (.int .i64) v0_6] [⟨0, .arr [] (.int .u8) v0_7⟩, ⟨0, .arr [] (.int .i64) v0_8⟩]) (fun st => atHead an49 0 bd49_0 st rec) (outX an49 0 0 N X) =
      f49_0b k (fun v0_6 v0_7 v0_8 => rec (sh sp49_0 [.val [] (.int .i64) v0_0, .val [] (.int .i64) v0_1, .val [] (.int .i64) v0_2, .val [] (.int .i64) v0_3, .rw 1, .rw 2, .val [(0, 0)] (.slice (.prod (.int .i64) (.prod .bool (.prod (.int .i64) (.prod (.int .i64) (.prod (.slice (.int .u8)) .unit)))))) v0_4, .val [] (.int .i64) v0_5, .val [] (.int .i64) v0_6] [⟨0, .arr [] (.int .u8) v0_7⟩, ⟨0, .arr [] (.int .i64) v0_8⟩])) (fun y0_4 y0_5 => N (sh jn49_0 [.val [] (.int .i64) v0_0, .val [] (.int .i64) v0_1, .val [] (.int .i64) v0_2, .val [] (.int .i64) v0_3, .rw 1, .rw 2] [⟨0, .arr [] (.int .u8) y0_4⟩, ⟨0, .arr [] (.int .i64) y0_5⟩])) v0_0 v0_1 v0_2 v0_3 v0_4 v0_5 v0_6 v0_7 v0_8 := by kernel_rfl
theorem i49_0 (N : St → Option R) (X : Nat → St → Option R) (v0_0 : Int) (v0_1 : Int) (v0_2 : Int) (v0_3 : Int) (v0_4 : List ((Int × (Bool × (Int × (Int × (List Int × Unit))))))) (v0_5 : Int) (m : Nat) : ∀ (v0_6 : Int) (v0_7 : List Int) (v0_8 : List Int),
    iter (atHead an49 0 bd49_0) m (fun st N' => exec T an49 (modesOf F) 0 k 138 (S49 k) (ending T Try.f49 an49 0 K) bd49_0 st N' (outX an49 0 0 N X)) (sh sp49_0 [.val [] (.int .i64) v0_0, .val [] (.int .i64) v0_1, .val [] (.int .i64) v0_2, .val [] (.int .i64) v0_3, .rw 1, .rw 2, .val [(0, 0)] (.slice (.prod (.int .i64) (.prod .bool (.prod (.int .i64) (.prod (.int .i64) (.prod (.slice (.int .u8)) .unit)))))) v0_4, .val [] (.int .i64) v0_5, .val [] (.int .i64) v0_6] [⟨0, .arr [] (.int .u8) v0_7⟩, ⟨0, .arr [] (.int .i64) v0_8⟩]) = f49_0d k (fun y0_4 y0_5 => N (sh jn49_0 [.val [] (.int .i64) v0_0, .val [] (.int .i64) v0_1, .val [] (.int .i64) v0_2, .val [] (.int .i64) v0_3, .rw 1, .rw 2] [⟨0, .arr [] (.int .u8) y0_4⟩, ⟨0, .arr [] (.int .i64) y0_5⟩])) v0_0 v0_1 v0_2 v0_3 v0_4 v0_5 m v0_6 v0_7 v0_8 := by
  induction m with
  | zero => intros; rfl
  | succ m ih =>
    intro v0_6 v0_7 v0_8
    simp only [iter]
    rw [← execS_eq T an49 (modesOf F) 0 k 138 (S49 k) (L49 k K) bd49_0 (cuts_of _ _ _ _ _ _ _ _ bd49_0 (l := []) (by kernel_rfl) trivial)]
    refine (b49_0 k K _ N X v0_0 v0_1 v0_2 v0_3 v0_4 v0_5 v0_6 v0_7 v0_8).trans ?_
    simp only [f49_0d, ih]
theorem l49_0 (ws : List PV) (rs : List RowS) (N : St → Option R) (X : Nat → St → Option R) : L49 k K 0 ws rs N X = inner T an49 (modesOf F) 0 k 138 (S49 k) (ending T Try.f49 an49 0 K) cd49_0 (sh sp49_0 ws rs) N X := by
  show L49_0 k K ws rs N X = _
  unfold L49_0
  rw [f49_0_def]
  exact onShape_eq (a := [.val [] (.int .i64), .val [] (.int .i64), .val [] (.int .i64), .val [] (.int .i64), .rw 1, .rw 2, .val [(0, 0)] (.slice (.prod (.int .i64) (.prod .bool (.prod (.int .i64) (.prod (.int .i64) (.prod (.slice (.int .u8)) .unit)))))), .val [] (.int .i64), .val [] (.int .i64)]) (b := [.arr [] (.int .u8), .arr [] (.int .i64)]) (G := fun ws rs => inner T an49 (modesOf F) 0 k 138 (S49 k) (ending T Try.f49 an49 0 K) cd49_0 (sh sp49_0 ws rs) N X) (fun x y => Eq.trans (by kernel_rfl) (Eq.trans (i49_0 k K N X x.1 x.2.1 x.2.2.1 x.2.2.2.1 x.2.2.2.2.2.2.1 x.2.2.2.2.2.2.2.1 k x.2.2.2.2.2.2.2.2.1 y.1 y.2.1).symm (by kernel_rfl))) ws rs
theorem l49_1000022 (ws : List PV) (rs : List RowS) (N : St → Option R) (X : Nat → St → Option R) : L49 k K 1000022 ws rs N X = inner T an49 (modesOf F) 0 k 138 (S49 k) (ending T Try.f49 an49 0 K) cd49_1000022 (sh sp49_1000022 ws rs) N X := by
  show L49_1000022 k K ws rs N X = _
  unfold L49_1000022
  rw [f49_1000022_def]
  exact onShape_eq (a := [.val [] (.int .i64), .val [] (.int .i64), .val [] (.int .i64), .rw 1, .rw 2, .val [] (.int .i64), .val [] (.int .i64), .val [] .bool]) (b := [.arr [] (.int .u8), .arr [] (.int .i64)]) (G := fun ws rs => inner T an49 (modesOf F) 0 k 138 (S49 k) (ending T Try.f49 an49 0 K) cd49_1000022 (sh sp49_1000022 ws rs) N X) (fun x y => Eq.trans (by kernel_rfl) (innerS_eq T an49 (modesOf F) 0 k 138 (S49 k) (L49 k K) cd49_1000022 (l := []) (by kernel_rfl) trivial _ N X)) ws rs
theorem l49_1000021 (ws : List PV) (rs : List RowS) (N : St → Option R) (X : Nat → St → Option R) : L49 k K 1000021 ws rs N X = inner T an49 (modesOf F) 0 k 138 (S49 k) (ending T Try.f49 an49 0 K) cd49_1000021 (sh sp49_1000021 ws rs) N X := by
  show L49_1000021 k K ws rs N X = _
  unfold L49_1000021
  rw [f49_1000021_def]
  exact onShape_eq (a := [.val [] (.int .i64), .val [] (.int .i64), .val [] (.int .i64), .rw 1, .rw 2, .val [] (.int .i64), .val [] (.int .i64), .val [] .bool]) (b := [.arr [] (.int .u8), .arr [] (.int .i64)]) (G := fun ws rs => inner T an49 (modesOf F) 0 k 138 (S49 k) (ending T Try.f49 an49 0 K) cd49_1000021 (sh sp49_1000021 ws rs) N X) (fun x y => Eq.trans (by kernel_rfl) (innerS_eq T an49 (modesOf F) 0 k 138 (S49 k) (L49 k K) cd49_1000021 (l := [(1000022, sp49_1000022, cd49_1000022)]) (by kernel_rfl) ⟨l49_1000022 k K, trivial⟩ _ N X)) ws rs
theorem b49_4 (rec : St → Option R) (N : St → Option R) (X : Nat → St → Option R) (v4_0 : Int) (v4_1 : Int) (v4_2 : Int) (v4_3 : Int) (v4_4 : Int) (v4_5 : Int) (v4_7 : List Int) (v4_8 : List Int) (v4_9 : List (Int × (Int × (Int × (Int × (List Int × Unit)))))) (v4_10 : Int) (v4_11 : Int) (v4_12 : Int) (v4_13 : Int) (v4_14 : List Int) (v4_6 : Int) :
    execS T an49 (modesOf F) 0 k 138 (S49 k) (L49 k K) (ending T Try.f49 an49 0 K) bd49_4 (sh sp49_4 [.val [] (.int .i64) v4_0, .val [] (.int .i64) v4_1, .val [] (.int .i64) v4_2, .rw 1, .rw 2, .val [] (.int .i64) v4_3, .rw 3, .val [] (.int .i64) v4_4, .ptr 4 0, .rw 2, .val [] (.int .i64) v4_5, .val [] (.int .i64) v4_6] [⟨0, .arr [] (.int .u8) v4_7⟩, ⟨0, .arr [] (.int .i64) v4_8⟩, ⟨0, .arr [] (.prod (.int .i64) (.prod (.int .i64) (.prod (.int .i64) (.prod (.int .i64) (.prod (.slice (.int .u8)) .unit))))) v4_9⟩, ⟨0, .vars [.val [] (.int .i64) v4_10, .val [] (.int .i64) v4_11, .val [] (.int .i64) v4_12, .val [] (.int .i64) v4_13, .rw 5]⟩, ⟨0, .arr [] (.int .u8) v4_14⟩]) (fun st => atHead an49 0 bd49_4 st rec) (outX an49 0 4 N X) =
      f49_4b k (fun v4_6 => rec (sh sp49_4 [.val [] (.int .i64) v4_0, .val [] (.int .i64) v4_1, .val [] (.int .i64) v4_2, .rw 1, .rw 2, .val [] (.int .i64) v4_3, .rw 3, .val [] (.int .i64) v4_4, .ptr 4 0, .rw 2, .val [] (.int .i64) v4_5, .val [] (.int .i64) v4_6] [⟨0, .arr [] (.int .u8) v4_7⟩, ⟨0, .arr [] (.int .i64) v4_8⟩, ⟨0, .arr [] (.prod (.int .i64) (.prod (.int .i64) (.prod (.int .i64) (.prod (.int .i64) (.prod (.slice (.int .u8)) .unit))))) v4_9⟩, ⟨0, .vars [.val [] (.int .i64) v4_10, .val [] (.int .i64) v4_11, .val [] (.int .i64) v4_12, .val [] (.int .i64) v4_13, .rw 5]⟩, ⟨0, .arr [] (.int .u8) v4_14⟩])) (fun y4_11 => N (sh jn49_4 [.val [] (.int .i64) v4_0, .val [] (.int .i64) v4_1, .val [] (.int .i64) v4_2, .rw 1, .rw 2, .val [] (.int .i64) v4_3, .rw 3, .val [] (.int .i64) v4_4, .ptr 4 0] [⟨0, .arr [] (.int .u8) v4_7⟩, ⟨0, .arr [] (.int .i64) v4_8⟩, ⟨0, .arr [] (.prod (.int .i64) (.prod (.int .i64) (.prod (.int .i64) (.prod (.int .i64) (.prod (.slice (.int .u8)) .unit))))) v4_9⟩, ⟨0, .vars [.val [] (.int .i64) v4_10, .val [] (.int .i64) v4_11, .val [] (.int .i64) v4_12, .val [] (.int .i64) y4_11, .rw 5]⟩, ⟨0, .arr [] (.int .u8) v4_14⟩])) v4_0 v4_1 v4_2 v4_3 v4_4 v4_5 v4_7 v4_8 v4_9 v4_10 v4_11 v4_12 v4_13 v4_14 v4_6 := by kernel_rfl
theorem i49_4 (N : St → Option R) (X : Nat → St → Option R) (v4_0 : Int) (v4_1 : Int) (v4_2 : Int) (v4_3 : Int) (v4_4 : Int) (v4_5 : Int) (v4_7 : List Int) (v4_8 : List Int) (v4_9 : List (Int × (Int × (Int × (Int × (List Int × Unit)))))) (v4_10 : Int) (v4_11 : Int) (v4_12 : Int) (v4_13 : Int) (v4_14 : List Int) (m : Nat) : ∀ (v4_6 : Int),
    iter (atHead an49 0 bd49_4) m (fun st N' => exec T an49 (modesOf F) 0 k 138 (S49 k) (ending T Try.f49 an49 0 K) bd49_4 st N' (outX an49 0 4 N X)) (sh sp49_4 [.val [] (.int .i64) v4_0, .val [] (.int .i64) v4_1, .val [] (.int .i64) v4_2, .rw 1, .rw 2, .val [] (.int .i64) v4_3, .rw 3, .val [] (.int .i64) v4_4, .ptr 4 0, .rw 2, .val [] (.int .i64) v4_5, .val [] (.int .i64) v4_6] [⟨0, .arr [] (.int .u8) v4_7⟩, ⟨0, .arr [] (.int .i64) v4_8⟩, ⟨0, .arr [] (.prod (.int .i64) (.prod (.int .i64) (.prod (.int .i64) (.prod (.int .i64) (.prod (.slice (.int .u8)) .unit))))) v4_9⟩, ⟨0, .vars [.val [] (.int .i64) v4_10, .val [] (.int .i64) v4_11, .val [] (.int .i64) v4_12, .val [] (.int .i64) v4_13, .rw 5]⟩, ⟨0, .arr [] (.int .u8) v4_14⟩]) = f49_4d k (fun y4_11 => N (sh jn49_4 [.val [] (.int .i64) v4_0, .val [] (.int .i64) v4_1, .val [] (.int .i64) v4_2, .rw 1, .rw 2, .val [] (.int .i64) v4_3, .rw 3, .val [] (.int .i64) v4_4, .ptr 4 0] [⟨0, .arr [] (.int .u8) v4_7⟩, ⟨0, .arr [] (.int .i64) v4_8⟩, ⟨0, .arr [] (.prod (.int .i64) (.prod (.int .i64) (.prod (.int .i64) (.prod (.int .i64) (.prod (.slice (.int .u8)) .unit))))) v4_9⟩, ⟨0, .vars [.val [] (.int .i64) v4_10, .val [] (.int .i64) v4_11, .val [] (.int .i64) v4_12, .val [] (.int .i64) y4_11, .rw 5]⟩, ⟨0, .arr [] (.int .u8) v4_14⟩])) v4_0 v4_1 v4_2 v4_3 v4_4 v4_5 v4_7 v4_8 v4_9 v4_10 v4_11 v4_12 v4_13 v4_14 m v4_6 := by
  induction m with
  | zero => intros; rfl
  | succ m ih =>
    intro v4_6
    simp only [iter]
    rw [← execS_eq T an49 (modesOf F) 0 k 138 (S49 k) (L49 k K) bd49_4 (cuts_of _ _ _ _ _ _ _ _ bd49_4 (l := []) (by kernel_rfl) trivial)]
    refine (b49_4 k K _ N X v4_0 v4_1 v4_2 v4_3 v4_4 v4_5 v4_7 v4_8 v4_9 v4_10 v4_11 v4_12 v4_13 v4_14 v4_6).trans ?_
    simp only [f49_4d, ih]
theorem l49_4 (ws : List PV) (rs : List RowS) (N : St → Option R) (X : Nat → St → Option R) : L49 k K 4 ws rs N X = inner T an49 (modesOf F) 0 k 138 (S49 k) (ending T Try.f49 an49 0 K) cd49_4 (sh sp49_4 ws rs) N X := by
  show L49_4 k K ws rs N X = _
  unfold L49_4
  rw [f49_4_def]
  exact onShape_eq (a := [.val [] (.int .i64), .val [] (.int .i64), .val [] (.int .i64), .rw 1, .rw 2, .val [] (.int .i64), .rw 3, .val [] (.int .i64), .ptr 4 0, .rw 2, .val [] (.int .i64), .val [] (.int .i64)]) (b := [.arr [] (.int .u8), .arr [] (.int .i64), .arr [] (.prod (.int .i64) (.prod (.int .i64) (.prod (.int .i64) (.prod (.int .i64) (.prod (.slice (.int .u8)) .unit))))), .vars [.val [] (.int .i64), .val [] (.int .i64), .val [] (.int .i64), .val [] (.int .i64), .rw 5], .arr [] (.int .u8)]) (G := fun ws rs => inner T an49 (modesOf F) 0 k 138 (S49 k) (ending T Try.f49 an49 0 K) cd49_4 (sh sp49_4 ws rs) N X) (fun x y => Eq.trans (by kernel_rfl) (Eq.trans (i49_4 k K N X x.1 x.2.1 x.2.2.1 x.2.2.2.2.2.1 x.2.2.2.2.2.2.2.1 x.2.2.2.2.2.2.2.2.2.2.1 y.1 y.2.1 y.2.2.1 y.2.2.2.1.1 y.2.2.2.1.2.1 y.2.2.2.1.2.2.1 y.2.2.2.1.2.2.2.1 y.2.2.2.2.1 k x.2.2.2.2.2.2.2.2.2.2.2.1).symm (by kernel_rfl))) ws rs
theorem b49_2 (rec : St → Option R) (N : St → Option R) (X : Nat → St → Option R) (v2_0 : Int) (v2_1 : Int) (v2_2 : Int) (v2_3 : Int) (v2_5 : List Int) (v2_6 : List Int) (v2_4 : Int) (v2_7 : List (Int × (Int × (Int × (Int × (List Int × Unit)))))) :
    execS T an49 (modesOf F) 0 k 138 (S49 k) (L49 k K) (ending T Try.f49 an49 0 K) bd49_2 (sh sp49_2 [.val [] (.int .i64) v2_0, .val [] (.int .i64) v2_1, .val [] (.int .i64) v2_2, .rw 1, .rw 2, .val [] (.int .i64) v2_3, .rw 3, .val [] (.int .i64) v2_4] [⟨0, .arr [] (.int .u8) v2_5⟩, ⟨0, .arr [] (.int .i64) v2_6⟩, ⟨0, .arr [] (.prod (.int .i64) (.prod (.int .i64) (.prod (.int .i64) (.prod (.int .i64) (.prod (.slice (.int .u8)) .unit))))) v2_7⟩]) (fun st => atHead an49 0 bd49_2 st rec) (outX an49 0 2 N X) =
      f49_2b k (fun v2_4 v2_7 => rec (sh sp49_2 [.val [] (.int .i64) v2_0, .val [] (.int .i64) v2_1, .val [] (.int .i64) v2_2, .rw 1, .rw 2, .val [] (.int .i64) v2_3, .rw 3, .val [] (.int .i64) v2_4] [⟨0, .arr [] (.int .u8) v2_5⟩, ⟨0, .arr [] (.int .i64) v2_6⟩, ⟨0, .arr [] (.prod (.int .i64) (.prod (.int .i64) (.prod (.int .i64) (.prod (.int .i64) (.prod (.slice (.int .u8)) .unit))))) v2_7⟩])) (fun y2_0 => N (sh jn49_2 [.rw 1] [⟨0, .arr [] (.prod (.int .i64) (.prod (.int .i64) (.prod (.int .i64) (.prod (.int .i64) (.prod (.slice (.int .u8)) .unit))))) y2_0⟩])) v2_0 v2_1 v2_2 v2_3 v2_5 v2_6 v2_4 v2_7 := by kernel_rfl
theorem i49_2 (N : St → Option R) (X : Nat → St → Option R) (v2_0 : Int) (v2_1 : Int) (v2_2 : Int) (v2_3 : Int) (v2_5 : List Int) (v2_6 : List Int) (m : Nat) : ∀ (v2_4 : Int) (v2_7 : List (Int × (Int × (Int × (Int × (List Int × Unit)))))),
    iter (atHead an49 0 bd49_2) m (fun st N' => exec T an49 (modesOf F) 0 k 138 (S49 k) (ending T Try.f49 an49 0 K) bd49_2 st N' (outX an49 0 2 N X)) (sh sp49_2 [.val [] (.int .i64) v2_0, .val [] (.int .i64) v2_1, .val [] (.int .i64) v2_2, .rw 1, .rw 2, .val [] (.int .i64) v2_3, .rw 3, .val [] (.int .i64) v2_4] [⟨0, .arr [] (.int .u8) v2_5⟩, ⟨0, .arr [] (.int .i64) v2_6⟩, ⟨0, .arr [] (.prod (.int .i64) (.prod (.int .i64) (.prod (.int .i64) (.prod (.int .i64) (.prod (.slice (.int .u8)) .unit))))) v2_7⟩]) = f49_2d k (fun y2_0 => N (sh jn49_2 [.rw 1] [⟨0, .arr [] (.prod (.int .i64) (.prod (.int .i64) (.prod (.int .i64) (.prod (.int .i64) (.prod (.slice (.int .u8)) .unit))))) y2_0⟩])) v2_0 v2_1 v2_2 v2_3 v2_5 v2_6 m v2_4 v2_7 := by
  induction m with
  | zero => intros; rfl
  | succ m ih =>
    intro v2_4 v2_7
    simp only [iter]
    rw [← execS_eq T an49 (modesOf F) 0 k 138 (S49 k) (L49 k K) bd49_2 (cuts_of _ _ _ _ _ _ _ _ bd49_2 (l := [(4, sp49_4, cd49_4)]) (by kernel_rfl) ⟨l49_4 k K, trivial⟩)]
    refine (b49_2 k K _ N X v2_0 v2_1 v2_2 v2_3 v2_5 v2_6 v2_4 v2_7).trans ?_
    simp only [f49_2d, ih]
theorem l49_2 (ws : List PV) (rs : List RowS) (N : St → Option R) (X : Nat → St → Option R) : L49 k K 2 ws rs N X = inner T an49 (modesOf F) 0 k 138 (S49 k) (ending T Try.f49 an49 0 K) cd49_2 (sh sp49_2 ws rs) N X := by
  show L49_2 k K ws rs N X = _
  unfold L49_2
  rw [f49_2_def]
  exact onShape_eq (a := [.val [] (.int .i64), .val [] (.int .i64), .val [] (.int .i64), .rw 1, .rw 2, .val [] (.int .i64), .rw 3, .val [] (.int .i64)]) (b := [.arr [] (.int .u8), .arr [] (.int .i64), .arr [] (.prod (.int .i64) (.prod (.int .i64) (.prod (.int .i64) (.prod (.int .i64) (.prod (.slice (.int .u8)) .unit)))))]) (G := fun ws rs => inner T an49 (modesOf F) 0 k 138 (S49 k) (ending T Try.f49 an49 0 K) cd49_2 (sh sp49_2 ws rs) N X) (fun x y => Eq.trans (by kernel_rfl) (Eq.trans (i49_2 k K N X x.1 x.2.1 x.2.2.1 x.2.2.2.2.2.1 y.1 y.2.1 k x.2.2.2.2.2.2.2.1 y.2.2.1).symm (by kernel_rfl))) ws rs
end
theorem e49 (k : Nat) (a0 : Int) (a1 : Int) (a2 : Int) (a3 : Int) (a4 : List ((Int × (Bool × (Int × (Int × (List Int × Unit))))))) (K : List PV → List RowS → Option R) : callC T F k 49 [.val [] (.int .i64) a0, .val [] (.int .i64) a1, .val [] (.int .i64) a2, .val [] (.int .i64) a3, .val [(0, 0)] (.slice (.prod (.int .i64) (.prod .bool (.prod (.int .i64) (.prod (.int .i64) (.prod (.slice (.int .u8)) .unit)))))) a4] [] K = f49 k a0 a1 a2 a3 a4 (fun z0 z1 => K [.rw 1, .val [] (.int .i64) z0] [⟨0, .arr [] (.prod (.int .i64) (.prod (.int .i64) (.prod (.int .i64) (.prod (.int .i64) (.prod (.slice (.int .u8)) .unit))))) z1⟩]) := by
  rw [f49_def]
  cases k with
  | zero => rfl
  | succ k =>
    refine Eq.trans (show _ = exec T an49 (modesOf F) 0 k 138 (callC T F k) (ending T Try.f49 an49 0 K) (bodyOf Try.f49) ⟨argEnv 0 [.val [] (.int .i64) a0, .val [] (.int .i64) a1, .val [] (.int .i64) a2, .val [] (.int .i64) a3, .val [(0, 0)] (.slice (.prod (.int .i64) (.prod .bool (.prod (.int .i64) (.prod (.int .i64) (.prod (.slice (.int .u8)) .unit)))))) a4] (fun _ => none), rowsOf []⟩ (ending T Try.f49 an49 0 K) (fun _ _ => none) from by kernel_rfl) ?_
    rw [← S49_eq k, ← execS_eq T an49 (modesOf F) 0 k 138 (S49 k) (L49 k K) (bodyOf Try.f49) (cuts_of _ _ _ _ _ _ _ _ (bodyOf Try.f49) (l := [(0, sp49_0, cd49_0), (1000021, sp49_1000021, cd49_1000021), (2, sp49_2, cd49_2)]) (by kernel_rfl) ⟨l49_0 k K, l49_1000021 k K, l49_2 k K, trivial⟩)]
    kernel_rfl
noncomputable def s49 (k : Nat) (a : List PV) (r : List RowS) (K : List PV → List RowS → Option R) : Option R :=
  onShape [.val [] (.int .i64), .val [] (.int .i64), .val [] (.int .i64), .val [] (.int .i64), .val [(0, 0)] (.slice (.prod (.int .i64) (.prod .bool (.prod (.int .i64) (.prod (.int .i64) (.prod (.slice (.int .u8)) .unit))))))] [] (fun v => f49 k v.1.1 v.1.2.1 v.1.2.2.1 v.1.2.2.2.1 v.1.2.2.2.2.1 (fun z0 z1 => K [.rw 1, .val [] (.int .i64) z0] [⟨0, .arr [] (.prod (.int .i64) (.prod (.int .i64) (.prod (.int .i64) (.prod (.int .i64) (.prod (.slice (.int .u8)) .unit))))) z1⟩])) (callC T F k 49 a r K) a r
theorem s49_eq (k : Nat) (a : List PV) (r : List RowS) (K : List PV → List RowS → Option R) : s49 k a r K = callC T F k 49 a r K := by
  unfold s49
  exact onShape_eq (a := [.val [] (.int .i64), .val [] (.int .i64), .val [] (.int .i64), .val [] (.int .i64), .val [(0, 0)] (.slice (.prod (.int .i64) (.prod .bool (.prod (.int .i64) (.prod (.int .i64) (.prod (.slice (.int .u8)) .unit))))))]) (b := []) (G := fun a r => callC T F k 49 a r K) (fun x y => Eq.trans (by kernel_rfl) (Eq.trans (e49 k x.1 x.2.1 x.2.2.1 x.2.2.2.1 x.2.2.2.2.1 K).symm (by kernel_rfl))) a r
end
section
variable {R : Type}
noncomputable def S11 (k g : Nat) (a : List PV) (r : List RowS) (K : List PV → List RowS → Option R) : Option R := bif g == 21 then s21 k a r K else bif g == 45 then s45 k a r K else bif g == 48 then s48 k a r K else bif g == 49 then s49 k a r K else callC T F k g a r K
theorem S11_eq (k : Nat) : S11 (R := R) k = callC T F k := by
  funext g a r K
  exact pick_eq (fun e => by subst e; exact s21_eq k a r K) (pick_eq (fun e => by subst e; exact s45_eq k a r K) (pick_eq (fun e => by subst e; exact s48_eq k a r K) (pick_eq (fun e => by subst e; exact s49_eq k a r K) (rfl))))
theorem e11 (k : Nat) (a0 : Int) (a1 : Int) (a2 : Int) (a3 : Int) (a4 : List ((Int × (Bool × (Int × (Int × (List Int × Unit))))))) (K : List PV → List RowS → Option R) : callC T F k 11 [.val [] (.int .i64) a0, .val [] (.int .i64) a1, .val [] (.int .i64) a2, .val [] (.int .i64) a3, .val [(0, 0)] (.slice (.prod (.int .i64) (.prod .bool (.prod (.int .i64) (.prod (.int .i64) (.prod (.slice (.int .u8)) .unit)))))) a4] [] K = f11 k a0 a1 a2 a3 a4 (fun z0 => K [.val [] .bool z0] []) := by
  rw [f11_def]
  cases k with
  | zero => rfl
  | succ k =>
    refine Eq.trans (show _ = exec T an11 (modesOf F) 0 k 44 (callC T F k) (ending T Try.f11 an11 0 K) (bodyOf Try.f11) ⟨argEnv 0 [.val [] (.int .i64) a0, .val [] (.int .i64) a1, .val [] (.int .i64) a2, .val [] (.int .i64) a3, .val [(0, 0)] (.slice (.prod (.int .i64) (.prod .bool (.prod (.int .i64) (.prod (.int .i64) (.prod (.slice (.int .u8)) .unit)))))) a4] (fun _ => none), rowsOf []⟩ (ending T Try.f11 an11 0 K) (fun _ _ => none) from by kernel_rfl) ?_
    rw [← S11_eq k, ← execS_eq T an11 (modesOf F) 0 k 44 (S11 k) (fun _ _ _ _ _ => none) (bodyOf Try.f11) (cuts_of _ _ _ _ _ _ _ _ (bodyOf Try.f11) (l := []) (by kernel_rfl) trivial)]
    kernel_rfl
noncomputable def s11 (k : Nat) (a : List PV) (r : List RowS) (K : List PV → List RowS → Option R) : Option R :=
  onShape [.val [] (.int .i64), .val [] (.int .i64), .val [] (.int .i64), .val [] (.int .i64), .val [(0, 0)] (.slice (.prod (.int .i64) (.prod .bool (.prod (.int .i64) (.prod (.int .i64) (.prod (.slice (.int .u8)) .unit))))))] [] (fun v => f11 k v.1.1 v.1.2.1 v.1.2.2.1 v.1.2.2.2.1 v.1.2.2.2.2.1 (fun z0 => K [.val [] .bool z0] [])) (callC T F k 11 a r K) a r
theorem s11_eq (k : Nat) (a : List PV) (r : List RowS) (K : List PV → List RowS → Option R) : s11 k a r K = callC T F k 11 a r K := by
  unfold s11
  exact onShape_eq (a := [.val [] (.int .i64), .val [] (.int .i64), .val [] (.int .i64), .val [] (.int .i64), .val [(0, 0)] (.slice (.prod (.int .i64) (.prod .bool (.prod (.int .i64) (.prod (.int .i64) (.prod (.slice (.int .u8)) .unit))))))]) (b := []) (G := fun a r => callC T F k 11 a r K) (fun x y => Eq.trans (by kernel_rfl) (Eq.trans (e11 k x.1 x.2.1 x.2.2.1 x.2.2.2.1 x.2.2.2.2.1 K).symm (by kernel_rfl))) a r
end
section
variable {R : Type}
noncomputable def S22 (k g : Nat) (a : List PV) (r : List RowS) (K : List PV → List RowS → Option R) : Option R := bif g == 41 then s41 k a r K else bif g == 65 then s65 k a r K else bif g == 66 then s66 k a r K else bif g == 67 then s67 k a r K else callC T F k g a r K
theorem S22_eq (k : Nat) : S22 (R := R) k = callC T F k := by
  funext g a r K
  exact pick_eq (fun e => by subst e; exact s41_eq k a r K) (pick_eq (fun e => by subst e; exact s65_eq k a r K) (pick_eq (fun e => by subst e; exact s66_eq k a r K) (pick_eq (fun e => by subst e; exact s67_eq k a r K) (rfl))))
theorem e22 (k : Nat) (a0 : List Int) (K : List PV → List RowS → Option R) : callC T F k 22 [.val [(0, 0)] (.slice (.int .u8)) a0] [] K = f22 k a0 (fun z0 z1 z2 z3 z4 z5 z6 => K [.agg [.val [] (.int .i64) z0, .val [] .bool z1, .val [] (.int .i64) z2, .val [] (.int .i64) z3, .rw 1], .val [] (.int .i64) z4, .val [] (.int .i64) z5] [⟨0, .arr [] (.int .u8) z6⟩]) := by
  rw [f22_def]
  cases k with
  | zero => rfl
  | succ k =>
    refine Eq.trans (show _ = exec T an22 (modesOf F) 0 k 61 (callC T F k) (ending T Try.f22 an22 0 K) (bodyOf Try.f22) ⟨argEnv 0 [.val [(0, 0)] (.slice (.int .u8)) a0] (fun _ => none), rowsOf []⟩ (ending T Try.f22 an22 0 K) (fun _ _ => none) from by kernel_rfl) ?_
    rw [← S22_eq k, ← execS_eq T an22 (modesOf F) 0 k 61 (S22 k) (fun _ _ _ _ _ => none) (bodyOf Try.f22) (cuts_of _ _ _ _ _ _ _ _ (bodyOf Try.f22) (l := []) (by kernel_rfl) trivial)]
    kernel_rfl
noncomputable def s22 (k : Nat) (a : List PV) (r : List RowS) (K : List PV → List RowS → Option R) : Option R :=
  onShape [.val [(0, 0)] (.slice (.int .u8))] [] (fun v => f22 k v.1.1 (fun z0 z1 z2 z3 z4 z5 z6 => K [.agg [.val [] (.int .i64) z0, .val [] .bool z1, .val [] (.int .i64) z2, .val [] (.int .i64) z3, .rw 1], .val [] (.int .i64) z4, .val [] (.int .i64) z5] [⟨0, .arr [] (.int .u8) z6⟩])) (callC T F k 22 a r K) a r
theorem s22_eq (k : Nat) (a : List PV) (r : List RowS) (K : List PV → List RowS → Option R) : s22 k a r K = callC T F k 22 a r K := by
  unfold s22
  exact onShape_eq (a := [.val [(0, 0)] (.slice (.int .u8))]) (b := []) (G := fun a r => callC T F k 22 a r K) (fun x y => Eq.trans (by kernel_rfl) (Eq.trans (e22 k x.1 K).symm (by kernel_rfl))) a r
end
section
variable {R : Type}
noncomputable def S85 (k g : Nat) (a : List PV) (r : List RowS) (K : List PV → List RowS → Option R) : Option R := bif g == 22 then s22 k a r K else callC T F k g a r K
theorem S85_eq (k : Nat) : S85 (R := R) k = callC T F k := by
  funext g a r K
  exact pick_eq (fun e => by subst e; exact s22_eq k a r K) (rfl)
section
variable {R : Type} (k : Nat) (K : List PV → List RowS → Option R)
noncomputable def L85_1000003 (ws : List PV) (rs : List RowS) (N : St → Option R) (X : Nat → St → Option R) : Option R :=
  onShape [.ptr 1 0, .ptr 4 0, .val [(0, 0)] (.slice (.int .u8)), .val [] .bool] [.vars [.rw 2, .val [] .bool, .rw 3, .val [] (.int .i64)], .arr [] (.int .u8), .arr [] (.prod (.int .i64) (.prod .bool (.prod (.int .i64) (.prod (.int .i64) (.prod (.slice (.int .u8)) .unit))))), .vars [.val [] (.int .i64), .val [] (.int .i64), .val [] (.int .i64), .val [] (.int .i64), .val [(0, 0)] (.slice (.int .u8))]] (fun v => f85_1000003 k (fun z0 z1 z2 z3 => K [] [⟨0, .vars [.rw 4, .val [] .bool z0, .rw 5, .val [] (.int .i64) z1]⟩, ⟨0, .gone⟩, ⟨0, .gone⟩, ⟨0, .arr [] (.int .u8) z2⟩, ⟨0, .arr [] (.prod (.int .i64) (.prod .bool (.prod (.int .i64) (.prod (.int .i64) (.prod (.slice (.int .u8)) .unit))))) z3⟩]) (fun yN_0 yN_1 yN_4 => N (sh fi85_3 [.ptr 1 0, .val [(0, 0)] (.slice (.int .u8)) yN_0] [⟨0, .vars [.rw 4, .val [] .bool yN_1, .rw 3, .val [] (.int .i64) v.2.1.2.2.2.1]⟩, ⟨0, .gone⟩, ⟨0, .arr [] (.prod (.int .i64) (.prod .bool (.prod (.int .i64) (.prod (.int .i64) (.prod (.slice (.int .u8)) .unit))))) v.2.2.2.1⟩, ⟨0, .arr [] (.int .u8) yN_4⟩])) v.1.2.2.1 v.1.2.2.2.1 v.2.1.2.1 v.2.1.2.2.2.1 v.2.2.1 v.2.2.2.1 v.2.2.2.2.1.1 v.2.2.2.2.1.2.1 v.2.2.2.2.1.2.2.1 v.2.2.2.2.1.2.2.2.1 v.2.2.2.2.1.2.2.2.2.1) (inner T an85 (modesOf F) 3 k 85 (S85 k) (ending T Try.f85 an85 3 K) cd85_1000003 (sh sp85_1000003 ws rs) N X) ws rs
noncomputable def L85_1000012 (ws : List PV) (rs : List RowS) (N : St → Option R) (X : Nat → St → Option R) : Option R :=
  onShape [.ptr 1 0, .ptr 6 0, .val [] (.int .i64), .val [] .bool] [.vars [.rw 4, .val [] .bool, .rw 5, .val [] (.int .i64)], .gone, .gone, .arr [] (.int .u8), .arr [] (.prod (.int .i64) (.prod .bool (.prod (.int .i64) (.prod (.int .i64) (.prod (.slice (.int .u8)) .unit))))), .vars [.val [] (.int .i64), .val [] .bool, .val [] (.int .i64), .val [] (.int .i64), .rw 7], .arr [] (.int .u8)] (fun v => f85_1000012 k (fun yN_4 => N (sh fi85_12 [.ptr 1 0, .val [] (.int .i64) v.1.2.2.1] [⟨0, .vars [.rw 4, .val [] .bool v.2.1.2.1, .rw 5, .val [] (.int .i64) v.2.1.2.2.2.1]⟩, ⟨0, .gone⟩, ⟨0, .gone⟩, ⟨0, .arr [] (.int .u8) v.2.2.2.2.1⟩, ⟨0, .arr [] (.prod (.int .i64) (.prod .bool (.prod (.int .i64) (.prod (.int .i64) (.prod (.slice (.int .u8)) .unit))))) yN_4⟩])) v.1.2.2.1 v.1.2.2.2.1 v.2.1.2.1 v.2.1.2.2.2.1 v.2.2.2.2.1 v.2.2.2.2.2.1 v.2.2.2.2.2.2.1.1 v.2.2.2.2.2.2.1.2.1 v.2.2.2.2.2.2.1.2.2.1 v.2.2.2.2.2.2.1.2.2.2.1 v.2.2.2.2.2.2.2.1) (inner T an85 (modesOf F) 3 k 85 (S85 k) (ending T Try.f85 an85 3 K) cd85_1000012 (sh sp85_1000012 ws rs) N X) ws rs
noncomputable def L85_0 (ws : List PV) (rs : List RowS) (N : St → Option R) (X : Nat → St → Option R) : Option R :=
  onShape [.ptr 1 0] [.vars [.rw 4, .val [] .bool, .rw 5, .val [] (.int .i64)], .gone, .gone, .arr [] (.int .u8), .arr [] (.prod (.int .i64) (.prod .bool (.prod (.int .i64) (.prod (.int .i64) (.prod (.slice (.int .u8)) .unit)))))] (fun v => f85_0 k (fun z0 z1 z2 z3 => K [] [⟨0, .vars [.rw 4, .val [] .bool z0, .rw 5, .val [] (.int .i64) z1]⟩, ⟨0, .gone⟩, ⟨0, .gone⟩, ⟨0, .arr [] (.int .u8) z2⟩, ⟨0, .arr [] (.prod (.int .i64) (.prod .bool (.prod (.int .i64) (.prod (.int .i64) (.prod (.slice (.int .u8)) .unit))))) z3⟩]) v.2.1.2.1 v.2.1.2.2.2.1 k v.2.2.2.2.1 v.2.2.2.2.2.1) (inner T an85 (modesOf F) 3 k 85 (S85 k) (ending T Try.f85 an85 3 K) cd85_0 (sh sp85_0 ws rs) N X) ws rs
noncomputable def L85 (id : Nat) (ws : List PV) (rs : List RowS) (N : St → Option R) (X : Nat → St → Option R) : Option R := bif id == 1000003 then L85_1000003 k K ws rs N X else bif id == 1000012 then L85_1000012 k K ws rs N X else bif id == 0 then L85_0 k K ws rs N X else none
theorem l85_1000003 (ws : List PV) (rs : List RowS) (N : St → Option R) (X : Nat → St → Option R) : L85 k K 1000003 ws rs N X = inner T an85 (modesOf F) 3 k 85 (S85 k) (ending T Try.f85 an85 3 K) cd85_1000003 (sh sp85_1000003 ws rs) N X := by
  show L85_1000003 k K ws rs N X = _
  unfold L85_1000003
  rw [f85_1000003_def]
  exact onShape_eq (a := [.ptr 1 0, .ptr 4 0, .val [(0, 0)] (.slice (.int .u8)), .val [] .bool]) (b := [.vars [.rw 2, .val [] .bool, .rw 3, .val [] (.int .i64)], .arr [] (.int .u8), .arr [] (.prod (.int .i64) (.prod .bool (.prod (.int .i64) (.prod (.int .i64) (.prod (.slice (.int .u8)) .unit))))), .vars [.val [] (.int .i64), .val [] (.int .i64), .val [] (.int .i64), .val [] (.int .i64), .val [(0, 0)] (.slice (.int .u8))]]) (G := fun ws rs => inner T an85 (modesOf F) 3 k 85 (S85 k) (ending T Try.f85 an85 3 K) cd85_1000003 (sh sp85_1000003 ws rs) N X) (fun x y => Eq.trans (by kernel_rfl) (innerS_eq T an85 (modesOf F) 3 k 85 (S85 k) (L85 k K) cd85_1000003 (l := []) (by kernel_rfl) trivial _ N X)) ws rs
theorem l85_1000012 (ws : List PV) (rs : List RowS) (N : St → Option R) (X : Nat → St → Option R) : L85 k K 1000012 ws rs N X = inner T an85 (modesOf F) 3 k 85 (S85 k) (ending T Try.f85 an85 3 K) cd85_1000012 (sh sp85_1000012 ws rs) N X := by
  show L85_1000012 k K ws rs N X = _
  unfold L85_1000012
  rw [f85_1000012_def]
  exact onShape_eq (a := [.ptr 1 0, .ptr 6 0, .val [] (.int .i64), .val [] .bool]) (b := [.vars [.rw 4, .val [] .bool, .rw 5, .val [] (.int .i64)], .gone, .gone, .arr [] (.int .u8), .arr [] (.prod (.int .i64) (.prod .bool (.prod (.int .i64) (.prod (.int .i64) (.prod (.slice (.int .u8)) .unit))))), .vars [.val [] (.int .i64), .val [] .bool, .val [] (.int .i64), .val [] (.int .i64), .rw 7], .arr [] (.int .u8)]) (G := fun ws rs => inner T an85 (modesOf F) 3 k 85 (S85 k) (ending T Try.f85 an85 3 K) cd85_1000012 (sh sp85_1000012 ws rs) N X) (fun x y => Eq.trans (by kernel_rfl) (innerS_eq T an85 (modesOf F) 3 k 85 (S85 k) (L85 k K) cd85_1000012 (l := []) (by kernel_rfl) trivial _ N X)) ws rs
theorem b85_0 (rec : St → Option R) (N : St → Option R) (X : Nat → St → Option R) (v0_0 : Bool) (v0_1 : Int) (v0_2 : List Int) (v0_3 : List (Int × (Bool × (Int × (Int × (List Int × Unit)))))) :
    execS T an85 (modesOf F) 3 k 85 (S85 k) (L85 k K) (ending T Try.f85 an85 3 K) bd85_0 (sh sp85_0 [.ptr 1 0] [⟨0, .vars [.rw 4, .val [] .bool v0_0, .rw 5, .val [] (.int .i64) v0_1]⟩, ⟨0, .gone⟩, ⟨0, .gone⟩, ⟨0, .arr [] (.int .u8) v0_2⟩, ⟨0, .arr [] (.prod (.int .i64) (.prod .bool (.prod (.int .i64) (.prod (.int .i64) (.prod (.slice (.int .u8)) .unit))))) v0_3⟩]) (fun st => atHead an85 3 bd85_0 st rec) (outX an85 3 0 N X) =
      f85_0b k (fun v0_2 v0_3 => rec (sh sp85_0 [.ptr 1 0] [⟨0, .vars [.rw 4, .val [] .bool v0_0, .rw 5, .val [] (.int .i64) v0_1]⟩, ⟨0, .gone⟩, ⟨0, .gone⟩, ⟨0, .arr [] (.int .u8) v0_2⟩, ⟨0, .arr [] (.prod (.int .i64) (.prod .bool (.prod (.int .i64) (.prod (.int .i64) (.prod (.slice (.int .u8)) .unit))))) v0_3⟩])) (fun z0 z1 z2 z3 => K [] [⟨0, .vars [.rw 4, .val [] .bool z0, .rw 5, .val [] (.int .i64) z1]⟩, ⟨0, .gone⟩, ⟨0, .gone⟩, ⟨0, .arr [] (.int .u8) z2⟩, ⟨0, .arr [] (.prod (.int .i64) (.prod .bool (.prod (.int .i64) (.prod (.int .i64) (.prod (.slice (.int .u8)) .unit))))) z3⟩]) v0_0 v0_1 v0_2 v0_3 := by kernel_rfl
theorem i85_0 (N : St → Option R) (X : Nat → St → Option R) (v0_0 : Bool) (v0_1 : Int) (m : Nat) : ∀ (v0_2 : List Int) (v0_3 : List (Int × (Bool × (Int × (Int × (List Int × Unit)))))),
    iter (atHead an85 3 bd85_0) m (fun st N' => exec T an85 (modesOf F) 3 k 85 (S85 k) (ending T Try.f85 an85 3 K) bd85_0 st N' (outX an85 3 0 N X)) (sh sp85_0 [.ptr 1 0] [⟨0, .vars [.rw 4, .val [] .bool v0_0, .rw 5, .val [] (.int .i64) v0_1]⟩, ⟨0, .gone⟩, ⟨0, .gone⟩, ⟨0, .arr [] (.int .u8) v0_2⟩, ⟨0, .arr [] (.prod (.int .i64) (.prod .bool (.prod (.int .i64) (.prod (.int .i64) (.prod (.slice (.int .u8)) .unit))))) v0_3⟩]) = f85_0d k (fun z0 z1 z2 z3 => K [] [⟨0, .vars [.rw 4, .val [] .bool z0, .rw 5, .val [] (.int .i64) z1]⟩, ⟨0, .gone⟩, ⟨0, .gone⟩, ⟨0, .arr [] (.int .u8) z2⟩, ⟨0, .arr [] (.prod (.int .i64) (.prod .bool (.prod (.int .i64) (.prod (.int .i64) (.prod (.slice (.int .u8)) .unit))))) z3⟩]) v0_0 v0_1 m v0_2 v0_3 := by
  induction m with
  | zero => intros; rfl
  | succ m ih =>
    intro v0_2 v0_3
    simp only [iter]
    rw [← execS_eq T an85 (modesOf F) 3 k 85 (S85 k) (L85 k K) bd85_0 (cuts_of _ _ _ _ _ _ _ _ bd85_0 (l := [(1000012, sp85_1000012, cd85_1000012)]) (by kernel_rfl) ⟨l85_1000012 k K, trivial⟩)]
    refine (b85_0 k K _ N X v0_0 v0_1 v0_2 v0_3).trans ?_
    simp only [f85_0d, ih]
theorem l85_0 (ws : List PV) (rs : List RowS) (N : St → Option R) (X : Nat → St → Option R) : L85 k K 0 ws rs N X = inner T an85 (modesOf F) 3 k 85 (S85 k) (ending T Try.f85 an85 3 K) cd85_0 (sh sp85_0 ws rs) N X := by
  show L85_0 k K ws rs N X = _
  unfold L85_0
  rw [f85_0_def]
  exact onShape_eq (a := [.ptr 1 0]) (b := [.vars [.rw 4, .val [] .bool, .rw 5, .val [] (.int .i64)], .gone, .gone, .arr [] (.int .u8), .arr [] (.prod (.int .i64) (.prod .bool (.prod (.int .i64) (.prod (.int .i64) (.prod (.slice (.int .u8)) .unit)))))]) (G := fun ws rs => inner T an85 (modesOf F) 3 k 85 (S85 k) (ending T Try.f85 an85 3 K) cd85_0 (sh sp85_0 ws rs) N X) (fun x y => Eq.trans (by kernel_rfl) (Eq.trans (i85_0 k K N X y.1.2.1 y.1.2.2.2.1 k y.2.2.2.1 y.2.2.2.2.1).symm (by kernel_rfl))) ws rs
end
theorem e85 (k : Nat) (a0 : Int) (a1 : Int) (a2 : Int) (a3 : Int) (a4 : List Int) (a5 : Bool) (a6 : Int) (a7 : List Int) (a8 : List (Int × (Bool × (Int × (Int × (List Int × Unit)))))) (K : List PV → List RowS → Option R) : callC T F k 85 [.ptr 1 0, .agg [.val [] (.int .i64) a0, .val [] (.int .i64) a1, .val [] (.int .i64) a2, .val [] (.int .i64) a3, .val [(0, 0)] (.slice (.int .u8)) a4]] [⟨0, .vars [.rw 2, .val [] .bool a5, .rw 3, .val [] (.int .i64) a6]⟩, ⟨0, .arr [] (.int .u8) a7⟩, ⟨0, .arr [] (.prod (.int .i64) (.prod .bool (.prod (.int .i64) (.prod (.int .i64) (.prod (.slice (.int .u8)) .unit))))) a8⟩] K = f85 k a0 a1 a2 a3 a4 a5 a6 a7 a8 (fun z0 z1 z2 z3 => K [] [⟨0, .vars [.rw 4, .val [] .bool z0, .rw 5, .val [] (.int .i64) z1]⟩, ⟨0, .gone⟩, ⟨0, .gone⟩, ⟨0, .arr [] (.int .u8) z2⟩, ⟨0, .arr [] (.prod (.int .i64) (.prod .bool (.prod (.int .i64) (.prod (.int .i64) (.prod (.slice (.int .u8)) .unit))))) z3⟩]) := by
  rw [f85_def]
  cases k with
  | zero => rfl
  | succ k =>
    refine Eq.trans (show _ = exec T an85 (modesOf F) 3 k 85 (callC T F k) (ending T Try.f85 an85 3 K) (bodyOf Try.f85) ⟨argEnv 0 [.ptr 1 0, .agg [.val [] (.int .i64) a0, .val [] (.int .i64) a1, .val [] (.int .i64) a2, .val [] (.int .i64) a3, .val [(0, 0)] (.slice (.int .u8)) a4]] (fun _ => none), rowsOf [⟨0, .vars [.rw 2, .val [] .bool a5, .rw 3, .val [] (.int .i64) a6]⟩, ⟨0, .arr [] (.int .u8) a7⟩, ⟨0, .arr [] (.prod (.int .i64) (.prod .bool (.prod (.int .i64) (.prod (.int .i64) (.prod (.slice (.int .u8)) .unit))))) a8⟩]⟩ (ending T Try.f85 an85 3 K) (fun _ _ => none) from by kernel_rfl) ?_
    rw [← S85_eq k, ← execS_eq T an85 (modesOf F) 3 k 85 (S85 k) (L85 k K) (bodyOf Try.f85) (cuts_of _ _ _ _ _ _ _ _ (bodyOf Try.f85) (l := [(1000003, sp85_1000003, cd85_1000003), (0, sp85_0, cd85_0)]) (by kernel_rfl) ⟨l85_1000003 k K, l85_0 k K, trivial⟩)]
    kernel_rfl
noncomputable def s85 (k : Nat) (a : List PV) (r : List RowS) (K : List PV → List RowS → Option R) : Option R :=
  onShape [.ptr 1 0, .agg [.val [] (.int .i64), .val [] (.int .i64), .val [] (.int .i64), .val [] (.int .i64), .val [(0, 0)] (.slice (.int .u8))]] [.vars [.rw 2, .val [] .bool, .rw 3, .val [] (.int .i64)], .arr [] (.int .u8), .arr [] (.prod (.int .i64) (.prod .bool (.prod (.int .i64) (.prod (.int .i64) (.prod (.slice (.int .u8)) .unit)))))] (fun v => f85 k v.1.2.1.1 v.1.2.1.2.1 v.1.2.1.2.2.1 v.1.2.1.2.2.2.1 v.1.2.1.2.2.2.2.1 v.2.1.2.1 v.2.1.2.2.2.1 v.2.2.1 v.2.2.2.1 (fun z0 z1 z2 z3 => K [] [⟨0, .vars [.rw 4, .val [] .bool z0, .rw 5, .val [] (.int .i64) z1]⟩, ⟨0, .gone⟩, ⟨0, .gone⟩, ⟨0, .arr [] (.int .u8) z2⟩, ⟨0, .arr [] (.prod (.int .i64) (.prod .bool (.prod (.int .i64) (.prod (.int .i64) (.prod (.slice (.int .u8)) .unit))))) z3⟩])) (callC T F k 85 a r K) a r
theorem s85_eq (k : Nat) (a : List PV) (r : List RowS) (K : List PV → List RowS → Option R) : s85 k a r K = callC T F k 85 a r K := by
  unfold s85
  exact onShape_eq (a := [.ptr 1 0, .agg [.val [] (.int .i64), .val [] (.int .i64), .val [] (.int .i64), .val [] (.int .i64), .val [(0, 0)] (.slice (.int .u8))]]) (b := [.vars [.rw 2, .val [] .bool, .rw 3, .val [] (.int .i64)], .arr [] (.int .u8), .arr [] (.prod (.int .i64) (.prod .bool (.prod (.int .i64) (.prod (.int .i64) (.prod (.slice (.int .u8)) .unit)))))]) (G := fun a r => callC T F k 85 a r K) (fun x y => Eq.trans (by kernel_rfl) (Eq.trans (e85 k x.2.1.1 x.2.1.2.1 x.2.1.2.2.1 x.2.1.2.2.2.1 x.2.1.2.2.2.2.1 y.1.2.1 y.1.2.2.2.1 y.2.1 y.2.2.1 K).symm (by kernel_rfl))) a r
end
section
variable {R : Type}
noncomputable def S50 (k g : Nat) (a : List PV) (r : List RowS) (K : List PV → List RowS → Option R) : Option R := bif g == 35 then s35 k a r K else bif g == 75 then s75 k a r K else bif g == 85 then s85 k a r K else callC T F k g a r K
theorem S50_eq (k : Nat) : S50 (R := R) k = callC T F k := by
  funext g a r K
  exact pick_eq (fun e => by subst e; exact s35_eq k a r K) (pick_eq (fun e => by subst e; exact s75_eq k a r K) (pick_eq (fun e => by subst e; exact s85_eq k a r K) (rfl)))
section
variable {R : Type} (k : Nat) (K : List PV → List RowS → Option R)
noncomputable def L50_1 (ws : List PV) (rs : List RowS) (N : St → Option R) (X : Nat → St → Option R) : Option R :=
  onShape [.val [(0, 0)] (.slice (.prod (.int .i64) (.prod (.int .i64) (.prod (.int .i64) (.prod (.int .i64) (.prod (.slice (.int .u8)) .unit)))))), .val [] (.int .i64), .val [(0, 0)] (.slice (.prod (.int .i64) (.prod (.int .i64) (.prod (.int .i64) (.prod (.int .i64) (.prod (.slice (.int .u8)) .unit)))))), .val [] (.int .i64), .val [] (.int .i64)] [] (fun v => f50_1 k (fun z0 z1 z2 => K [.rw 1, .val [] (.int .i64) z0, .val [] (.int .i64) z1] [⟨0, .arr [] (.prod (.int .i64) (.prod .bool (.prod (.int .i64) (.prod (.int .i64) (.prod (.slice (.int .u8)) .unit))))) z2⟩]) (N (sh jn50_1 [.val [(0, 0)] (.slice (.prod (.int .i64) (.prod (.int .i64) (.prod (.int .i64) (.prod (.int .i64) (.prod (.slice (.int .u8)) .unit)))))) v.1.1] [])) v.1.1 v.1.2.1 v.1.2.2.1 v.1.2.2.2.1 k v.1.2.2.2.2.1) (inner T an50 (modesOf F) 0 k 100 (S50 k) (ending T Try.f50 an50 0 K) cd50_1 (sh sp50_1 ws rs) N X) ws rs
noncomputable def L50_1000022 (ws : List PV) (rs : List RowS) (N : St → Option R) (X : Nat → St → Option R) : Option R :=
  onShape [.val [(0, 0)] (.slice (.prod (.int .i64) (.prod (.int .i64) (.prod (.int .i64) (.prod (.int .i64) (.prod (.slice (.int .u8)) .unit)))))), .ptr 1 0, .ptr 4 0, .val [(0, 0)] (.slice (.prod (.int .i64) (.prod (.int .i64) (.prod (.int .i64) (.prod (.int .i64) (.prod (.slice (.int .u8)) .unit)))))), .val [] (.int .i64), .val [] (.int .i64), .val [] .bool] [.vars [.rw 2, .val [] .bool, .rw 3, .val [] (.int .i64)], .arr [] (.int .u8), .arr [] (.prod (.int .i64) (.prod .bool (.prod (.int .i64) (.prod (.int .i64) (.prod (.slice (.int .u8)) .unit))))), .vars [.val [] (.int .i64), .val [] (.int .i64), .val [] (.int .i64), .val [] (.int .i64), .val [(0, 0)] (.slice (.int .u8))]] (fun v => f50_1000022 k (fun yN_4 yN_5 => N (sh fi50_22 [.val [(0, 0)] (.slice (.prod (.int .i64) (.prod (.int .i64) (.prod (.int .i64) (.prod (.int .i64) (.prod (.slice (.int .u8)) .unit)))))) v.1.1, .ptr 1 0, .ptr 4 0, .val [(0, 0)] (.slice (.prod (.int .i64) (.prod (.int .i64) (.prod (.int .i64) (.prod (.int .i64) (.prod (.slice (.int .u8)) .unit)))))) v.1.2.2.2.1, .val [] (.int .i64) v.1.2.2.2.2.1, .val [] (.int .i64) v.1.2.2.2.2.2.1] [⟨0, .vars [.rw 2, .val [] .bool yN_4, .rw 3, .val [] (.int .i64) yN_5]⟩, ⟨0, .arr [] (.int .u8) v.2.2.1⟩, ⟨0, .arr [] (.prod (.int .i64) (.prod .bool (.prod (.int .i64) (.prod (.int .i64) (.prod (.slice (.int .u8)) .unit))))) v.2.2.2.1⟩, ⟨0, .vars [.val [] (.int .i64) v.2.2.2.2.1.1, .val [] (.int .i64) v.2.2.2.2.1.2.1, .val [] (.int .i64) v.2.2.2.2.1.2.2.1, .val [] (.int .i64) v.2.2.2.2.1.2.2.2.1, .val [(0, 0)] (.slice (.int .u8)) v.2.2.2.2.1.2.2.2.2.1]⟩])) v.1.1 v.1.2.2.2.1 v.1.2.2.2.2.1 v.1.2.2.2.2.2.1 v.1.2.2.2.2.2.2.1 v.2.1.2.1 v.2.1.2.2.2.1 v.2.2.1 v.2.2.2.1 v.2.2.2.2.1.1 v.2.2.2.2.1.2.1 v.2.2.2.2.1.2.2.1 v.2.2.2.2.1.2.2.2.1 v.2.2.2.2.1.2.2.2.2.1) (inner T an50 (modesOf F) 0 k 100 (S50 k) (ending T Try.f50 an50 0 K) cd50_1000022 (sh sp50_1000022 ws rs) N X) ws rs
noncomputable def L50_1000019 (ws : List PV) (rs : List RowS) (N : St → Option R) (X : Nat → St → Option R) : Option R :=
  onShape [.val [(0, 0)] (.slice (.prod (.int .i64) (.prod (.int .i64) (.prod (.int .i64) (.prod (.int .i64) (.prod (.slice (.int .u8)) .unit)))))), .ptr 1 0, .val [] (.int .i64), .ptr 4 0, .val [(0, 0)] (.slice (.prod (.int .i64) (.prod (.int .i64) (.prod (.int .i64) (.prod (.int .i64) (.prod (.slice (.int .u8)) .unit)))))), .val [] (.int .i64), .val [] (.int .i64), .val [] .bool] [.vars [.rw 2, .val [] .bool, .rw 3, .val [] (.int .i64)], .arr [] (.int .u8), .arr [] (.prod (.int .i64) (.prod .bool (.prod (.int .i64) (.prod (.int .i64) (.prod (.slice (.int .u8)) .unit))))), .vars [.val [] (.int .i64), .val [] (.int .i64), .val [] (.int .i64), .val [] (.int .i64), .val [(0, 0)] (.slice (.int .u8))]] (fun v => f50_1000019 k (X 4 (sh jn50_4 [.val [(0, 0)] (.slice (.prod (.int .i64) (.prod (.int .i64) (.prod (.int .i64) (.prod (.int .i64) (.prod (.slice (.int .u8)) .unit)))))) v.1.1, .ptr 1 0, .val [(0, 0)] (.slice (.prod (.int .i64) (.prod (.int .i64) (.prod (.int .i64) (.prod (.int .i64) (.prod (.slice (.int .u8)) .unit)))))) v.1.2.2.2.2.1, .val [] (.int .i64) v.1.2.2.2.2.2.1, .val [] (.int .i64) v.1.2.2.2.2.2.2.1] [⟨0, .vars [.rw 2, .val [] .bool v.2.1.2.1, .rw 3, .val [] (.int .i64) v.2.1.2.2.2.1]⟩, ⟨0, .arr [] (.int .u8) v.2.2.1⟩, ⟨0, .arr [] (.prod (.int .i64) (.prod .bool (.prod (.int .i64) (.prod (.int .i64) (.prod (.slice (.int .u8)) .unit))))) v.2.2.2.1⟩])) (fun yN_4 yN_5 => N (sh fi50_19 [.val [(0, 0)] (.slice (.prod (.int .i64) (.prod (.int .i64) (.prod (.int .i64) (.prod (.int .i64) (.prod (.slice (.int .u8)) .unit)))))) v.1.1, .ptr 1 0, .ptr 4 0, .val [(0, 0)] (.slice (.prod (.int .i64) (.prod (.int .i64) (.prod (.int .i64) (.prod (.int .i64) (.prod (.slice (.int .u8)) .unit)))))) v.1.2.2.2.2.1, .val [] (.int .i64) v.1.2.2.2.2.2.1, .val [] (.int .i64) v.1.2.2.2.2.2.2.1] [⟨0, .vars [.rw 2, .val [] .bool yN_4, .rw 3, .val [] (.int .i64) yN_5]⟩, ⟨0, .arr [] (.int .u8) v.2.2.1⟩, ⟨0, .arr [] (.prod (.int .i64) (.prod .bool (.prod (.int .i64) (.prod (.int .i64) (.prod (.slice (.int .u8)) .unit))))) v.2.2.2.1⟩, ⟨0, .vars [.val [] (.int .i64) v.2.2.2.2.1.1, .val [] (.int .i64) v.2.2.2.2.1.2.1, .val [] (.int .i64) v.2.2.2.2.1.2.2.1, .val [] (.int .i64) v.2.2.2.2.1.2.2.2.1, .val [(0, 0)] (.slice (.int .u8)) v.2.2.2.2.1.2.2.2.2.1]⟩])) v.1.1 v.1.2.2.1 v.1.2.2.2.2.1 v.1.2.2.2.2.2.1 v.1.2.2.2.2.2.2.1 v.1.2.2.2.2.2.2.2.1 v.2.1.2.1 v.2.1.2.2.2.1 v.2.2.1 v.2.2.2.1 v.2.2.2.2.1.1 v.2.2.2.2.1.2.1 v.2.2.2.2.1.2.2.1 v.2.2.2.2.1.2.2.2.1 v.2.2.2.2.1.2.2.2.2.1) (inner T an50 (modesOf F) 0 k 100 (S50 k) (ending T Try.f50 an50 0 K) cd50_1000019 (sh sp50_1000019 ws rs) N X) ws rs
noncomputable def L50_4 (ws : List PV) (rs : List RowS) (N : St → Option R) (X : Nat → St → Option R) : Option R :=
  onShape [.val [(0, 0)] (.slice (.prod (.int .i64) (.prod (.int .i64) (.prod (.int .i64) (.prod (.int .i64) (.prod (.slice (.int .u8)) .unit)))))), .ptr 1 0, .val [(0, 0)] (.slice (.prod (.int .i64) (.prod (.int .i64) (.prod (.int .i64) (.prod (.int .i64) (.prod (.slice (.int .u8)) .unit)))))), .val [] (.int .i64), .val [] (.int .i64)] [.vars [.rw 2, .val [] .bool, .rw 3, .val [] (.int .i64)], .arr [] (.int .u8), .arr [] (.prod (.int .i64) (.prod .bool (.prod (.int .i64) (.prod (.int .i64) (.prod (.slice (.int .u8)) .unit)))))] (fun v => f50_4 k (fun y4_4 y4_5 y4_6 y4_7 => N (sh jn50_4 [.val [(0, 0)] (.slice (.prod (.int .i64) (.prod (.int .i64) (.prod (.int .i64) (.prod (.int .i64) (.prod (.slice (.int .u8)) .unit)))))) v.1.1, .ptr 1 0, .val [(0, 0)] (.slice (.prod (.int .i64) (.prod (.int .i64) (.prod (.int .i64) (.prod (.int .i64) (.prod (.slice (.int .u8)) .unit)))))) v.1.2.2.1, .val [] (.int .i64) v.1.2.2.2.1, .val [] (.int .i64) v.1.2.2.2.2.1] [⟨0, .vars [.rw 2, .val [] .bool y4_4, .rw 3, .val [] (.int .i64) y4_5]⟩, ⟨0, .arr [] (.int .u8) y4_6⟩, ⟨0, .arr [] (.prod (.int .i64) (.prod .bool (.prod (.int .i64) (.prod (.int .i64) (.prod (.slice (.int .u8)) .unit))))) y4_7⟩])) v.1.1 v.1.2.2.1 v.1.2.2.2.1 v.1.2.2.2.2.1 v.2.1.2.1 v.2.1.2.2.2.1 v.2.2.1 v.2.2.2.1) (inner T an50 (modesOf F) 0 k 100 (S50 k) (ending T Try.f50 an50 0 K) cd50_4 (sh sp50_4 ws rs) N X) ws rs
noncomputable def L50_3 (ws : List PV) (rs : List RowS) (N : St → Option R) (X : Nat → St → Option R) : Option R :=
  onShape [.val [(0, 0)] (.slice (.prod (.int .i64) (.prod (.int .i64) (.prod (.int .i64) (.prod (.int .i64) (.prod (.slice (.int .u8)) .unit)))))), .ptr 1 0, .val [(0, 0)] (.slice (.prod (.int .i64) (.prod (.int .i64) (.prod (.int .i64) (.prod (.int .i64) (.prod (.slice (.int .u8)) .unit)))))), .val [] (.int .i64), .val [] (.int .i64)] [.vars [.rw 2, .val [] .bool, .rw 3, .val [] (.int .i64)], .arr [] (.int .u8), .arr [] (.prod (.int .i64) (.prod .bool (.prod (.int .i64) (.prod (.int .i64) (.prod (.slice (.int .u8)) .unit)))))] (fun v => f50_3 k (fun y3_0 y3_1 y3_2 y3_3 => N (sh jn50_3 [.ptr 1 0] [⟨0, .vars [.rw 2, .val [] .bool y3_0, .rw 3, .val [] (.int .i64) y3_1]⟩, ⟨0, .arr [] (.int .u8) y3_2⟩, ⟨0, .arr [] (.prod (.int .i64) (.prod .bool (.prod (.int .i64) (.prod (.int .i64) (.prod (.slice (.int .u8)) .unit))))) y3_3⟩])) v.1.1 v.1.2.2.1 v.1.2.2.2.1 k v.1.2.2.2.2.1 v.2.1.2.1 v.2.1.2.2.2.1 v.2.2.1 v.2.2.2.1) (inner T an50 (modesOf F) 0 k 100 (S50 k) (ending T Try.f50 an50 0 K) cd50_3 (sh sp50_3 ws rs) N X) ws rs
noncomputable def L50 (id : Nat) (ws : List PV) (rs : List RowS) (N : St → Option R) (X : Nat → St → Option R) : Option R := bif id == 1 then L50_1 k K ws rs N X else bif id == 1000022 then L50_1000022 k K ws rs N X else bif id == 1000019 then L50_1000019 k K ws rs N X else bif id == 4 then L50_4 k K ws rs N X else bif id == 3 then L50_3 k K ws rs N X else none
theorem b50_1 (rec : St → Option R) (N : St → Option R) (X : Nat → St → Option R) (v1_0 : List ((Int × (Int × (Int × (Int × (List Int × Unit))))))) (v1_1 : Int) (v1_2 : List ((Int × (Int × (Int × (Int × (List Int × Unit))))))) (v1_3 : Int) (v1_4 : Int) :
    execS T an50 (modesOf F) 0 k 100 (S50 k) (L50 k K) (ending T Try.f50 an50 0 K) bd50_1 (sh sp50_1 [.val [(0, 0)] (.slice (.prod (.int .i64) (.prod (.int .i64) (.prod (.int .i64) (.prod (.int .i64) (.prod (.slice (.int .u8)) .unit)))))) v1_0, .val [] (.int .i64) v1_1, .val [(0, 0)] (.slice (.prod (.int .i64) (.prod (.int .i64) (.prod (.int .i64) (.prod (.int .i64) (.prod (.slice (.int .u8)) .unit)))))) v1_2, .val [] (.int .i64) v1_3, .val [] (.int .i64) v1_4] []) (fun st => atHead an50 0 bd50_1 st rec) (outX an50 0 1 N X) =
      f50_1b k (fun v1_4 => rec (sh sp50_1 [.val [(0, 0)] (.slice (.prod (.int .i64) (.prod (.int .i64) (.prod (.int .i64) (.prod (.int .i64) (.prod (.slice (.int .u8)) .unit)))))) v1_0, .val [] (.int .i64) v1_1, .val [(0, 0)] (.slice (.prod (.int .i64) (.prod (.int .i64) (.prod (.int .i64) (.prod (.int .i64) (.prod (.slice (.int .u8)) .unit)))))) v1_2, .val [] (.int .i64) v1_3, .val [] (.int .i64) v1_4] [])) (fun z0 z1 z2 => K [.rw 1, .val [] (.int .i64) z0, .val [] (.int .i64) z1] [⟨0, .arr [] (.prod (.int .i64) (.prod .bool (.prod (.int .i64) (.prod (.int .i64) (.prod (.slice (.int .u8)) .unit))))) z2⟩]) (N (sh jn50_1 [.val [(0, 0)] (.slice (.prod (.int .i64) (.prod (.int .i64) (.prod (.int .i64) (.prod (.int .i64) (.prod (.slice (.int .u8)) .unit)))))) v1_0] [])) v1_0 v1_1 v1_2 v1_3 v1_4 := by kernel_rfl
theorem i50_1 (N : St → Option R) (X : Nat → St → Option R) (v1_0 : List ((Int × (Int × (Int × (Int × (List Int × Unit))))))) (v1_1 : Int) (v1_2 : List ((Int × (Int × (Int × (Int × (List Int × Unit))))))) (v1_3 : Int) (m : Nat) : ∀ (v1_4 : Int),
    iter (atHead an50 0 bd50_1) m (fun st N' => exec T an50 (modesOf F) 0 k 100 (S50 k) (ending T Try.f50 an50 0 K) bd50_1 st N' (outX an50 0 1 N X)) (sh sp50_1 [.val [(0, 0)] (.slice (.prod (.int .i64) (.prod (.int .i64) (.prod (.int .i64) (.prod (.int .i64) (.prod (.slice (.int .u8)) .unit)))))) v1_0, .val [] (.int .i64) v1_1, .val [(0, 0)] (.slice (.prod (.int .i64) (.prod (.int .i64) (.prod (.int .i64) (.prod (.int .i64) (.prod (.slice (.int .u8)) .unit)))))) v1_2, .val [] (.int .i64) v1_3, .val [] (.int .i64) v1_4] []) = f50_1d k (fun z0 z1 z2 => K [.rw 1, .val [] (.int .i64) z0, .val [] (.int .i64) z1] [⟨0, .arr [] (.prod (.int .i64) (.prod .bool (.prod (.int .i64) (.prod (.int .i64) (.prod (.slice (.int .u8)) .unit))))) z2⟩]) (N (sh jn50_1 [.val [(0, 0)] (.slice (.prod (.int .i64) (.prod (.int .i64) (.prod (.int .i64) (.prod (.int .i64) (.prod (.slice (.int .u8)) .unit)))))) v1_0] [])) v1_0 v1_1 v1_2 v1_3 m v1_4 := by
  induction m with
  | zero => intros; rfl
  | succ m ih =>
    intro v1_4
    simp only [iter]
    rw [← execS_eq T an50 (modesOf F) 0 k 100 (S50 k) (L50 k K) bd50_1 (cuts_of _ _ _ _ _ _ _ _ bd50_1 (l := []) (by kernel_rfl) trivial)]
    refine (b50_1 k K _ N X v1_0 v1_1 v1_2 v1_3 v1_4).trans ?_
    simp only [f50_1d, ih]
theorem l50_1 (ws : List PV) (rs : List RowS) (N : St → Option R) (X : Nat → St → Option R) : L50 k K 1 ws rs N X = inner T an50 (modesOf F) 0 k 100 (S50 k) (ending T Try.f50 an50 0 K) cd50_1 (sh sp50_1 ws rs) N X := by
  show L50_1 k K ws rs N X = _
  unfold L50_1
  rw [f50_1_def]
  exact onShape_eq (a := [.val [(0, 0)] (.slice (.prod (.int .i64) (.prod (.int .i64) (.prod (.int .i64) (.prod (.int .i64) (.prod (.slice (.int .u8)) .unit)))))), .val [] (.int .i64), .val [(0, 0)] (.slice (.prod (.int .i64) (.prod (.int .i64) (.prod (.int .i64) (.prod (.int .i64) (.prod (.slice (.int .u8)) .unit)))))), .val [] (.int .i64), .val [] (.int .i64)]) (b := []) (G := fun ws rs => inner T an50 (modesOf F) 0 k 100 (S50 k) (ending T Try.f50 an50 0 K) cd50_1 (sh sp50_1 ws rs) N X) (fun x y => Eq.trans (by kernel_rfl) (Eq.trans (i50_1 k K N X x.1 x.2.1 x.2.2.1 x.2.2.2.1 k x.2.2.2.2.1).symm (by kernel_rfl))) ws rs
theorem l50_1000022 (ws : List PV) (rs : List RowS) (N : St → Option R) (X : Nat → St → Option R) : L50 k K 1000022 ws rs N X = inner T an50 (modesOf F) 0 k 100 (S50 k) (ending T Try.f50 an50 0 K) cd50_1000022 (sh sp50_1000022 ws rs) N X := by
  show L50_1000022 k K ws rs N X = _
  unfold L50_1000022
  rw [f50_1000022_def]
  exact onShape_eq (a := [.val [(0, 0)] (.slice (.prod (.int .i64) (.prod (.int .i64) (.prod (.int .i64) (.prod (.int .i64) (.prod (.slice (.int .u8)) .unit)))))), .ptr 1 0, .ptr 4 0, .val [(0, 0)] (.slice (.prod (.int .i64) (.prod (.int .i64) (.prod (.int .i64) (.prod (.int .i64) (.prod (.slice (.int .u8)) .unit)))))), .val [] (.int .i64), .val [] (.int .i64), .val [] .bool]) (b := [.vars [.rw 2, .val [] .bool, .rw 3, .val [] (.int .i64)], .arr [] (.int .u8), .arr [] (.prod (.int .i64) (.prod .bool (.prod (.int .i64) (.prod (.int .i64) (.prod (.slice (.int .u8)) .unit))))), .vars [.val [] (.int .i64), .val [] (.int .i64), .val [] (.int .i64), .val [] (.int .i64), .val [(0, 0)] (.slice (.int .u8))]]) (G := fun ws rs => inner T an50 (modesOf F) 0 k 100 (S50 k) (ending T Try.f50 an50 0 K) cd50_1000022 (sh sp50_1000022 ws rs) N X) (fun x y => Eq.trans (by kernel_rfl) (innerS_eq T an50 (modesOf F) 0 k 100 (S50 k) (L50 k K) cd50_1000022 (l := []) (by kernel_rfl) trivial _ N X)) ws rs
theorem l50_1000019 (ws : List PV) (rs : List RowS) (N : St → Option R) (X : Nat → St → Option R) : L50 k K 1000019 ws rs N X = inner T an50 (modesOf F) 0 k 100 (S50 k) (ending T Try.f50 an50 0 K) cd50_1000019 (sh sp50_1000019 ws rs) N X := by
  show L50_1000019 k K ws rs N X = _
  unfold L50_1000019
  rw [f50_1000019_def]
  exact onShape_eq (a := [.val [(0, 0)] (.slice (.prod (.int .i64) (.prod (.int .i64) (.prod (.int .i64) (.prod (.int .i64) (.prod (.slice (.int .u8)) .unit)))))), .ptr 1 0, .val [] (.int .i64), .ptr 4 0, .val [(0, 0)] (.slice (.prod (.int .i64) (.prod (.int .i64) (.prod (.int .i64) (.prod (.int .i64) (.prod (.slice (.int .u8)) .unit)))))), .val [] (.int .i64), .val [] (.int .i64), .val [] .bool]) (b := [.vars [.rw 2, .val [] .bool, .rw 3, .val [] (.int .i64)], .arr [] (.int .u8), .arr [] (.prod (.int .i64) (.prod .bool (.prod (.int .i64) (.prod (.int .i64) (.prod (.slice (.int .u8)) .unit))))), .vars [.val [] (.int .i64), .val [] (.int .i64), .val [] (.int .i64), .val [] (.int .i64), .val [(0, 0)] (.slice (.int .u8))]]) (G := fun ws rs => inner T an50 (modesOf F) 0 k 100 (S50 k) (ending T Try.f50 an50 0 K) cd50_1000019 (sh sp50_1000019 ws rs) N X) (fun x y => Eq.trans (by kernel_rfl) (innerS_eq T an50 (modesOf F) 0 k 100 (S50 k) (L50 k K) cd50_1000019 (l := [(1000022, sp50_1000022, cd50_1000022)]) (by kernel_rfl) ⟨l50_1000022 k K, trivial⟩ _ N X)) ws rs
theorem l50_4 (ws : List PV) (rs : List RowS) (N : St → Option R) (X : Nat → St → Option R) : L50 k K 4 ws rs N X = inner T an50 (modesOf F) 0 k 100 (S50 k) (ending T Try.f50 an50 0 K) cd50_4 (sh sp50_4 ws rs) N X := by
  show L50_4 k K ws rs N X = _
  unfold L50_4
  rw [f50_4_def]
  exact onShape_eq (a := [.val [(0, 0)] (.slice (.prod (.int .i64) (.prod (.int .i64) (.prod (.int .i64) (.prod (.int .i64) (.prod (.slice (.int .u8)) .unit)))))), .ptr 1 0, .val [(0, 0)] (.slice (.prod (.int .i64) (.prod (.int .i64) (.prod (.int .i64) (.prod (.int .i64) (.prod (.slice (.int .u8)) .unit)))))), .val [] (.int .i64), .val [] (.int .i64)]) (b := [.vars [.rw 2, .val [] .bool, .rw 3, .val [] (.int .i64)], .arr [] (.int .u8), .arr [] (.prod (.int .i64) (.prod .bool (.prod (.int .i64) (.prod (.int .i64) (.prod (.slice (.int .u8)) .unit)))))]) (G := fun ws rs => inner T an50 (modesOf F) 0 k 100 (S50 k) (ending T Try.f50 an50 0 K) cd50_4 (sh sp50_4 ws rs) N X) (fun x y => Eq.trans (by kernel_rfl) (innerS_eq T an50 (modesOf F) 0 k 100 (S50 k) (L50 k K) cd50_4 (l := [(1000019, sp50_1000019, cd50_1000019)]) (by kernel_rfl) ⟨l50_1000019 k K, trivial⟩ _ N X)) ws rs
theorem b50_3 (rec : St → Option R) (N : St → Option R) (X : Nat → St → Option R) (v3_0 : List ((Int × (Int × (Int × (Int × (List Int × Unit))))))) (v3_1 : List ((Int × (Int × (Int × (Int × (List Int × Unit))))))) (v3_2 : Int) (v3_3 : Int) (v3_4 : Bool) (v3_5 : Int) (v3_6 : List Int) (v3_7 : List (Int × (Bool × (Int × (Int × (List Int × Unit)))))) :
    execS T an50 (modesOf F) 0 k 100 (S50 k) (L50 k K) (ending T Try.f50 an50 0 K) bd50_3 (sh sp50_3 [.val [(0, 0)] (.slice (.prod (.int .i64) (.prod (.int .i64) (.prod (.int .i64) (.prod (.int .i64) (.prod (.slice (.int .u8)) .unit)))))) v3_0, .ptr 1 0, .val [(0, 0)] (.slice (.prod (.int .i64) (.prod (.int .i64) (.prod (.int .i64) (.prod (.int .i64) (.prod (.slice (.int .u8)) .unit)))))) v3_1, .val [] (.int .i64) v3_2, .val [] (.int .i64) v3_3] [⟨0, .vars [.rw 2, .val [] .bool v3_4, .rw 3, .val [] (.int .i64) v3_5]⟩, ⟨0, .arr [] (.int .u8) v3_6⟩, ⟨0, .arr [] (.prod (.int .i64) (.prod .bool (.prod (.int .i64) (.prod (.int .i64) (.prod (.slice (.int .u8)) .unit))))) v3_7⟩]) (fun st => atHead an50 0 bd50_3 st rec) (outX an50 0 3 N X) =
      f50_3b k (fun v3_3 v3_4 v3_5 v3_6 v3_7 => rec (sh sp50_3 [.val [(0, 0)] (.slice (.prod (.int .i64) (.prod (.int .i64) (.prod (.int .i64) (.prod (.int .i64) (.prod (.slice (.int .u8)) .unit)))))) v3_0, .ptr 1 0, .val [(0, 0)] (.slice (.prod (.int .i64) (.prod (.int .i64) (.prod (.int .i64) (.prod (.int .i64) (.prod (.slice (.int .u8)) .unit)))))) v3_1, .val [] (.int .i64) v3_2, .val [] (.int .i64) v3_3] [⟨0, .vars [.rw 2, .val [] .bool v3_4, .rw 3, .val [] (.int .i64) v3_5]⟩, ⟨0, .arr [] (.int .u8) v3_6⟩, ⟨0, .arr [] (.prod (.int .i64) (.prod .bool (.prod (.int .i64) (.prod (.int .i64) (.prod (.slice (.int .u8)) .unit))))) v3_7⟩])) (fun y3_0 y3_1 y3_2 y3_3 => N (sh jn50_3 [.ptr 1 0] [⟨0, .vars [.rw 2, .val [] .bool y3_0, .rw 3, .val [] (.int .i64) y3_1]⟩, ⟨0, .arr [] (.int .u8) y3_2⟩, ⟨0, .arr [] (.prod (.int .i64) (.prod .bool (.prod (.int .i64) (.prod (.int .i64) (.prod (.slice (.int .u8)) .unit))))) y3_3⟩])) v3_0 v3_1 v3_2 v3_3 v3_4 v3_5 v3_6 v3_7 := by kernel_rfl
theorem i50_3 (N : St → Option R) (X : Nat → St → Option R) (v3_0 : List ((Int × (Int × (Int × (Int × (List Int × Unit))))))) (v3_1 : List ((Int × (Int × (Int × (Int × (List Int × Unit))))))) (v3_2 : Int) (m : Nat) : ∀ (v3_3 : Int) (v3_4 : Bool) (v3_5 : Int) (v3_6 : List Int) (v3_7 : List (Int × (Bool × (Int × (Int × (List Int × Unit)))))),
    iter (atHead an50 0 bd50_3) m (fun st N' => exec T an50 (modesOf F) 0 k 100 (S50 k) (ending T Try.f50 an50 0 K) bd50_3 st N' (outX an50 0 3 N X)) (sh sp50_3 [.val [(0, 0)] (.slice (.prod (.int .i64) (.prod (.int .i64) (.prod (.int .i64) (.prod (.int .i64) (.prod (.slice (.int .u8)) .unit)))))) v3_0, .ptr 1 0, .val [(0, 0)] (.slice (.prod (.int .i64) (.prod (.int .i64) (.prod (.int .i64) (.prod (.int .i64) (.prod (.slice (.int .u8)) .unit)))))) v3_1, .val [] (.int .i64) v3_2, .val [] (.int .i64) v3_3] [⟨0, .vars [.rw 2, .val [] .bool v3_4, .rw 3, .val [] (.int .i64) v3_5]⟩, ⟨0, .arr [] (.int .u8) v3_6⟩, ⟨0, .arr [] (.prod (.int .i64) (.prod .bool (.prod (.int .i64) (.prod (.int .i64) (.prod (.slice (.int .u8)) .unit))))) v3_7⟩]) = f50_3d k (fun y3_0 y3_1 y3_2 y3_3 => N (sh jn50_3 [.ptr 1 0] [⟨0, .vars [.rw 2, .val [] .bool y3_0, .rw 3, .val [] (.int .i64) y3_1]⟩, ⟨0, .arr [] (.int .u8) y3_2⟩, ⟨0, .arr [] (.prod (.int .i64) (.prod .bool (.prod (.int .i64) (.prod (.int .i64) (.prod (.slice (.int .u8)) .unit))))) y3_3⟩])) v3_0 v3_1 v3_2 m v3_3 v3_4 v3_5 v3_6 v3_7 := by
  induction m with
  | zero => intros; rfl
  | succ m ih =>
    intro v3_3 v3_4 v3_5 v3_6 v3_7
    simp only [iter]
    rw [← execS_eq T an50 (modesOf F) 0 k 100 (S50 k) (L50 k K) bd50_3 (cuts_of _ _ _ _ _ _ _ _ bd50_3 (l := [(4, sp50_4, cd50_4)]) (by kernel_rfl) ⟨l50_4 k K, trivial⟩)]
    refine (b50_3 k K _ N X v3_0 v3_1 v3_2 v3_3 v3_4 v3_5 v3_6 v3_7).trans ?_
    simp only [f50_3d, ih]
theorem l50_3 (ws : List PV) (rs : List RowS) (N : St → Option R) (X : Nat → St → Option R) : L50 k K 3 ws rs N X = inner T an50 (modesOf F) 0 k 100 (S50 k) (ending T Try.f50 an50 0 K) cd50_3 (sh sp50_3 ws rs) N X := by
  show L50_3 k K ws rs N X = _
  unfold L50_3
  rw [f50_3_def]
  exact onShape_eq (a := [.val [(0, 0)] (.slice (.prod (.int .i64) (.prod (.int .i64) (.prod (.int .i64) (.prod (.int .i64) (.prod (.slice (.int .u8)) .unit)))))), .ptr 1 0, .val [(0, 0)] (.slice (.prod (.int .i64) (.prod (.int .i64) (.prod (.int .i64) (.prod (.int .i64) (.prod (.slice (.int .u8)) .unit)))))), .val [] (.int .i64), .val [] (.int .i64)]) (b := [.vars [.rw 2, .val [] .bool, .rw 3, .val [] (.int .i64)], .arr [] (.int .u8), .arr [] (.prod (.int .i64) (.prod .bool (.prod (.int .i64) (.prod (.int .i64) (.prod (.slice (.int .u8)) .unit)))))]) (G := fun ws rs => inner T an50 (modesOf F) 0 k 100 (S50 k) (ending T Try.f50 an50 0 K) cd50_3 (sh sp50_3 ws rs) N X) (fun x y => Eq.trans (by kernel_rfl) (Eq.trans (i50_3 k K N X x.1 x.2.2.1 x.2.2.2.1 k x.2.2.2.2.1 y.1.2.1 y.1.2.2.2.1 y.2.1 y.2.2.1).symm (by kernel_rfl))) ws rs
end
theorem e50 (k : Nat) (a0 : List ((Int × (Int × (Int × (Int × (List Int × Unit))))))) (a1 : Int) (K : List PV → List RowS → Option R) : callC T F k 50 [.val [(0, 0)] (.slice (.prod (.int .i64) (.prod (.int .i64) (.prod (.int .i64) (.prod (.int .i64) (.prod (.slice (.int .u8)) .unit)))))) a0, .val [] (.int .i64) a1] [] K = f50 k a0 a1 (fun z0 z1 z2 => K [.rw 1, .val [] (.int .i64) z0, .val [] (.int .i64) z1] [⟨0, .arr [] (.prod (.int .i64) (.prod .bool (.prod (.int .i64) (.prod (.int .i64) (.prod (.slice (.int .u8)) .unit))))) z2⟩]) := by
  rw [f50_def]
  cases k with
  | zero => rfl
  | succ k =>
    refine Eq.trans (show _ = exec T an50 (modesOf F) 0 k 100 (callC T F k) (ending T Try.f50 an50 0 K) (bodyOf Try.f50) ⟨argEnv 0 [.val [(0, 0)] (.slice (.prod (.int .i64) (.prod (.int .i64) (.prod (.int .i64) (.prod (.int .i64) (.prod (.slice (.int .u8)) .unit)))))) a0, .val [] (.int .i64) a1] (fun _ => none), rowsOf []⟩ (ending T Try.f50 an50 0 K) (fun _ _ => none) from by kernel_rfl) ?_
    rw [← S50_eq k, ← execS_eq T an50 (modesOf F) 0 k 100 (S50 k) (L50 k K) (bodyOf Try.f50) (cuts_of _ _ _ _ _ _ _ _ (bodyOf Try.f50) (l := [(1, sp50_1, cd50_1), (3, sp50_3, cd50_3)]) (by kernel_rfl) ⟨l50_1 k K, l50_3 k K, trivial⟩)]
    kernel_rfl
noncomputable def s50 (k : Nat) (a : List PV) (r : List RowS) (K : List PV → List RowS → Option R) : Option R :=
  onShape [.val [(0, 0)] (.slice (.prod (.int .i64) (.prod (.int .i64) (.prod (.int .i64) (.prod (.int .i64) (.prod (.slice (.int .u8)) .unit)))))), .val [] (.int .i64)] [] (fun v => f50 k v.1.1 v.1.2.1 (fun z0 z1 z2 => K [.rw 1, .val [] (.int .i64) z0, .val [] (.int .i64) z1] [⟨0, .arr [] (.prod (.int .i64) (.prod .bool (.prod (.int .i64) (.prod (.int .i64) (.prod (.slice (.int .u8)) .unit))))) z2⟩])) (callC T F k 50 a r K) a r
theorem s50_eq (k : Nat) (a : List PV) (r : List RowS) (K : List PV → List RowS → Option R) : s50 k a r K = callC T F k 50 a r K := by
  unfold s50
  exact onShape_eq (a := [.val [(0, 0)] (.slice (.prod (.int .i64) (.prod (.int .i64) (.prod (.int .i64) (.prod (.int .i64) (.prod (.slice (.int .u8)) .unit)))))), .val [] (.int .i64)]) (b := []) (G := fun a r => callC T F k 50 a r K) (fun x y => Eq.trans (by kernel_rfl) (Eq.trans (e50 k x.1 x.2.1 K).symm (by kernel_rfl))) a r
end
section
variable {R : Type}
noncomputable def S23 (k g : Nat) (a : List PV) (r : List RowS) (K : List PV → List RowS → Option R) : Option R := bif g == 20 then s20 k a r K else bif g == 41 then s41 k a r K else bif g == 68 then s68 k a r K else bif g == 69 then s69 k a r K else callC T F k g a r K
theorem S23_eq (k : Nat) : S23 (R := R) k = callC T F k := by
  funext g a r K
  exact pick_eq (fun e => by subst e; exact s20_eq k a r K) (pick_eq (fun e => by subst e; exact s41_eq k a r K) (pick_eq (fun e => by subst e; exact s68_eq k a r K) (pick_eq (fun e => by subst e; exact s69_eq k a r K) (rfl))))
theorem e23 (k : Nat) (a0 : List Int) (K : List PV → List RowS → Option R) : callC T F k 23 [.val [(0, 0)] (.slice (.int .u8)) a0] [] K = f23 k a0 (fun z0 z1 z2 z3 z4 z5 z6 => K [.agg [.val [] (.int .i64) z0, .val [] .bool z1, .val [] (.int .i64) z2, .val [] (.int .i64) z3, .rw 1], .val [] (.int .i64) z4, .val [] (.int .i64) z5] [⟨0, .arr [] (.int .u8) z6⟩]) := by
  rw [f23_def]
  cases k with
  | zero => rfl
  | succ k =>
    refine Eq.trans (show _ = exec T an23 (modesOf F) 0 k 67 (callC T F k) (ending T Try.f23 an23 0 K) (bodyOf Try.f23) ⟨argEnv 0 [.val [(0, 0)] (.slice (.int .u8)) a0] (fun _ => none), rowsOf []⟩ (ending T Try.f23 an23 0 K) (fun _ _ => none) from by kernel_rfl) ?_
    rw [← S23_eq k, ← execS_eq T an23 (modesOf F) 0 k 67 (S23 k) (fun _ _ _ _ _ => none) (bodyOf Try.f23) (cuts_of _ _ _ _ _ _ _ _ (bodyOf Try.f23) (l := []) (by kernel_rfl) trivial)]
    kernel_rfl
noncomputable def s23 (k : Nat) (a : List PV) (r : List RowS) (K : List PV → List RowS → Option R) : Option R :=
  onShape [.val [(0, 0)] (.slice (.int .u8))] [] (fun v => f23 k v.1.1 (fun z0 z1 z2 z3 z4 z5 z6 => K [.agg [.val [] (.int .i64) z0, .val [] .bool z1, .val [] (.int .i64) z2, .val [] (.int .i64) z3, .rw 1], .val [] (.int .i64) z4, .val [] (.int .i64) z5] [⟨0, .arr [] (.int .u8) z6⟩])) (callC T F k 23 a r K) a r
theorem s23_eq (k : Nat) (a : List PV) (r : List RowS) (K : List PV → List RowS → Option R) : s23 k a r K = callC T F k 23 a r K := by
  unfold s23
  exact onShape_eq (a := [.val [(0, 0)] (.slice (.int .u8))]) (b := []) (G := fun a r => callC T F k 23 a r K) (fun x y => Eq.trans (by kernel_rfl) (Eq.trans (e23 k x.1 K).symm (by kernel_rfl))) a r
end
end Go.Proofs.Ytahdmfboidjkoaa.PM
