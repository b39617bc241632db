/- The small machine's run is the typed form (printed by a program of this work). -/
import Derived.Test.YtahdmfboidjkoaaPW0
set_option linter.unusedVariables false
set_option linter.unusedSimpArgs false
set_option maxRecDepth 100000
namespace Go.Proofs.Ytahdmfboidjkoaa.PM
open Go
section
variable {R : Type}
noncomputable def S21 (k g : Nat) (a : List PV) (r : List RowS) (K : List PV → List RowS → Option R) : Option R := bif g == 19 then s19 k a r K else callC T F k g a r K
theorem S21_eq (k : Nat) : S21 (R := R) k = callC T F k := by
  funext g a r K
  exact pick_eq (fun e => by subst e; exact s19_eq k a r K) (rfl)
theorem e21 (k : Nat) (K : List PV → List RowS → Option R) : callC T F k 21 [] [] K = f21 k (fun z0 => K [.val [] .bool z0] []) := by
  rw [f21_def]
  cases k with
  | zero => rfl
  | succ k =>
    refine Eq.trans (show _ = exec T an21 (modesOf F) 0 k 5 (callC T F k) (ending T Try.f21 an21 0 K) (bodyOf Try.f21) ⟨argEnv 0 [] (fun _ => none), rowsOf []⟩ (ending T Try.f21 an21 0 K) (fun _ _ => none) from by kernel_rfl) ?_
    rw [← S21_eq k, ← execS_eq T an21 (modesOf F) 0 k 5 (S21 k) (fun _ _ _ _ _ => none) (bodyOf Try.f21) (cuts_of _ _ _ _ _ _ _ _ (bodyOf Try.f21) (l := []) (by kernel_rfl) trivial)]
    kernel_rfl
noncomputable def s21 (k : Nat) (a : List PV) (r : List RowS) (K : List PV → List RowS → Option R) : Option R :=
  onShape [] [] (fun v => f21 k (fun z0 => K [.val [] .bool z0] [])) (callC T F k 21 a r K) a r
theorem s21_eq (k : Nat) (a : List PV) (r : List RowS) (K : List PV → List RowS → Option R) : s21 k a r K = callC T F k 21 a r K := by
  unfold s21
  exact onShape_eq (a := []) (b := []) (G := fun a r => callC T F k 21 a r K) (fun x y => Eq.trans (by kernel_rfl) (Eq.trans (e21 k K).symm (by kernel_rfl))) a r
end
section
variable {R : Type}
noncomputable def S12 (k g : Nat) (a : List PV) (r : List RowS) (K : List PV → List RowS → Option R) : Option R := bif g == 21 then s21 k a r K else bif g == 27 then s27 k a r K else bif g == 50 then s50 k a r K else bif g == 51 then s51 k a r K else callC T F k g a r K
theorem S12_eq (k : Nat) : S12 (R := R) k = callC T F k := by
  funext g a r K
  exact pick_eq (fun e => by subst e; exact s21_eq k a r K) (pick_eq (fun e => by subst e; exact s27_eq k a r K) (pick_eq (fun e => by subst e; exact s50_eq k a r K) (pick_eq (fun e => by subst e; exact s51_eq k a r K) (rfl))))
theorem e12 (k : Nat) (a0 : List ((Int × (Int × (Int × (Int × (List Int × Unit))))))) (a1 : Int) (K : List PV → List RowS → Option R) : callC T F k 12 [.val [(0, 0)] (.slice (.prod (.int .i64) (.prod (.int .i64) (.prod (.int .i64) (.prod (.int .i64) (.prod (.slice (.int .u8)) .unit)))))) a0, .val [] (.int .i64) a1] [] K = f12 k a0 a1 (fun z0 => K [.val [] .bool z0] []) := by
  rw [f12_def]
  cases k with
  | zero => rfl
  | succ k =>
    refine Eq.trans (show _ = exec T an12 (modesOf F) 0 k 41 (callC T F k) (ending T Try.f12 an12 0 K) (bodyOf Try.f12) ⟨argEnv 0 [.val [(0, 0)] (.slice (.prod (.int .i64) (.prod (.int .i64) (.prod (.int .i64) (.prod (.int .i64) (.prod (.slice (.int .u8)) .unit)))))) a0, .val [] (.int .i64) a1] (fun _ => none), rowsOf []⟩ (ending T Try.f12 an12 0 K) (fun _ _ => none) from by kernel_rfl) ?_
    rw [← S12_eq k, ← execS_eq T an12 (modesOf F) 0 k 41 (S12 k) (fun _ _ _ _ _ => none) (bodyOf Try.f12) (cuts_of _ _ _ _ _ _ _ _ (bodyOf Try.f12) (l := []) (by kernel_rfl) trivial)]
    kernel_rfl
noncomputable def s12 (k : Nat) (a : List PV) (r : List RowS) (K : List PV → List RowS → Option R) : Option R :=
  onShape [.val [(0, 0)] (.slice (.prod (.int .i64) (.prod (.int .i64) (.prod (.int .i64) (.prod (.int .i64) (.prod (.slice (.int .u8)) .unit)))))), .val [] (.int .i64)] [] (fun v => f12 k v.1.1 v.1.2.1 (fun z0 => K [.val [] .bool z0] [])) (callC T F k 12 a r K) a r
theorem s12_eq (k : Nat) (a : List PV) (r : List RowS) (K : List PV → List RowS → Option R) : s12 k a r K = callC T F k 12 a r K := by
  unfold s12
  exact onShape_eq (a := [.val [(0, 0)] (.slice (.prod (.int .i64) (.prod (.int .i64) (.prod (.int .i64) (.prod (.int .i64) (.prod (.slice (.int .u8)) .unit)))))), .val [] (.int .i64)]) (b := []) (G := fun a r => callC T F k 12 a r K) (fun x y => Eq.trans (by kernel_rfl) (Eq.trans (e12 k x.1 x.2.1 K).symm (by kernel_rfl))) a r
end
section
variable {R : Type}
noncomputable def S30 (k g : Nat) (a : List PV) (r : List RowS) (K : List PV → List RowS → Option R) : Option R := bif g == 66 then s66 k a r K else callC T F k g a r K
theorem S30_eq (k : Nat) : S30 (R := R) k = callC T F k := by
  funext g a r K
  exact pick_eq (fun e => by subst e; exact s66_eq k a r K) (rfl)
theorem e30 (k : Nat) (a0 : Int) (a1 : Bool) (a2 : Int) (a3 : Int) (a4 : List Int) (K : List PV → List RowS → Option R) : callC T F k 30 [.agg [.val [] (.int .i64) a0, .val [] .bool a1, .val [] (.int .i64) a2, .val [] (.int .i64) a3, .val [(0, 0)] (.slice (.int .u8)) a4]] [] K = f30 k a0 a1 a2 a3 a4 (fun z0 => K [.val [] (.int .i64) z0] []) := by
  rw [f30_def]
  cases k with
  | zero => rfl
  | succ k =>
    refine Eq.trans (show _ = exec T an30 (modesOf F) 0 k 28 (callC T F k) (ending T Try.f30 an30 0 K) (bodyOf Try.f30) ⟨argEnv 0 [.agg [.val [] (.int .i64) a0, .val [] .bool a1, .val [] (.int .i64) a2, .val [] (.int .i64) a3, .val [(0, 0)] (.slice (.int .u8)) a4]] (fun _ => none), rowsOf []⟩ (ending T Try.f30 an30 0 K) (fun _ _ => none) from by kernel_rfl) ?_
    rw [← S30_eq k, ← execS_eq T an30 (modesOf F) 0 k 28 (S30 k) (fun _ _ _ _ _ => none) (bodyOf Try.f30) (cuts_of _ _ _ _ _ _ _ _ (bodyOf Try.f30) (l := []) (by kernel_rfl) trivial)]
    kernel_rfl
noncomputable def s30 (k : Nat) (a : List PV) (r : List RowS) (K : List PV → List RowS → Option R) : Option R :=
  onShape [.agg [.val [] (.int .i64), .val [] .bool, .val [] (.int .i64), .val [] (.int .i64), .val [(0, 0)] (.slice (.int .u8))]] [] (fun v => f30 k v.1.1.1 v.1.1.2.1 v.1.1.2.2.1 v.1.1.2.2.2.1 v.1.1.2.2.2.2.1 (fun z0 => K [.val [] (.int .i64) z0] [])) (callC T F k 30 a r K) a r
theorem s30_eq (k : Nat) (a : List PV) (r : List RowS) (K : List PV → List RowS → Option R) : s30 k a r K = callC T F k 30 a r K := by
  unfold s30
  exact onShape_eq (a := [.agg [.val [] (.int .i64), .val [] .bool, .val [] (.int .i64), .val [] (.int .i64), .val [(0, 0)] (.slice (.int .u8))]]) (b := []) (G := fun a r => callC T F k 30 a r K) (fun x y => Eq.trans (by kernel_rfl) (Eq.trans (e30 k x.1.1 x.1.2.1 x.1.2.2.1 x.1.2.2.2.1 x.1.2.2.2.2.1 K).symm (by kernel_rfl))) a r
end
section
variable {R : Type}
noncomputable def S83 (k g : Nat) (a : List PV) (r : List RowS) (K : List PV → List RowS → Option R) : Option R := bif g == 30 then s30 k a r K else callC T F k g a r K
theorem S83_eq (k : Nat) : S83 (R := R) k = callC T F k := by
  funext g a r K
  exact pick_eq (fun e => by subst e; exact s30_eq k a r K) (rfl)
section
variable {R : Type} (k : Nat) (K : List PV → List RowS → Option R)
noncomputable def L83_0 (ws : List PV) (rs : List RowS) (N : St → Option R) (X : Nat → St → Option R) : Option R :=
  onShape [.val [(0, 0)] (.slice (.prod (.int .i64) (.prod .bool (.prod (.int .i64) (.prod (.int .i64) (.prod (.slice (.int .u8)) .unit)))))), .val [] (.int .i64), .val [] (.int .i64)] [] (fun v => f83_0 k (fun z0 => K [.val [] (.int .i64) z0] []) (N (sh jn83_0 [] [])) v.1.1 v.1.2.1 k v.1.2.2.1) (inner T an83 (modesOf F) 0 k 21 (S83 k) (ending T Try.f83 an83 0 K) cd83_0 (sh sp83_0 ws rs) N X) ws rs
noncomputable def L83 (id : Nat) (ws : List PV) (rs : List RowS) (N : St → Option R) (X : Nat → St → Option R) : Option R := bif id == 0 then L83_0 k K ws rs N X else none
theorem b83_0 (rec : St → Option R) (N : St → Option R) (X : Nat → St → Option R) (v0_0 : List ((Int × (Bool × (Int × (Int × (List Int × Unit))))))) (v0_1 : Int) (v0_2 : Int) :
    execS T an83 (modesOf F) 0 k 21 (S83 k) (L83 k K) (ending T Try.f83 an83 0 K) bd83_0 (sh sp83_0 [.val [(0, 0)] (.slice (.prod (.int .i64) (.prod .bool (.prod (.int .i64) (.prod (.int .i64) (.prod (.slice (.int .u8)) .unit)))))) v0_0, .val [] (.int .i64) v0_1, .val [] (.int .i64) v0_2] []) (fun st => atHead an83 0 bd83_0 st rec) (outX an83 0 0 N X) =
      f83_0b k (fun v0_2 => rec (sh sp83_0 [.val [(0, 0)] (.slice (.prod (.int .i64) (.prod .bool (.prod (.int .i64) (.prod (.int .i64) (.prod (.slice (.int .u8)) .unit)))))) v0_0, .val [] (.int .i64) v0_1, .val [] (.int .i64) v0_2] [])) (fun z0 => K [.val [] (.int .i64) z0] []) (N (sh jn83_0 [] [])) v0_0 v0_1 v0_2 := by kernel_rfl
theorem i83_0 (N : St → Option R) (X : Nat → St → Option R) (v0_0 : List ((Int × (Bool × (Int × (Int × (List Int × Unit))))))) (v0_1 : Int) (m : Nat) : ∀ (v0_2 : Int),
    iter (atHead an83 0 bd83_0) m (fun st N' => exec T an83 (modesOf F) 0 k 21 (S83 k) (ending T Try.f83 an83 0 K) bd83_0 st N' (outX an83 0 0 N X)) (sh sp83_0 [.val [(0, 0)] (.slice (.prod (.int .i64) (.prod .bool (.prod (.int .i64) (.prod (.int .i64) (.prod (.slice (.int .u8)) .unit)))))) v0_0, .val [] (.int .i64) v0_1, .val [] (.int .i64) v0_2] []) = f83_0d k (fun z0 => K [.val [] (.int .i64) z0] []) (N (sh jn83_0 [] [])) v0_0 v0_1 m v0_2 := by
  induction m with
  | zero => intros; rfl
  | succ m ih =>
    intro v0_2
    simp only [iter]
    rw [← execS_eq T an83 (modesOf F) 0 k 21 (S83 k) (L83 k K) bd83_0 (cuts_of _ _ _ _ _ _ _ _ bd83_0 (l := []) (by kernel_rfl) trivial)]
    refine (b83_0 k K _ N X v0_0 v0_1 v0_2).trans ?_
    simp only [f83_0d, ih]
theorem l83_0 (ws : List PV) (rs : List RowS) (N : St → Option R) (X : Nat → St → Option R) : L83 k K 0 ws rs N X = inner T an83 (modesOf F) 0 k 21 (S83 k) (ending T Try.f83 an83 0 K) cd83_0 (sh sp83_0 ws rs) N X := by
  show L83_0 k K ws rs N X = _
  unfold L83_0
  rw [f83_0_def]
  exact onShape_eq (a := [.val [(0, 0)] (.slice (.prod (.int .i64) (.prod .bool (.prod (.int .i64) (.prod (.int .i64) (.prod (.slice (.int .u8)) .unit)))))), .val [] (.int .i64), .val [] (.int .i64)]) (b := []) (G := fun ws rs => inner T an83 (modesOf F) 0 k 21 (S83 k) (ending T Try.f83 an83 0 K) cd83_0 (sh sp83_0 ws rs) N X) (fun x y => Eq.trans (by kernel_rfl) (Eq.trans (i83_0 k K N X x.1 x.2.1 k x.2.2.1).symm (by kernel_rfl))) ws rs
end
theorem e83 (k : Nat) (a0 : List ((Int × (Bool × (Int × (Int × (List Int × Unit))))))) (K : List PV → List RowS → Option R) : callC T F k 83 [.val [(0, 0)] (.slice (.prod (.int .i64) (.prod .bool (.prod (.int .i64) (.prod (.int .i64) (.prod (.slice (.int .u8)) .unit)))))) a0] [] K = f83 k a0 (fun z0 => K [.val [] (.int .i64) z0] []) := by
  rw [f83_def]
  cases k with
  | zero => rfl
  | succ k =>
    refine Eq.trans (show _ = exec T an83 (modesOf F) 0 k 21 (callC T F k) (ending T Try.f83 an83 0 K) (bodyOf Try.f83) ⟨argEnv 0 [.val [(0, 0)] (.slice (.prod (.int .i64) (.prod .bool (.prod (.int .i64) (.prod (.int .i64) (.prod (.slice (.int .u8)) .unit)))))) a0] (fun _ => none), rowsOf []⟩ (ending T Try.f83 an83 0 K) (fun _ _ => none) from by kernel_rfl) ?_
    rw [← S83_eq k, ← execS_eq T an83 (modesOf F) 0 k 21 (S83 k) (L83 k K) (bodyOf Try.f83) (cuts_of _ _ _ _ _ _ _ _ (bodyOf Try.f83) (l := [(0, sp83_0, cd83_0)]) (by kernel_rfl) ⟨l83_0 k K, trivial⟩)]
    kernel_rfl
noncomputable def s83 (k : Nat) (a : List PV) (r : List RowS) (K : List PV → List RowS → Option R) : Option R :=
  onShape [.val [(0, 0)] (.slice (.prod (.int .i64) (.prod .bool (.prod (.int .i64) (.prod (.int .i64) (.prod (.slice (.int .u8)) .unit))))))] [] (fun v => f83 k v.1.1 (fun z0 => K [.val [] (.int .i64) z0] [])) (callC T F k 83 a r K) a r
theorem s83_eq (k : Nat) (a : List PV) (r : List RowS) (K : List PV → List RowS → Option R) : s83 k a r K = callC T F k 83 a r K := by
  unfold s83
  exact onShape_eq (a := [.val [(0, 0)] (.slice (.prod (.int .i64) (.prod .bool (.prod (.int .i64) (.prod (.int .i64) (.prod (.slice (.int .u8)) .unit))))))]) (b := []) (G := fun a r => callC T F k 83 a r K) (fun x y => Eq.trans (by kernel_rfl) (Eq.trans (e83 k x.1 K).symm (by kernel_rfl))) a r
end
section
variable {R : Type}
noncomputable def S72 (k g : Nat) (a : List PV) (r : List RowS) (K : List PV → List RowS → Option R) : Option R := callC T F k g a r K
theorem S72_eq (k : Nat) : S72 (R := R) k = callC T F k := by
  funext g a r K
  exact rfl
theorem e72 (k : Nat) (a0 : Int) (K : List PV → List RowS → Option R) : callC T F k 72 [.val [] (.int .i64) a0] [] K = f72 k a0 (fun z0 => K [.rw 1] [⟨0, .arr [] (.int .u8) z0⟩]) := by
  rw [f72_def]
  cases k with
  | zero => rfl
  | succ k =>
    refine Eq.trans (show _ = exec T an72 (modesOf F) 0 k 9 (callC T F k) (ending T Try.f72 an72 0 K) (bodyOf Try.f72) ⟨argEnv 0 [.val [] (.int .i64) a0] (fun _ => none), rowsOf []⟩ (ending T Try.f72 an72 0 K) (fun _ _ => none) from by kernel_rfl) ?_
    rw [← S72_eq k, ← execS_eq T an72 (modesOf F) 0 k 9 (S72 k) (fun _ _ _ _ _ => none) (bodyOf Try.f72) (cuts_of _ _ _ _ _ _ _ _ (bodyOf Try.f72) (l := []) (by kernel_rfl) trivial)]
    kernel_rfl
noncomputable def s72 (k : Nat) (a : List PV) (r : List RowS) (K : List PV → List RowS → Option R) : Option R :=
  onShape [.val [] (.int .i64)] [] (fun v => f72 k v.1.1 (fun z0 => K [.rw 1] [⟨0, .arr [] (.int .u8) z0⟩])) (callC T F k 72 a r K) a r
theorem s72_eq (k : Nat) (a : List PV) (r : List RowS) (K : List PV → List RowS → Option R) : s72 k a r K = callC T F k 72 a r K := by
  unfold s72
  exact onShape_eq (a := [.val [] (.int .i64)]) (b := []) (G := fun a r => callC T F k 72 a r K) (fun x y => Eq.trans (by kernel_rfl) (Eq.trans (e72 k x.1 K).symm (by kernel_rfl))) a r
end
section
variable {R : Type}
noncomputable def S73 (k g : Nat) (a : List PV) (r : List RowS) (K : List PV → List RowS → Option R) : Option R := bif g == 19 then s19 k a r K else bif g == 72 then s72 k a r K else callC T F k g a r K
theorem S73_eq (k : Nat) : S73 (R := R) k = callC T F k := by
  funext g a r K
  exact pick_eq (fun e => by subst e; exact s19_eq k a r K) (pick_eq (fun e => by subst e; exact s72_eq k a r K) (rfl))
theorem e73 (k : Nat) (a0 : List Int) (K : List PV → List RowS → Option R) : callC T F k 73 [.rw 1] [⟨0, .arr [] (.int .u8) a0⟩] K = f73 k a0 (fun z0 => K [.rw 2] [⟨0, .gone⟩, ⟨0, .arr [] (.int .u8) z0⟩]) := by
  rw [f73_def]
  cases k with
  | zero => rfl
  | succ k =>
    refine Eq.trans (show _ = exec T an73 (modesOf F) 1 k 8 (callC T F k) (ending T Try.f73 an73 1 K) (bodyOf Try.f73) ⟨argEnv 0 [.rw 1] (fun _ => none), rowsOf [⟨0, .arr [] (.int .u8) a0⟩]⟩ (ending T Try.f73 an73 1 K) (fun _ _ => none) from by kernel_rfl) ?_
    rw [← S73_eq k, ← execS_eq T an73 (modesOf F) 1 k 8 (S73 k) (fun _ _ _ _ _ => none) (bodyOf Try.f73) (cuts_of _ _ _ _ _ _ _ _ (bodyOf Try.f73) (l := []) (by kernel_rfl) trivial)]
    kernel_rfl
noncomputable def s73 (k : Nat) (a : List PV) (r : List RowS) (K : List PV → List RowS → Option R) : Option R :=
  onShape [.rw 1] [.arr [] (.int .u8)] (fun v => f73 k v.2.1 (fun z0 => K [.rw 2] [⟨0, .gone⟩, ⟨0, .arr [] (.int .u8) z0⟩])) (callC T F k 73 a r K) a r
theorem s73_eq (k : Nat) (a : List PV) (r : List RowS) (K : List PV → List RowS → Option R) : s73 k a r K = callC T F k 73 a r K := by
  unfold s73
  exact onShape_eq (a := [.rw 1]) (b := [.arr [] (.int .u8)]) (G := fun a r => callC T F k 73 a r K) (fun x y => Eq.trans (by kernel_rfl) (Eq.trans (e73 k y.1 K).symm (by kernel_rfl))) a r
end
section
variable {R : Type}
noncomputable def S70 (k g : Nat) (a : List PV) (r : List RowS) (K : List PV → List RowS → Option R) : Option R := bif g == 72 then s72 k a r K else bif g == 73 then s73 k a r K else callC T F k g a r K
theorem S70_eq (k : Nat) : S70 (R := R) k = callC T F k := by
  funext g a r K
  exact pick_eq (fun e => by subst e; exact s72_eq k a r K) (pick_eq (fun e => by subst e; exact s73_eq k a r K) (rfl))
section
variable {R : Type} (k : Nat) (K : List PV → List RowS → Option R)
noncomputable def L70_1000003 (ws : List PV) (rs : List RowS) (N : St → Option R) (X : Nat → St → Option R) : Option R :=
  onShape [.ptr 1 0, .val [] (.int .i64), .val [] .bool] [.vars [.val [] (.int .i64), .val [] .bool, .val [] (.int .i64), .val [] (.int .i64), .val [(0, 0)] (.slice (.int .u8))]] (fun v => f70_1000003 k (fun yN_0 => N (sh fi70_3 [.ptr 1 0, .val [] (.int .i64) yN_0] [⟨0, .vars [.val [] (.int .i64) v.2.1.1, .val [] .bool v.2.1.2.1, .val [] (.int .i64) v.2.1.2.2.1, .val [] (.int .i64) v.2.1.2.2.2.1, .val [(0, 0)] (.slice (.int .u8)) v.2.1.2.2.2.2.1]⟩])) v.1.2.1 v.1.2.2.1 v.2.1.1 v.2.1.2.1 v.2.1.2.2.1 v.2.1.2.2.2.1 v.2.1.2.2.2.2.1) (inner T an70 (modesOf F) 0 k 33 (S70 k) (ending T Try.f70 an70 0 K) cd70_1000003 (sh sp70_1000003 ws rs) N X) ws rs
noncomputable def L70 (id : Nat) (ws : List PV) (rs : List RowS) (N : St → Option R) (X : Nat → St → Option R) : Option R := bif id == 1000003 then L70_1000003 k K ws rs N X else none
theorem l70_1000003 (ws : List PV) (rs : List RowS) (N : St → Option R) (X : Nat → St → Option R) : L70 k K 1000003 ws rs N X = inner T an70 (modesOf F) 0 k 33 (S70 k) (ending T Try.f70 an70 0 K) cd70_1000003 (sh sp70_1000003 ws rs) N X := by
  show L70_1000003 k K ws rs N X = _
  unfold L70_1000003
  rw [f70_1000003_def]
  exact onShape_eq (a := [.ptr 1 0, .val [] (.int .i64), .val [] .bool]) (b := [.vars [.val [] (.int .i64), .val [] .bool, .val [] (.int .i64), .val [] (.int .i64), .val [(0, 0)] (.slice (.int .u8))]]) (G := fun ws rs => inner T an70 (modesOf F) 0 k 33 (S70 k) (ending T Try.f70 an70 0 K) cd70_1000003 (sh sp70_1000003 ws rs) N X) (fun x y => Eq.trans (by kernel_rfl) (innerS_eq T an70 (modesOf F) 0 k 33 (S70 k) (L70 k K) cd70_1000003 (l := []) (by kernel_rfl) trivial _ N X)) ws rs
end
theorem e70 (k : Nat) (a0 : Int) (a1 : Bool) (a2 : Int) (a3 : Int) (a4 : List Int) (K : List PV → List RowS → Option R) : callC T F k 70 [.agg [.val [] (.int .i64) a0, .val [] .bool a1, .val [] (.int .i64) a2, .val [] (.int .i64) a3, .val [(0, 0)] (.slice (.int .u8)) a4]] [] K = f70 k a0 a1 a2 a3 a4 (fun z0 => K [.rw 1] [⟨0, .arr [] (.int .u8) z0⟩]) := by
  rw [f70_def]
  cases k with
  | zero => rfl
  | succ k =>
    refine Eq.trans (show _ = exec T an70 (modesOf F) 0 k 33 (callC T F k) (ending T Try.f70 an70 0 K) (bodyOf Try.f70) ⟨argEnv 0 [.agg [.val [] (.int .i64) a0, .val [] .bool a1, .val [] (.int .i64) a2, .val [] (.int .i64) a3, .val [(0, 0)] (.slice (.int .u8)) a4]] (fun _ => none), rowsOf []⟩ (ending T Try.f70 an70 0 K) (fun _ _ => none) from by kernel_rfl) ?_
    rw [← S70_eq k, ← execS_eq T an70 (modesOf F) 0 k 33 (S70 k) (L70 k K) (bodyOf Try.f70) (cuts_of _ _ _ _ _ _ _ _ (bodyOf Try.f70) (l := [(1000003, sp70_1000003, cd70_1000003)]) (by kernel_rfl) ⟨l70_1000003 k K, trivial⟩)]
    kernel_rfl
noncomputable def s70 (k : Nat) (a : List PV) (r : List RowS) (K : List PV → List RowS → Option R) : Option R :=
  onShape [.agg [.val [] (.int .i64), .val [] .bool, .val [] (.int .i64), .val [] (.int .i64), .val [(0, 0)] (.slice (.int .u8))]] [] (fun v => f70 k v.1.1.1 v.1.1.2.1 v.1.1.2.2.1 v.1.1.2.2.2.1 v.1.1.2.2.2.2.1 (fun z0 => K [.rw 1] [⟨0, .arr [] (.int .u8) z0⟩])) (callC T F k 70 a r K) a r
theorem s70_eq (k : Nat) (a : List PV) (r : List RowS) (K : List PV → List RowS → Option R) : s70 k a r K = callC T F k 70 a r K := by
  unfold s70
  exact onShape_eq (a := [.agg [.val [] (.int .i64), .val [] .bool, .val [] (.int .i64), .val [] (.int .i64), .val [(0, 0)] (.slice (.int .u8))]]) (b := []) (G := fun a r => callC T F k 70 a r K) (fun x y => Eq.trans (by kernel_rfl) (Eq.trans (e70 k x.1.1 x.1.2.1 x.1.2.2.1 x.1.2.2.2.1 x.1.2.2.2.2.1 K).symm (by kernel_rfl))) a r
end
section
variable {R : Type}
noncomputable def S48 (k g : Nat) (a : List PV) (r : List RowS) (K : List PV → List RowS → Option R) : Option R := bif g == 35 then s35 k a r K else bif g == 41 then s41 k a r K else bif g == 70 then s70 k a r K else bif g == 75 then s75 k a r K else bif g == 83 then s83 k a r K else callC T F k g a r K
theorem S48_eq (k : Nat) : S48 (R := R) k = callC T F k := by
  funext g a r K
  exact pick_eq (fun e => by subst e; exact s35_eq k a r K) (pick_eq (fun e => by subst e; exact s41_eq k a r K) (pick_eq (fun e => by subst e; exact s70_eq k a r K) (pick_eq (fun e => by subst e; exact s75_eq k a r K) (pick_eq (fun e => by subst e; exact s83_eq k a r K) (rfl)))))
section
variable {R : Type} (k : Nat) (K : List PV → List RowS → Option R)
noncomputable def L48_0 (ws : List PV) (rs : List RowS) (N : St → Option R) (X : Nat → St → Option R) : Option R :=
  onShape [.val [] (.int .i64), .val [] (.int .i64), .val [] (.int .i64), .val [] (.int .i64), .rw 1, .rw 2, .val [(0, 0)] (.slice (.prod (.int .i64) (.prod .bool (.prod (.int .i64) (.prod (.int .i64) (.prod (.slice (.int .u8)) .unit)))))), .val [] (.int .i64), .val [] (.int .i64)] [.arr [] (.int .u8), .arr [] (.int .i64)] (fun v => f48_0 k (fun y0_4 y0_5 => N (sh jn48_0 [.val [] (.int .i64) v.1.1, .val [] (.int .i64) v.1.2.1, .val [] (.int .i64) v.1.2.2.1, .val [] (.int .i64) v.1.2.2.2.1, .rw 1, .rw 2] [⟨0, .arr [] (.int .u8) y0_4⟩, ⟨0, .arr [] (.int .i64) y0_5⟩])) v.1.1 v.1.2.1 v.1.2.2.1 v.1.2.2.2.1 v.1.2.2.2.2.2.2.1 v.1.2.2.2.2.2.2.2.1 k v.1.2.2.2.2.2.2.2.2.1 v.2.1 v.2.2.1) (inner T an48 (modesOf F) 0 k 152 (S48 k) (ending T Try.f48 an48 0 K) cd48_0 (sh sp48_0 ws rs) N X) ws rs
noncomputable def L48_1000022 (ws : List PV) (rs : List RowS) (N : St → Option R) (X : Nat → St → Option R) : Option R :=
  onShape [.val [] (.int .i64), .val [] (.int .i64), .val [] (.int .i64), .rw 1, .rw 2, .val [] (.int .i64), .val [] (.int .i64), .val [] .bool] [.arr [] (.int .u8), .arr [] (.int .i64)] (fun v => f48_1000022 k (fun yN_4 => N (sh fi48_22 [.val [] (.int .i64) v.1.1, .val [] (.int .i64) v.1.2.1, .val [] (.int .i64) v.1.2.2.1, .rw 1, .rw 2, .val [] (.int .i64) v.1.2.2.2.2.2.1, .val [] (.int .i64) yN_4] [⟨0, .arr [] (.int .u8) v.2.1⟩, ⟨0, .arr [] (.int .i64) v.2.2.1⟩])) v.1.1 v.1.2.1 v.1.2.2.1 v.1.2.2.2.2.2.1 v.1.2.2.2.2.2.2.1 v.1.2.2.2.2.2.2.2.1 v.2.1 v.2.2.1) (inner T an48 (modesOf F) 0 k 152 (S48 k) (ending T Try.f48 an48 0 K) cd48_1000022 (sh sp48_1000022 ws rs) N X) ws rs
noncomputable def L48_1000021 (ws : List PV) (rs : List RowS) (N : St → Option R) (X : Nat → St → Option R) : Option R :=
  onShape [.val [] (.int .i64), .val [] (.int .i64), .val [] (.int .i64), .rw 1, .rw 2, .val [] (.int .i64), .val [] (.int .i64), .val [] .bool] [.arr [] (.int .u8), .arr [] (.int .i64)] (fun v => f48_1000021 k (fun yN_4 yN_5 => N (sh fi48_21 [.val [] (.int .i64) v.1.1, .val [] (.int .i64) v.1.2.1, .val [] (.int .i64) v.1.2.2.1, .rw 1, .rw 2, .val [] (.int .i64) v.1.2.2.2.2.2.1] [⟨0, .arr [] (.int .u8) yN_4⟩, ⟨0, .arr [] (.int .i64) yN_5⟩])) v.1.1 v.1.2.1 v.1.2.2.1 v.1.2.2.2.2.2.1 v.1.2.2.2.2.2.2.1 v.1.2.2.2.2.2.2.2.1 v.2.1 v.2.2.1) (inner T an48 (modesOf F) 0 k 152 (S48 k) (ending T Try.f48 an48 0 K) cd48_1000021 (sh sp48_1000021 ws rs) N X) ws rs
noncomputable def L48_1000035 (ws : List PV) (rs : List RowS) (N : St → Option R) (X : Nat → St → Option R) : Option R :=
  onShape [.val [] (.int .i64), .val [] (.int .i64), .val [] (.int .i64), .rw 1, .rw 2, .val [] (.int .i64), .rw 3, .val [] (.int .i64), .ptr 4 0, .val [] (.int .i64), .val [] (.int .i64), .val [] .bool] [.arr [] (.int .u8), .arr [] (.int .i64), .arr [] (.prod (.int .i64) (.prod (.int .i64) (.prod (.int .i64) (.prod (.int .i64) (.prod (.slice (.int .u8)) .unit))))), .vars [.val [] (.int .i64), .val [] (.int .i64), .val [] (.int .i64), .val [] (.int .i64), .rw 5], .arr [] (.int .u8)] (fun v => f48_1000035 k (fun yN_13 => N (sh fi48_35 [.val [] (.int .i64) v.1.1, .val [] (.int .i64) v.1.2.1, .val [] (.int .i64) v.1.2.2.1, .rw 1, .rw 2, .val [] (.int .i64) v.1.2.2.2.2.2.1, .rw 3, .val [] (.int .i64) v.1.2.2.2.2.2.2.2.1, .ptr 4 0, .val [] (.int .i64) v.1.2.2.2.2.2.2.2.2.2.1, .val [] (.int .i64) v.1.2.2.2.2.2.2.2.2.2.2.1] [⟨0, .arr [] (.int .u8) v.2.1⟩, ⟨0, .arr [] (.int .i64) v.2.2.1⟩, ⟨0, .arr [] (.prod (.int .i64) (.prod (.int .i64) (.prod (.int .i64) (.prod (.int .i64) (.prod (.slice (.int .u8)) .unit))))) v.2.2.2.1⟩, ⟨0, .vars [.val [] (.int .i64) v.2.2.2.2.1.1, .val [] (.int .i64) v.2.2.2.2.1.2.1, .val [] (.int .i64) v.2.2.2.2.1.2.2.1, .val [] (.int .i64) yN_13, .rw 5]⟩, ⟨0, .arr [] (.int .u8) v.2.2.2.2.2.1⟩])) v.1.1 v.1.2.1 v.1.2.2.1 v.1.2.2.2.2.2.1 v.1.2.2.2.2.2.2.2.1 v.1.2.2.2.2.2.2.2.2.2.1 v.1.2.2.2.2.2.2.2.2.2.2.1 v.1.2.2.2.2.2.2.2.2.2.2.2.1 v.2.1 v.2.2.1 v.2.2.2.1 v.2.2.2.2.1.1 v.2.2.2.2.1.2.1 v.2.2.2.2.1.2.2.1 v.2.2.2.2.1.2.2.2.1 v.2.2.2.2.2.1) (inner T an48 (modesOf F) 0 k 152 (S48 k) (ending T Try.f48 an48 0 K) cd48_1000035 (sh sp48_1000035 ws rs) N X) ws rs
noncomputable def L48_4 (ws : List PV) (rs : List RowS) (N : St → Option R) (X : Nat → St → Option R) : Option R :=
  onShape [.val [] (.int .i64), .val [] (.int .i64), .val [] (.int .i64), .rw 1, .rw 2, .val [] (.int .i64), .rw 3, .val [] (.int .i64), .ptr 4 0, .val [] (.int .i64), .val [] (.int .i64)] [.arr [] (.int .u8), .arr [] (.int .i64), .arr [] (.prod (.int .i64) (.prod (.int .i64) (.prod (.int .i64) (.prod (.int .i64) (.prod (.slice (.int .u8)) .unit))))), .vars [.val [] (.int .i64), .val [] (.int .i64), .val [] (.int .i64), .val [] (.int .i64), .rw 5], .arr [] (.int .u8)] (fun v => f48_4 k (fun y4_7 y4_12 => N (sh jn48_4 [.val [] (.int .i64) v.1.1, .val [] (.int .i64) v.1.2.1, .val [] (.int .i64) v.1.2.2.1, .rw 1, .rw 2, .val [] (.int .i64) v.1.2.2.2.2.2.1, .rw 3, .ptr 4 0, .val [] (.int .i64) v.1.2.2.2.2.2.2.2.2.2.1, .val [] (.int .i64) v.1.2.2.2.2.2.2.2.2.2.2.1] [⟨0, .arr [] (.int .u8) v.2.1⟩, ⟨0, .arr [] (.int .i64) y4_7⟩, ⟨0, .arr [] (.prod (.int .i64) (.prod (.int .i64) (.prod (.int .i64) (.prod (.int .i64) (.prod (.slice (.int .u8)) .unit))))) v.2.2.2.1⟩, ⟨0, .vars [.val [] (.int .i64) v.2.2.2.2.1.1, .val [] (.int .i64) v.2.2.2.2.1.2.1, .val [] (.int .i64) v.2.2.2.2.1.2.2.1, .val [] (.int .i64) y4_12, .rw 5]⟩, ⟨0, .arr [] (.int .u8) v.2.2.2.2.2.1⟩])) v.1.1 v.1.2.1 v.1.2.2.1 v.1.2.2.2.2.2.1 v.1.2.2.2.2.2.2.2.1 v.1.2.2.2.2.2.2.2.2.2.1 v.1.2.2.2.2.2.2.2.2.2.2.1 v.2.1 v.2.2.2.1 v.2.2.2.2.1.1 v.2.2.2.2.1.2.1 v.2.2.2.2.1.2.2.1 v.2.2.2.2.2.1 k v.2.2.1 v.2.2.2.2.1.2.2.2.1) (inner T an48 (modesOf F) 0 k 152 (S48 k) (ending T Try.f48 an48 0 K) cd48_4 (sh sp48_4 ws rs) N X) ws rs
noncomputable def L48_2 (ws : List PV) (rs : List RowS) (N : St → Option R) (X : Nat → St → Option R) : Option R :=
  onShape [.val [] (.int .i64), .val [] (.int .i64), .val [] (.int .i64), .rw 1, .rw 2, .val [] (.int .i64), .rw 3, .val [] (.int .i64), .val [] (.int .i64)] [.arr [] (.int .u8), .arr [] (.int .i64), .arr [] (.prod (.int .i64) (.prod (.int .i64) (.prod (.int .i64) (.prod (.int .i64) (.prod (.slice (.int .u8)) .unit)))))] (fun v => f48_2 k (fun y2_0 => N (sh jn48_2 [.rw 1] [⟨0, .arr [] (.prod (.int .i64) (.prod (.int .i64) (.prod (.int .i64) (.prod (.int .i64) (.prod (.slice (.int .u8)) .unit))))) y2_0⟩])) v.1.1 v.1.2.1 v.1.2.2.1 v.1.2.2.2.2.2.1 v.1.2.2.2.2.2.2.2.1 v.2.1 k v.1.2.2.2.2.2.2.2.2.1 v.2.2.1 v.2.2.2.1) (inner T an48 (modesOf F) 0 k 152 (S48 k) (ending T Try.f48 an48 0 K) cd48_2 (sh sp48_2 ws rs) N X) ws rs
noncomputable def L48 (id : Nat) (ws : List PV) (rs : List RowS) (N : St → Option R) (X : Nat → St → Option R) : Option R := bif id == 0 then L48_0 k K ws rs N X else bif id == 1000022 then L48_1000022 k K ws rs N X else bif id == 1000021 then L48_1000021 k K ws rs N X else bif id == 1000035 then L48_1000035 k K ws rs N X else bif id == 4 then L48_4 k K ws rs N X else bif id == 2 then L48_2 k K ws rs N X else none
theorem b48_0 (rec : St → Option R) (N : St → Option R) (X : Nat → St → Option R) (v0_0 : Int) (v0_1 : Int) (v0_2 : Int) (v0_3 : Int) (v0_4 : List ((Int × (Bool × (Int × (Int × (List Int × Unit))))))) (v0_5 : Int) (v0_6 : Int) (v0_7 : List Int) (v0_8 : List Int) :
    execS T an48 (modesOf F) 0 k 152 (S48 k) (L48 k K) (ending T Try.f48 an48 0 K) bd48_0 (sh sp48_0 [.val [] (.int .i64) v0_0, .val [] (.int .i64) v0_1, .val [] (.int .i64) v0_2, .val [] (.int .i64) v0_3, .rw 1, .rw 2, .val [(0, 0)] (.slice (.prod (.int .i64) (.prod .bool (.prod (.int .i64) (.prod (.int .i64) (.prod (.slice (.int .u8)) .unit)))))) v0_4, .val [] (.int .i64) v0_5, .val [] (.int .i64) v0_6] [⟨0, .arr [] (.int .u8) v0_7⟩, ⟨0, .arr [] (.int .i64) v0_8⟩]) (fun st => atHead an48 0 bd48_0 st rec) (outX an48 0 0 N X) =
      f48_0b k (fun v0_6 v0_7 v0_8 => rec (sh sp48_0 [.val [] (.int .i64) v0_0, .val [] (.int .i64) v0_1, .val [] (.int .i64) v0_2, .val [] (.int .i64) v0_3, .rw 1, .rw 2, .val [(0, 0)] (.slice (.prod (.int .i64) (.prod .bool (.prod (.int .i64) (.prod (.int .i64) (.prod (.slice (.int .u8)) .unit)))))) v0_4, .val [] (.int .i64) v0_5, .val [] (.int .i64) v0_6] [⟨0, .arr [] (.int .u8) v0_7⟩, ⟨0, .arr [] (.int .i64) v0_8⟩])) (fun y0_4 y0_5 => N (sh jn48_0 [.val [] (.int .i64) v0_0, .val [] (.int .i64) v0_1, .val [] (.int .i64) v0_2, .val [] (.int .i64) v0_3, .rw 1, .rw 2] [⟨0, .arr [] (.int .u8) y0_4⟩, ⟨0, .arr [] (.int .i64) y0_5⟩])) v0_0 v0_1 v0_2 v0_3 v0_4 v0_5 v0_6 v0_7 v0_8 := by kernel_rfl
theorem i48_0 (N : St → Option R) (X : Nat → St → Option R) (v0_0 : Int) (v0_1 : Int) (v0_2 : Int) (v0_3 : Int) (v0_4 : List ((Int × (Bool × (Int × (Int × (List Int × Unit))))))) (v0_5 : Int) (m : Nat) : ∀ (v0_6 : Int) (v0_7 : List Int) (v0_8 : List Int),
    iter (atHead an48 0 bd48_0) m (fun st N' => exec T an48 (modesOf F) 0 k 152 (S48 k) (ending T Try.f48 an48 0 K) bd48_0 st N' (outX an48 0 0 N X)) (sh sp48_0 [.val [] (.int .i64) v0_0, .val [] (.int .i64) v0_1, .val [] (.int .i64) v0_2, .val [] (.int .i64) v0_3, .rw 1, .rw 2, .val [(0, 0)] (.slice (.prod (.int .i64) (.prod .bool (.prod (.int .i64) (.prod (.int .i64) (.prod (.slice (.int .u8)) .unit)))))) v0_4, .val [] (.int .i64) v0_5, .val [] (.int .i64) v0_6] [⟨0, .arr [] (.int .u8) v0_7⟩, ⟨0, .arr [] (.int .i64) v0_8⟩]) = f48_0d k (fun y0_4 y0_5 => N (sh jn48_0 [.val [] (.int .i64) v0_0, .val [] (.int .i64) v0_1, .val [] (.int .i64) v0_2, .val [] (.int .i64) v0_3, .rw 1, .rw 2] [⟨0, .arr [] (.int .u8) y0_4⟩, ⟨0, .arr [] (.int .i64) y0_5⟩])) v0_0 v0_1 v0_2 v0_3 v0_4 v0_5 m v0_6 v0_7 v0_8 := by
  induction m with
  | zero => intros; rfl
  | succ m ih =>
    intro v0_6 v0_7 v0_8
    simp only [iter]
    rw [← execS_eq T an48 (modesOf F) 0 k 152 (S48 k) (L48 k K) bd48_0 (cuts_of _ _ _ _ _ _ _ _ bd48_0 (l := []) (by kernel_rfl) trivial)]
    refine (b48_0 k K _ N X v0_0 v0_1 v0_2 v0_3 v0_4 v0_5 v0_6 v0_7 v0_8).trans ?_
    simp only [f48_0d, ih]
theorem l48_0 (ws : List PV) (rs : List RowS) (N : St → Option R) (X : Nat → St → Option R) : L48 k K 0 ws rs N X = inner T an48 (modesOf F) 0 k 152 (S48 k) (ending T Try.f48 an48 0 K) cd48_0 (sh sp48_0 ws rs) N X := by
  show L48_0 k K ws rs N X = _
  unfold L48_0
  rw [f48_0_def]
  exact onShape_eq (a := [.val [] (.int .i64), .val [] (.int .i64), .val [] (.int .i64), .val [] (.int .i64), .rw 1, .rw 2, .val [(0, 0)] (.slice (.prod (.int .i64) (.prod .bool (.prod (.int .i64) (.prod (.int .i64) (.prod (.slice (.int .u8)) .unit)))))), .val [] (.int .i64), .val [] (.int .i64)]) (b := [.arr [] (.int .u8), .arr [] (.int .i64)]) (G := fun ws rs => inner T an48 (modesOf F) 0 k 152 (S48 k) (ending T Try.f48 an48 0 K) cd48_0 (sh sp48_0 ws rs) N X) (fun x y => Eq.trans (by kernel_rfl) (Eq.trans (i48_0 k K N X x.1 x.2.1 x.2.2.1 x.2.2.2.1 x.2.2.2.2.2.2.1 x.2.2.2.2.2.2.2.1 k x.2.2.2.2.2.2.2.2.1 y.1 y.2.1).symm (by kernel_rfl))) ws rs
theorem l48_1000022 (ws : List PV) (rs : List RowS) (N : St → Option R) (X : Nat → St → Option R) : L48 k K 1000022 ws rs N X = inner T an48 (modesOf F) 0 k 152 (S48 k) (ending T Try.f48 an48 0 K) cd48_1000022 (sh sp48_1000022 ws rs) N X := by
  show L48_1000022 k K ws rs N X = _
  unfold L48_1000022
  rw [f48_1000022_def]
  exact onShape_eq (a := [.val [] (.int .i64), .val [] (.int .i64), .val [] (.int .i64), .rw 1, .rw 2, .val [] (.int .i64), .val [] (.int .i64), .val [] .bool]) (b := [.arr [] (.int .u8), .arr [] (.int .i64)]) (G := fun ws rs => inner T an48 (modesOf F) 0 k 152 (S48 k) (ending T Try.f48 an48 0 K) cd48_1000022 (sh sp48_1000022 ws rs) N X) (fun x y => Eq.trans (by kernel_rfl) (innerS_eq T an48 (modesOf F) 0 k 152 (S48 k) (L48 k K) cd48_1000022 (l := []) (by kernel_rfl) trivial _ N X)) ws rs
theorem l48_1000021 (ws : List PV) (rs : List RowS) (N : St → Option R) (X : Nat → St → Option R) : L48 k K 1000021 ws rs N X = inner T an48 (modesOf F) 0 k 152 (S48 k) (ending T Try.f48 an48 0 K) cd48_1000021 (sh sp48_1000021 ws rs) N X := by
  show L48_1000021 k K ws rs N X = _
  unfold L48_1000021
  rw [f48_1000021_def]
  exact onShape_eq (a := [.val [] (.int .i64), .val [] (.int .i64), .val [] (.int .i64), .rw 1, .rw 2, .val [] (.int .i64), .val [] (.int .i64), .val [] .bool]) (b := [.arr [] (.int .u8), .arr [] (.int .i64)]) (G := fun ws rs => inner T an48 (modesOf F) 0 k 152 (S48 k) (ending T Try.f48 an48 0 K) cd48_1000021 (sh sp48_1000021 ws rs) N X) (fun x y => Eq.trans (by kernel_rfl) (innerS_eq T an48 (modesOf F) 0 k 152 (S48 k) (L48 k K) cd48_1000021 (l := [(1000022, sp48_1000022, cd48_1000022)]) (by kernel_rfl) ⟨l48_1000022 k K, trivial⟩ _ N X)) ws rs
theorem l48_1000035 (ws : List PV) (rs : List RowS) (N : St → Option R) (X : Nat → St → Option R) : L48 k K 1000035 ws rs N X = inner T an48 (modesOf F) 0 k 152 (S48 k) (ending T Try.f48 an48 0 K) cd48_1000035 (sh sp48_1000035 ws rs) N X := by
  show L48_1000035 k K ws rs N X = _
  unfold L48_1000035
  rw [f48_1000035_def]
  exact onShape_eq (a := [.val [] (.int .i64), .val [] (.int .i64), .val [] (.int .i64), .rw 1, .rw 2, .val [] (.int .i64), .rw 3, .val [] (.int .i64), .ptr 4 0, .val [] (.int .i64), .val [] (.int .i64), .val [] .bool]) (b := [.arr [] (.int .u8), .arr [] (.int .i64), .arr [] (.prod (.int .i64) (.prod (.int .i64) (.prod (.int .i64) (.prod (.int .i64) (.prod (.slice (.int .u8)) .unit))))), .vars [.val [] (.int .i64), .val [] (.int .i64), .val [] (.int .i64), .val [] (.int .i64), .rw 5], .arr [] (.int .u8)]) (G := fun ws rs => inner T an48 (modesOf F) 0 k 152 (S48 k) (ending T Try.f48 an48 0 K) cd48_1000035 (sh sp48_1000035 ws rs) N X) (fun x y => Eq.trans (by kernel_rfl) (innerS_eq T an48 (modesOf F) 0 k 152 (S48 k) (L48 k K) cd48_1000035 (l := []) (by kernel_rfl) trivial _ N X)) ws rs
theorem b48_4 (rec : St → Option R) (N : St → Option R) (X : Nat → St → Option R) (v4_0 : Int) (v4_1 : Int) (v4_2 : Int) (v4_3 : Int) (v4_4 : Int) (v4_5 : Int) (v4_6 : Int) (v4_7 : List Int) (v4_9 : List (Int × (Int × (Int × (Int × (List Int × Unit)))))) (v4_10 : Int) (v4_11 : Int) (v4_12 : Int) (v4_14 : List Int) (v4_8 : List Int) (v4_13 : Int) :
    execS T an48 (modesOf F) 0 k 152 (S48 k) (L48 k K) (ending T Try.f48 an48 0 K) bd48_4 (sh sp48_4 [.val [] (.int .i64) v4_0, .val [] (.int .i64) v4_1, .val [] (.int .i64) v4_2, .rw 1, .rw 2, .val [] (.int .i64) v4_3, .rw 3, .val [] (.int .i64) v4_4, .ptr 4 0, .val [] (.int .i64) v4_5, .val [] (.int .i64) v4_6] [⟨0, .arr [] (.int .u8) v4_7⟩, ⟨0, .arr [] (.int .i64) v4_8⟩, ⟨0, .arr [] (.prod (.int .i64) (.prod (.int .i64) (.prod (.int .i64) (.prod (.int .i64) (.prod (.slice (.int .u8)) .unit))))) v4_9⟩, ⟨0, .vars [.val [] (.int .i64) v4_10, .val [] (.int .i64) v4_11, .val [] (.int .i64) v4_12, .val [] (.int .i64) v4_13, .rw 5]⟩, ⟨0, .arr [] (.int .u8) v4_14⟩]) (fun st => atHead an48 0 bd48_4 st rec) (outX an48 0 4 N X) =
      f48_4b k (fun v4_8 v4_13 => rec (sh sp48_4 [.val [] (.int .i64) v4_0, .val [] (.int .i64) v4_1, .val [] (.int .i64) v4_2, .rw 1, .rw 2, .val [] (.int .i64) v4_3, .rw 3, .val [] (.int .i64) v4_4, .ptr 4 0, .val [] (.int .i64) v4_5, .val [] (.int .i64) v4_6] [⟨0, .arr [] (.int .u8) v4_7⟩, ⟨0, .arr [] (.int .i64) v4_8⟩, ⟨0, .arr [] (.prod (.int .i64) (.prod (.int .i64) (.prod (.int .i64) (.prod (.int .i64) (.prod (.slice (.int .u8)) .unit))))) v4_9⟩, ⟨0, .vars [.val [] (.int .i64) v4_10, .val [] (.int .i64) v4_11, .val [] (.int .i64) v4_12, .val [] (.int .i64) v4_13, .rw 5]⟩, ⟨0, .arr [] (.int .u8) v4_14⟩])) (fun y4_7 y4_12 => N (sh jn48_4 [.val [] (.int .i64) v4_0, .val [] (.int .i64) v4_1, .val [] (.int .i64) v4_2, .rw 1, .rw 2, .val [] (.int .i64) v4_3, .rw 3, .ptr 4 0, .val [] (.int .i64) v4_5, .val [] (.int .i64) v4_6] [⟨0, .arr [] (.int .u8) v4_7⟩, ⟨0, .arr [] (.int .i64) y4_7⟩, ⟨0, .arr [] (.prod (.int .i64) (.prod (.int .i64) (.prod (.int .i64) (.prod (.int .i64) (.prod (.slice (.int .u8)) .unit))))) v4_9⟩, ⟨0, .vars [.val [] (.int .i64) v4_10, .val [] (.int .i64) v4_11, .val [] (.int .i64) v4_12, .val [] (.int .i64) y4_12, .rw 5]⟩, ⟨0, .arr [] (.int .u8) v4_14⟩])) v4_0 v4_1 v4_2 v4_3 v4_4 v4_5 v4_6 v4_7 v4_9 v4_10 v4_11 v4_12 v4_14 v4_8 v4_13 := by kernel_rfl
theorem i48_4 (N : St → Option R) (X : Nat → St → Option R) (v4_0 : Int) (v4_1 : Int) (v4_2 : Int) (v4_3 : Int) (v4_4 : Int) (v4_5 : Int) (v4_6 : Int) (v4_7 : List Int) (v4_9 : List (Int × (Int × (Int × (Int × (List Int × Unit)))))) (v4_10 : Int) (v4_11 : Int) (v4_12 : Int) (v4_14 : List Int) (m : Nat) : ∀ (v4_8 : List Int) (v4_13 : Int),
    iter (atHead an48 0 bd48_4) m (fun st N' => exec T an48 (modesOf F) 0 k 152 (S48 k) (ending T Try.f48 an48 0 K) bd48_4 st N' (outX an48 0 4 N X)) (sh sp48_4 [.val [] (.int .i64) v4_0, .val [] (.int .i64) v4_1, .val [] (.int .i64) v4_2, .rw 1, .rw 2, .val [] (.int .i64) v4_3, .rw 3, .val [] (.int .i64) v4_4, .ptr 4 0, .val [] (.int .i64) v4_5, .val [] (.int .i64) v4_6] [⟨0, .arr [] (.int .u8) v4_7⟩, ⟨0, .arr [] (.int .i64) v4_8⟩, ⟨0, .arr [] (.prod (.int .i64) (.prod (.int .i64) (.prod (.int .i64) (.prod (.int .i64) (.prod (.slice (.int .u8)) .unit))))) v4_9⟩, ⟨0, .vars [.val [] (.int .i64) v4_10, .val [] (.int .i64) v4_11, .val [] (.int .i64) v4_12, .val [] (.int .i64) v4_13, .rw 5]⟩, ⟨0, .arr [] (.int .u8) v4_14⟩]) = f48_4d k (fun y4_7 y4_12 => N (sh jn48_4 [.val [] (.int .i64) v4_0, .val [] (.int .i64) v4_1, .val [] (.int .i64) v4_2, .rw 1, .rw 2, .val [] (.int .i64) v4_3, .rw 3, .ptr 4 0, .val [] (.int .i64) v4_5, .val [] (.int .i64) v4_6] [⟨0, .arr [] (.int .u8) v4_7⟩, ⟨0, .arr [] (.int .i64) y4_7⟩, ⟨0, .arr [] (.prod (.int .i64) (.prod (.int .i64) (.prod (.int .i64) (.prod (.int .i64) (.prod (.slice (.int .u8)) .unit))))) v4_9⟩, ⟨0, .vars [.val [] (.int .i64) v4_10, .val [] (.int .i64) v4_11, .val [] (.int .i64) v4_12, .val [] (.int .i64) y4_12, .rw 5]⟩, ⟨0, .arr [] (.int .u8) v4_14⟩])) v4_0 v4_1 v4_2 v4_3 v4_4 v4_5 v4_6 v4_7 v4_9 v4_10 v4_11 v4_12 v4_14 m v4_8 v4_13 := by
  induction m with
  | zero => intros; rfl
  | succ m ih =>
    intro v4_8 v4_13
    simp only [iter]
    rw [← execS_eq T an48 (modesOf F) 0 k 152 (S48 k) (L48 k K) bd48_4 (cuts_of _ _ _ _ _ _ _ _ bd48_4 (l := [(1000035, sp48_1000035, cd48_1000035)]) (by kernel_rfl) ⟨l48_1000035 k K, trivial⟩)]
    refine (b48_4 k K _ N X v4_0 v4_1 v4_2 v4_3 v4_4 v4_5 v4_6 v4_7 v4_9 v4_10 v4_11 v4_12 v4_14 v4_8 v4_13).trans ?_
    simp only [f48_4d, ih]
theorem l48_4 (ws : List PV) (rs : List RowS) (N : St → Option R) (X : Nat → St → Option R) : L48 k K 4 ws rs N X = inner T an48 (modesOf F) 0 k 152 (S48 k) (ending T Try.f48 an48 0 K) cd48_4 (sh sp48_4 ws rs) N X := by
  show L48_4 k K ws rs N X = _
  unfold L48_4
  rw [f48_4_def]
  exact onShape_eq (a := [.val [] (.int .i64), .val [] (.int .i64), .val [] (.int .i64), .rw 1, .rw 2, .val [] (.int .i64), .rw 3, .val [] (.int .i64), .ptr 4 0, .val [] (.int .i64), .val [] (.int .i64)]) (b := [.arr [] (.int .u8), .arr [] (.int .i64), .arr [] (.prod (.int .i64) (.prod (.int .i64) (.prod (.int .i64) (.prod (.int .i64) (.prod (.slice (.int .u8)) .unit))))), .vars [.val [] (.int .i64), .val [] (.int .i64), .val [] (.int .i64), .val [] (.int .i64), .rw 5], .arr [] (.int .u8)]) (G := fun ws rs => inner T an48 (modesOf F) 0 k 152 (S48 k) (ending T Try.f48 an48 0 K) cd48_4 (sh sp48_4 ws rs) N X) (fun x y => Eq.trans (by kernel_rfl) (Eq.trans (i48_4 k K N X x.1 x.2.1 x.2.2.1 x.2.2.2.2.2.1 x.2.2.2.2.2.2.2.1 x.2.2.2.2.2.2.2.2.2.1 x.2.2.2.2.2.2.2.2.2.2.1 y.1 y.2.2.1 y.2.2.2.1.1 y.2.2.2.1.2.1 y.2.2.2.1.2.2.1 y.2.2.2.2.1 k y.2.1 y.2.2.2.1.2.2.2.1).symm (by kernel_rfl))) ws rs
theorem b48_2 (rec : St → Option R) (N : St → Option R) (X : Nat → St → Option R) (v2_0 : Int) (v2_1 : Int) (v2_2 : Int) (v2_3 : Int) (v2_4 : Int) (v2_6 : List Int) (v2_5 : Int) (v2_7 : List Int) (v2_8 : List (Int × (Int × (Int × (Int × (List Int × Unit)))))) :
    execS T an48 (modesOf F) 0 k 152 (S48 k) (L48 k K) (ending T Try.f48 an48 0 K) bd48_2 (sh sp48_2 [.val [] (.int .i64) v2_0, .val [] (.int .i64) v2_1, .val [] (.int .i64) v2_2, .rw 1, .rw 2, .val [] (.int .i64) v2_3, .rw 3, .val [] (.int .i64) v2_4, .val [] (.int .i64) v2_5] [⟨0, .arr [] (.int .u8) v2_6⟩, ⟨0, .arr [] (.int .i64) v2_7⟩, ⟨0, .arr [] (.prod (.int .i64) (.prod (.int .i64) (.prod (.int .i64) (.prod (.int .i64) (.prod (.slice (.int .u8)) .unit))))) v2_8⟩]) (fun st => atHead an48 0 bd48_2 st rec) (outX an48 0 2 N X) =
      f48_2b k (fun v2_5 v2_7 v2_8 => rec (sh sp48_2 [.val [] (.int .i64) v2_0, .val [] (.int .i64) v2_1, .val [] (.int .i64) v2_2, .rw 1, .rw 2, .val [] (.int .i64) v2_3, .rw 3, .val [] (.int .i64) v2_4, .val [] (.int .i64) v2_5] [⟨0, .arr [] (.int .u8) v2_6⟩, ⟨0, .arr [] (.int .i64) v2_7⟩, ⟨0, .arr [] (.prod (.int .i64) (.prod (.int .i64) (.prod (.int .i64) (.prod (.int .i64) (.prod (.slice (.int .u8)) .unit))))) v2_8⟩])) (fun y2_0 => N (sh jn48_2 [.rw 1] [⟨0, .arr [] (.prod (.int .i64) (.prod (.int .i64) (.prod (.int .i64) (.prod (.int .i64) (.prod (.slice (.int .u8)) .unit))))) y2_0⟩])) v2_0 v2_1 v2_2 v2_3 v2_4 v2_6 v2_5 v2_7 v2_8 := by kernel_rfl
theorem i48_2 (N : St → Option R) (X : Nat → St → Option R) (v2_0 : Int) (v2_1 : Int) (v2_2 : Int) (v2_3 : Int) (v2_4 : Int) (v2_6 : List Int) (m : Nat) : ∀ (v2_5 : Int) (v2_7 : List Int) (v2_8 : List (Int × (Int × (Int × (Int × (List Int × Unit)))))),
    iter (atHead an48 0 bd48_2) m (fun st N' => exec T an48 (modesOf F) 0 k 152 (S48 k) (ending T Try.f48 an48 0 K) bd48_2 st N' (outX an48 0 2 N X)) (sh sp48_2 [.val [] (.int .i64) v2_0, .val [] (.int .i64) v2_1, .val [] (.int .i64) v2_2, .rw 1, .rw 2, .val [] (.int .i64) v2_3, .rw 3, .val [] (.int .i64) v2_4, .val [] (.int .i64) v2_5] [⟨0, .arr [] (.int .u8) v2_6⟩, ⟨0, .arr [] (.int .i64) v2_7⟩, ⟨0, .arr [] (.prod (.int .i64) (.prod (.int .i64) (.prod (.int .i64) (.prod (.int .i64) (.prod (.slice (.int .u8)) .unit))))) v2_8⟩]) = f48_2d k (fun y2_0 => N (sh jn48_2 [.rw 1] [⟨0, .arr [] (.prod (.int .i64) (.prod (.int .i64) (.prod (.int .i64) (.prod (.int .i64) (.prod (.slice (.int .u8)) .unit))))) y2_0⟩])) v2_0 v2_1 v2_2 v2_3 v2_4 v2_6 m v2_5 v2_7 v2_8 := by
  induction m with
  | zero => intros; rfl
  | succ m ih =>
    intro v2_5 v2_7 v2_8
    simp only [iter]
    rw [← execS_eq T an48 (modesOf F) 0 k 152 (S48 k) (L48 k K) bd48_2 (cuts_of _ _ _ _ _ _ _ _ bd48_2 (l := [(4, sp48_4, cd48_4)]) (by kernel_rfl) ⟨l48_4 k K, trivial⟩)]
    refine (b48_2 k K _ N X v2_0 v2_1 v2_2 v2_3 v2_4 v2_6 v2_5 v2_7 v2_8).trans ?_
    simp only [f48_2d, ih]
theorem l48_2 (ws : List PV) (rs : List RowS) (N : St → Option R) (X : Nat → St → Option R) : L48 k K 2 ws rs N X = inner T an48 (modesOf F) 0 k 152 (S48 k) (ending T Try.f48 an48 0 K) cd48_2 (sh sp48_2 ws rs) N X := by
  show L48_2 k K ws rs N X = _
  unfold L48_2
  rw [f48_2_def]
  exact onShape_eq (a := [.val [] (.int .i64), .val [] (.int .i64), .val [] (.int .i64), .rw 1, .rw 2, .val [] (.int .i64), .rw 3, .val [] (.int .i64), .val [] (.int .i64)]) (b := [.arr [] (.int .u8), .arr [] (.int .i64), .arr [] (.prod (.int .i64) (.prod (.int .i64) (.prod (.int .i64) (.prod (.int .i64) (.prod (.slice (.int .u8)) .unit)))))]) (G := fun ws rs => inner T an48 (modesOf F) 0 k 152 (S48 k) (ending T Try.f48 an48 0 K) cd48_2 (sh sp48_2 ws rs) N X) (fun x y => Eq.trans (by kernel_rfl) (Eq.trans (i48_2 k K N X x.1 x.2.1 x.2.2.1 x.2.2.2.2.2.1 x.2.2.2.2.2.2.2.1 y.1 k x.2.2.2.2.2.2.2.2.1 y.2.1 y.2.2.1).symm (by kernel_rfl))) ws rs
end
theorem e48 (k : Nat) (a0 : Int) (a1 : Int) (a2 : Int) (a3 : Int) (a4 : List ((Int × (Bool × (Int × (Int × (List Int × Unit))))))) (K : List PV → List RowS → Option R) : callC T F k 48 [.val [] (.int .i64) a0, .val [] (.int .i64) a1, .val [] (.int .i64) a2, .val [] (.int .i64) a3, .val [(0, 0)] (.slice (.prod (.int .i64) (.prod .bool (.prod (.int .i64) (.prod (.int .i64) (.prod (.slice (.int .u8)) .unit)))))) a4] [] K = f48 k a0 a1 a2 a3 a4 (fun z0 z1 => K [.rw 1, .val [] (.int .i64) z0] [⟨0, .arr [] (.prod (.int .i64) (.prod (.int .i64) (.prod (.int .i64) (.prod (.int .i64) (.prod (.slice (.int .u8)) .unit))))) z1⟩]) := by
  rw [f48_def]
  cases k with
  | zero => rfl
  | succ k =>
    refine Eq.trans (show _ = exec T an48 (modesOf F) 0 k 152 (callC T F k) (ending T Try.f48 an48 0 K) (bodyOf Try.f48) ⟨argEnv 0 [.val [] (.int .i64) a0, .val [] (.int .i64) a1, .val [] (.int .i64) a2, .val [] (.int .i64) a3, .val [(0, 0)] (.slice (.prod (.int .i64) (.prod .bool (.prod (.int .i64) (.prod (.int .i64) (.prod (.slice (.int .u8)) .unit)))))) a4] (fun _ => none), rowsOf []⟩ (ending T Try.f48 an48 0 K) (fun _ _ => none) from by kernel_rfl) ?_
    rw [← S48_eq k, ← execS_eq T an48 (modesOf F) 0 k 152 (S48 k) (L48 k K) (bodyOf Try.f48) (cuts_of _ _ _ _ _ _ _ _ (bodyOf Try.f48) (l := [(0, sp48_0, cd48_0), (1000021, sp48_1000021, cd48_1000021), (2, sp48_2, cd48_2)]) (by kernel_rfl) ⟨l48_0 k K, l48_1000021 k K, l48_2 k K, trivial⟩)]
    kernel_rfl
noncomputable def s48 (k : Nat) (a : List PV) (r : List RowS) (K : List PV → List RowS → Option R) : Option R :=
  onShape [.val [] (.int .i64), .val [] (.int .i64), .val [] (.int .i64), .val [] (.int .i64), .val [(0, 0)] (.slice (.prod (.int .i64) (.prod .bool (.prod (.int .i64) (.prod (.int .i64) (.prod (.slice (.int .u8)) .unit))))))] [] (fun v => f48 k v.1.1 v.1.2.1 v.1.2.2.1 v.1.2.2.2.1 v.1.2.2.2.2.1 (fun z0 z1 => K [.rw 1, .val [] (.int .i64) z0] [⟨0, .arr [] (.prod (.int .i64) (.prod (.int .i64) (.prod (.int .i64) (.prod (.int .i64) (.prod (.slice (.int .u8)) .unit))))) z1⟩])) (callC T F k 48 a r K) a r
theorem s48_eq (k : Nat) (a : List PV) (r : List RowS) (K : List PV → List RowS → Option R) : s48 k a r K = callC T F k 48 a r K := by
  unfold s48
  exact onShape_eq (a := [.val [] (.int .i64), .val [] (.int .i64), .val [] (.int .i64), .val [] (.int .i64), .val [(0, 0)] (.slice (.prod (.int .i64) (.prod .bool (.prod (.int .i64) (.prod (.int .i64) (.prod (.slice (.int .u8)) .unit))))))]) (b := []) (G := fun a r => callC T F k 48 a r K) (fun x y => Eq.trans (by kernel_rfl) (Eq.trans (e48 k x.1 x.2.1 x.2.2.1 x.2.2.2.1 x.2.2.2.2.1 K).symm (by kernel_rfl))) a r
end
section
variable {R : Type}
noncomputable def S14 (k g : Nat) (a : List PV) (r : List RowS) (K : List PV → List RowS → Option R) : Option R := bif g == 21 then s21 k a r K else bif g == 27 then s27 k a r K else bif g == 48 then s48 k a r K else bif g == 50 then s50 k a r K else callC T F k g a r K
theorem S14_eq (k : Nat) : S14 (R := R) k = callC T F k := by
  funext g a r K
  exact pick_eq (fun e => by subst e; exact s21_eq k a r K) (pick_eq (fun e => by subst e; exact s27_eq k a r K) (pick_eq (fun e => by subst e; exact s48_eq k a r K) (pick_eq (fun e => by subst e; exact s50_eq k a r K) (rfl))))
section
variable {R : Type} (k : Nat) (K : List PV → List RowS → Option R)
noncomputable def L14_1000010 (ws : List PV) (rs : List RowS) (N : St → Option R) (X : Nat → St → Option R) : Option R :=
  onShape [.val [] (.int .i64), .rw 1, .val [] (.int .i64), .rw 2, .ptr 3 0, .val [(0, 0)] (.slice (.prod (.int .i64) (.prod .bool (.prod (.int .i64) (.prod (.int .i64) (.prod (.slice (.int .u8)) .unit)))))), .val [] (.int .i64), .val [] (.int .i64), .val [] .bool] [.arr [] (.prod (.int .i64) (.prod .bool (.prod (.int .i64) (.prod (.int .i64) (.prod (.slice (.int .u8)) .unit))))), .arr [(0, 0)] (.prod (.int .i64) (.prod .bool (.prod (.int .i64) (.prod (.int .i64) (.prod (.slice (.int .u8)) .unit))))), .vars [.val [] (.int .i64), .val [] .bool, .val [] (.int .i64), .val [] (.int .i64), .val [(0, 0)] (.slice (.int .u8))]] (fun v => f14_1000010 k (fun yN_6 => N (sh fi14_10 [.val [] (.int .i64) v.1.1, .rw 1, .val [] (.int .i64) v.1.2.2.1, .rw 2, .val [(0, 0)] (.slice (.prod (.int .i64) (.prod .bool (.prod (.int .i64) (.prod (.int .i64) (.prod (.slice (.int .u8)) .unit)))))) v.1.2.2.2.2.2.1, .val [] (.int .i64) v.1.2.2.2.2.2.2.1, .val [] (.int .i64) v.1.2.2.2.2.2.2.2.1] [⟨0, .arr [] (.prod (.int .i64) (.prod .bool (.prod (.int .i64) (.prod (.int .i64) (.prod (.slice (.int .u8)) .unit))))) v.2.1⟩, ⟨0, .arr [(0, 0)] (.prod (.int .i64) (.prod .bool (.prod (.int .i64) (.prod (.int .i64) (.prod (.slice (.int .u8)) .unit))))) yN_6⟩])) v.1.1 v.1.2.2.1 v.1.2.2.2.2.2.1 v.1.2.2.2.2.2.2.1 v.1.2.2.2.2.2.2.2.1 v.1.2.2.2.2.2.2.2.2.1 v.2.1 v.2.2.1 v.2.2.2.1.1 v.2.2.2.1.2.1 v.2.2.2.1.2.2.1 v.2.2.2.1.2.2.2.1 v.2.2.2.1.2.2.2.2.1) (inner T an14 (modesOf F) 0 k 70 (S14 k) (ending T Try.f14 an14 0 K) cd14_1000010 (sh sp14_1000010 ws rs) N X) ws rs
noncomputable def L14_0 (ws : List PV) (rs : List RowS) (N : St → Option R) (X : Nat → St → Option R) : Option R :=
  onShape [.val [] (.int .i64), .rw 1, .val [] (.int .i64), .rw 2, .val [(0, 0)] (.slice (.prod (.int .i64) (.prod .bool (.prod (.int .i64) (.prod (.int .i64) (.prod (.slice (.int .u8)) .unit)))))), .val [] (.int .i64), .val [] (.int .i64)] [.arr [] (.prod (.int .i64) (.prod .bool (.prod (.int .i64) (.prod (.int .i64) (.prod (.slice (.int .u8)) .unit))))), .arr [(0, 0)] (.prod (.int .i64) (.prod .bool (.prod (.int .i64) (.prod (.int .i64) (.prod (.slice (.int .u8)) .unit)))))] (fun v => f14_0 k (fun y0_3 => N (sh jn14_0 [.val [] (.int .i64) v.1.1, .rw 1, .val [] (.int .i64) v.1.2.2.1, .rw 2] [⟨0, .arr [] (.prod (.int .i64) (.prod .bool (.prod (.int .i64) (.prod (.int .i64) (.prod (.slice (.int .u8)) .unit))))) v.2.1⟩, ⟨0, .arr [(0, 0)] (.prod (.int .i64) (.prod .bool (.prod (.int .i64) (.prod (.int .i64) (.prod (.slice (.int .u8)) .unit))))) y0_3⟩])) v.1.1 v.1.2.2.1 v.1.2.2.2.2.1 v.1.2.2.2.2.2.1 v.2.1 k v.1.2.2.2.2.2.2.1 v.2.2.1) (inner T an14 (modesOf F) 0 k 70 (S14 k) (ending T Try.f14 an14 0 K) cd14_0 (sh sp14_0 ws rs) N X) ws rs
noncomputable def L14 (id : Nat) (ws : List PV) (rs : List RowS) (N : St → Option R) (X : Nat → St → Option R) : Option R := bif id == 1000010 then L14_1000010 k K ws rs N X else bif id == 0 then L14_0 k K ws rs N X else none
theorem l14_1000010 (ws : List PV) (rs : List RowS) (N : St → Option R) (X : Nat → St → Option R) : L14 k K 1000010 ws rs N X = inner T an14 (modesOf F) 0 k 70 (S14 k) (ending T Try.f14 an14 0 K) cd14_1000010 (sh sp14_1000010 ws rs) N X := by
  show L14_1000010 k K ws rs N X = _
  unfold L14_1000010
  rw [f14_1000010_def]
  exact onShape_eq (a := [.val [] (.int .i64), .rw 1, .val [] (.int .i64), .rw 2, .ptr 3 0, .val [(0, 0)] (.slice (.prod (.int .i64) (.prod .bool (.prod (.int .i64) (.prod (.int .i64) (.prod (.slice (.int .u8)) .unit)))))), .val [] (.int .i64), .val [] (.int .i64), .val [] .bool]) (b := [.arr [] (.prod (.int .i64) (.prod .bool (.prod (.int .i64) (.prod (.int .i64) (.prod (.slice (.int .u8)) .unit))))), .arr [(0, 0)] (.prod (.int .i64) (.prod .bool (.prod (.int .i64) (.prod (.int .i64) (.prod (.slice (.int .u8)) .unit))))), .vars [.val [] (.int .i64), .val [] .bool, .val [] (.int .i64), .val [] (.int .i64), .val [(0, 0)] (.slice (.int .u8))]]) (G := fun ws rs => inner T an14 (modesOf F) 0 k 70 (S14 k) (ending T Try.f14 an14 0 K) cd14_1000010 (sh sp14_1000010 ws rs) N X) (fun x y => Eq.trans (by kernel_rfl) (innerS_eq T an14 (modesOf F) 0 k 70 (S14 k) (L14 k K) cd14_1000010 (l := []) (by kernel_rfl) trivial _ N X)) ws rs
theorem b14_0 (rec : St → Option R) (N : St → Option R) (X : Nat → St → Option R) (v0_0 : Int) (v0_1 : Int) (v0_2 : List ((Int × (Bool × (Int × (Int × (List Int × Unit))))))) (v0_3 : Int) (v0_5 : List (Int × (Bool × (Int × (Int × (List Int × Unit)))))) (v0_4 : Int) (v0_6 : List (Int × (Bool × (Int × (Int × (List Int × Unit)))))) :
    execS T an14 (modesOf F) 0 k 70 (S14 k) (L14 k K) (ending T Try.f14 an14 0 K) bd14_0 (sh sp14_0 [.val [] (.int .i64) v0_0, .rw 1, .val [] (.int .i64) v0_1, .rw 2, .val [(0, 0)] (.slice (.prod (.int .i64) (.prod .bool (.prod (.int .i64) (.prod (.int .i64) (.prod (.slice (.int .u8)) .unit)))))) v0_2, .val [] (.int .i64) v0_3, .val [] (.int .i64) v0_4] [⟨0, .arr [] (.prod (.int .i64) (.prod .bool (.prod (.int .i64) (.prod (.int .i64) (.prod (.slice (.int .u8)) .unit))))) v0_5⟩, ⟨0, .arr [(0, 0)] (.prod (.int .i64) (.prod .bool (.prod (.int .i64) (.prod (.int .i64) (.prod (.slice (.int .u8)) .unit))))) v0_6⟩]) (fun st => atHead an14 0 bd14_0 st rec) (outX an14 0 0 N X) =
      f14_0b k (fun v0_4 v0_6 => rec (sh sp14_0 [.val [] (.int .i64) v0_0, .rw 1, .val [] (.int .i64) v0_1, .rw 2, .val [(0, 0)] (.slice (.prod (.int .i64) (.prod .bool (.prod (.int .i64) (.prod (.int .i64) (.prod (.slice (.int .u8)) .unit)))))) v0_2, .val [] (.int .i64) v0_3, .val [] (.int .i64) v0_4] [⟨0, .arr [] (.prod (.int .i64) (.prod .bool (.prod (.int .i64) (.prod (.int .i64) (.prod (.slice (.int .u8)) .unit))))) v0_5⟩, ⟨0, .arr [(0, 0)] (.prod (.int .i64) (.prod .bool (.prod (.int .i64) (.prod (.int .i64) (.prod (.slice (.int .u8)) .unit))))) v0_6⟩])) (fun y0_3 => N (sh jn14_0 [.val [] (.int .i64) v0_0, .rw 1, .val [] (.int .i64) v0_1, .rw 2] [⟨0, .arr [] (.prod (.int .i64) (.prod .bool (.prod (.int .i64) (.prod (.int .i64) (.prod (.slice (.int .u8)) .unit))))) v0_5⟩, ⟨0, .arr [(0, 0)] (.prod (.int .i64) (.prod .bool (.prod (.int .i64) (.prod (.int .i64) (.prod (.slice (.int .u8)) .unit))))) y0_3⟩])) v0_0 v0_1 v0_2 v0_3 v0_5 v0_4 v0_6 := by kernel_rfl
theorem i14_0 (N : St → Option R) (X : Nat → St → Option R) (v0_0 : Int) (v0_1 : Int) (v0_2 : List ((Int × (Bool × (Int × (Int × (List Int × Unit))))))) (v0_3 : Int) (v0_5 : List (Int × (Bool × (Int × (Int × (List Int × Unit)))))) (m : Nat) : ∀ (v0_4 : Int) (v0_6 : List (Int × (Bool × (Int × (Int × (List Int × Unit)))))),
    iter (atHead an14 0 bd14_0) m (fun st N' => exec T an14 (modesOf F) 0 k 70 (S14 k) (ending T Try.f14 an14 0 K) bd14_0 st N' (outX an14 0 0 N X)) (sh sp14_0 [.val [] (.int .i64) v0_0, .rw 1, .val [] (.int .i64) v0_1, .rw 2, .val [(0, 0)] (.slice (.prod (.int .i64) (.prod .bool (.prod (.int .i64) (.prod (.int .i64) (.prod (.slice (.int .u8)) .unit)))))) v0_2, .val [] (.int .i64) v0_3, .val [] (.int .i64) v0_4] [⟨0, .arr [] (.prod (.int .i64) (.prod .bool (.prod (.int .i64) (.prod (.int .i64) (.prod (.slice (.int .u8)) .unit))))) v0_5⟩, ⟨0, .arr [(0, 0)] (.prod (.int .i64) (.prod .bool (.prod (.int .i64) (.prod (.int .i64) (.prod (.slice (.int .u8)) .unit))))) v0_6⟩]) = f14_0d k (fun y0_3 => N (sh jn14_0 [.val [] (.int .i64) v0_0, .rw 1, .val [] (.int .i64) v0_1, .rw 2] [⟨0, .arr [] (.prod (.int .i64) (.prod .bool (.prod (.int .i64) (.prod (.int .i64) (.prod (.slice (.int .u8)) .unit))))) v0_5⟩, ⟨0, .arr [(0, 0)] (.prod (.int .i64) (.prod .bool (.prod (.int .i64) (.prod (.int .i64) (.prod (.slice (.int .u8)) .unit))))) y0_3⟩])) v0_0 v0_1 v0_2 v0_3 v0_5 m v0_4 v0_6 := by
  induction m with
  | zero => intros; rfl
  | succ m ih =>
    intro v0_4 v0_6
    simp only [iter]
    rw [← execS_eq T an14 (modesOf F) 0 k 70 (S14 k) (L14 k K) bd14_0 (cuts_of _ _ _ _ _ _ _ _ bd14_0 (l := [(1000010, sp14_1000010, cd14_1000010)]) (by kernel_rfl) ⟨l14_1000010 k K, trivial⟩)]
    refine (b14_0 k K _ N X v0_0 v0_1 v0_2 v0_3 v0_5 v0_4 v0_6).trans ?_
    simp only [f14_0d, ih]
theorem l14_0 (ws : List PV) (rs : List RowS) (N : St → Option R) (X : Nat → St → Option R) : L14 k K 0 ws rs N X = inner T an14 (modesOf F) 0 k 70 (S14 k) (ending T Try.f14 an14 0 K) cd14_0 (sh sp14_0 ws rs) N X := by
  show L14_0 k K ws rs N X = _
  unfold L14_0
  rw [f14_0_def]
  exact onShape_eq (a := [.val [] (.int .i64), .rw 1, .val [] (.int .i64), .rw 2, .val [(0, 0)] (.slice (.prod (.int .i64) (.prod .bool (.prod (.int .i64) (.prod (.int .i64) (.prod (.slice (.int .u8)) .unit)))))), .val [] (.int .i64), .val [] (.int .i64)]) (b := [.arr [] (.prod (.int .i64) (.prod .bool (.prod (.int .i64) (.prod (.int .i64) (.prod (.slice (.int .u8)) .unit))))), .arr [(0, 0)] (.prod (.int .i64) (.prod .bool (.prod (.int .i64) (.prod (.int .i64) (.prod (.slice (.int .u8)) .unit)))))]) (G := fun ws rs => inner T an14 (modesOf F) 0 k 70 (S14 k) (ending T Try.f14 an14 0 K) cd14_0 (sh sp14_0 ws rs) N X) (fun x y => Eq.trans (by kernel_rfl) (Eq.trans (i14_0 k K N X x.1 x.2.2.1 x.2.2.2.2.1 x.2.2.2.2.2.1 y.1 k x.2.2.2.2.2.2.1 y.2.1).symm (by kernel_rfl))) ws rs
end
theorem e14 (k : Nat) (a0 : Int) (a1 : Int) (a2 : Int) (a3 : Int) (a4 : List ((Int × (Bool × (Int × (Int × (List Int × Unit))))))) (K : List PV → List RowS → Option R) : callC T F k 14 [.val [] (.int .i64) a0, .val [] (.int .i64) a1, .val [] (.int .i64) a2, .val [] (.int .i64) a3, .val [(0, 0)] (.slice (.prod (.int .i64) (.prod .bool (.prod (.int .i64) (.prod (.int .i64) (.prod (.slice (.int .u8)) .unit)))))) a4] [] K = f14 k a0 a1 a2 a3 a4 (fun z0 => K [.val [] .bool z0] []) := by
  rw [f14_def]
  cases k with
  | zero => rfl
  | succ k =>
    refine Eq.trans (show _ = exec T an14 (modesOf F) 0 k 70 (callC T F k) (ending T Try.f14 an14 0 K) (bodyOf Try.f14) ⟨argEnv 0 [.val [] (.int .i64) a0, .val [] (.int .i64) a1, .val [] (.int .i64) a2, .val [] (.int .i64) a3, .val [(0, 0)] (.slice (.prod (.int .i64) (.prod .bool (.prod (.int .i64) (.prod (.int .i64) (.prod (.slice (.int .u8)) .unit)))))) a4] (fun _ => none), rowsOf []⟩ (ending T Try.f14 an14 0 K) (fun _ _ => none) from by kernel_rfl) ?_
    rw [← S14_eq k, ← execS_eq T an14 (modesOf F) 0 k 70 (S14 k) (L14 k K) (bodyOf Try.f14) (cuts_of _ _ _ _ _ _ _ _ (bodyOf Try.f14) (l := [(0, sp14_0, cd14_0)]) (by kernel_rfl) ⟨l14_0 k K, trivial⟩)]
    kernel_rfl
noncomputable def s14 (k : Nat) (a : List PV) (r : List RowS) (K : List PV → List RowS → Option R) : Option R :=
  onShape [.val [] (.int .i64), .val [] (.int .i64), .val [] (.int .i64), .val [] (.int .i64), .val [(0, 0)] (.slice (.prod (.int .i64) (.prod .bool (.prod (.int .i64) (.prod (.int .i64) (.prod (.slice (.int .u8)) .unit))))))] [] (fun v => f14 k v.1.1 v.1.2.1 v.1.2.2.1 v.1.2.2.2.1 v.1.2.2.2.2.1 (fun z0 => K [.val [] .bool z0] [])) (callC T F k 14 a r K) a r
theorem s14_eq (k : Nat) (a : List PV) (r : List RowS) (K : List PV → List RowS → Option R) : s14 k a r K = callC T F k 14 a r K := by
  unfold s14
  exact onShape_eq (a := [.val [] (.int .i64), .val [] (.int .i64), .val [] (.int .i64), .val [] (.int .i64), .val [(0, 0)] (.slice (.prod (.int .i64) (.prod .bool (.prod (.int .i64) (.prod (.int .i64) (.prod (.slice (.int .u8)) .unit))))))]) (b := []) (G := fun a r => callC T F k 14 a r K) (fun x y => Eq.trans (by kernel_rfl) (Eq.trans (e14 k x.1 x.2.1 x.2.2.1 x.2.2.2.1 x.2.2.2.2.1 K).symm (by kernel_rfl))) a r
end
section
variable {R : Type}
noncomputable def S15 (k g : Nat) (a : List PV) (r : List RowS) (K : List PV → List RowS → Option R) : Option R := bif g == 21 then s21 k a r K else bif g == 24 then s24 k a r K else bif g == 48 then s48 k a r K else bif g == 50 then s50 k a r K else callC T F k g a r K
theorem S15_eq (k : Nat) : S15 (R := R) k = callC T F k := by
  funext g a r K
  exact pick_eq (fun e => by subst e; exact s21_eq k a r K) (pick_eq (fun e => by subst e; exact s24_eq k a r K) (pick_eq (fun e => by subst e; exact s48_eq k a r K) (pick_eq (fun e => by subst e; exact s50_eq k a r K) (rfl))))
section
variable {R : Type} (k : Nat) (K : List PV → List RowS → Option R)
noncomputable def L15_1000009 (ws : List PV) (rs : List RowS) (N : St → Option R) (X : Nat → St → Option R) : Option R :=
  onShape [.val [] (.int .i64), .val [(0, 0)] (.slice (.prod (.int .i64) (.prod .bool (.prod (.int .i64) (.prod (.int .i64) (.prod (.slice (.int .u8)) .unit)))))), .val [(0, 0)] (.slice .bool), .rw 1, .ptr 2 0, .rw 3, .val [] (.int .i64), .val [] (.int .i64), .val [] .bool] [.arr [] (.prod (.int .i64) (.prod (.int .i64) (.prod (.int .i64) (.prod (.int .i64) (.prod (.slice (.int .u8)) .unit))))), .vars [.val [] (.int .i64), .val [] (.int .i64), .val [] (.int .i64), .val [] (.int .i64), .val [] (.slice (.int .u8))], .arr [] (.prod (.int .i64) (.prod (.int .i64) (.prod (.int .i64) (.prod (.int .i64) (.prod (.slice (.int .u8)) .unit)))))] (fun v => f15_1000009 k (fun yN_5 => N (sh fi15_9 [.val [] (.int .i64) v.1.1, .val [(0, 0)] (.slice (.prod (.int .i64) (.prod .bool (.prod (.int .i64) (.prod (.int .i64) (.prod (.slice (.int .u8)) .unit)))))) v.1.2.1, .val [(0, 0)] (.slice .bool) v.1.2.2.1, .rw 1, .rw 2, .val [] (.int .i64) v.1.2.2.2.2.2.2.1, .val [] (.int .i64) v.1.2.2.2.2.2.2.2.1] [⟨0, .arr [] (.prod (.int .i64) (.prod (.int .i64) (.prod (.int .i64) (.prod (.int .i64) (.prod (.slice (.int .u8)) .unit))))) yN_5⟩, ⟨0, .arr [] (.prod (.int .i64) (.prod (.int .i64) (.prod (.int .i64) (.prod (.int .i64) (.prod (.slice (.int .u8)) .unit))))) v.2.2.2.1⟩])) v.1.1 v.1.2.1 v.1.2.2.1 v.1.2.2.2.2.2.2.1 v.1.2.2.2.2.2.2.2.1 v.1.2.2.2.2.2.2.2.2.1 v.2.1 v.2.2.1.1 v.2.2.1.2.1 v.2.2.1.2.2.1 v.2.2.1.2.2.2.1 v.2.2.1.2.2.2.2.1 v.2.2.2.1) (inner T an15 (modesOf F) 0 k 111 (S15 k) (ending T Try.f15 an15 0 K) cd15_1000009 (sh sp15_1000009 ws rs) N X) ws rs
noncomputable def L15_0 (ws : List PV) (rs : List RowS) (N : St → Option R) (X : Nat → St → Option R) : Option R :=
  onShape [.val [] (.int .i64), .val [(0, 0)] (.slice (.prod (.int .i64) (.prod .bool (.prod (.int .i64) (.prod (.int .i64) (.prod (.slice (.int .u8)) .unit)))))), .val [(0, 0)] (.slice .bool), .rw 1, .rw 2, .val [] (.int .i64), .val [] (.int .i64)] [.arr [] (.prod (.int .i64) (.prod (.int .i64) (.prod (.int .i64) (.prod (.int .i64) (.prod (.slice (.int .u8)) .unit))))), .arr [] (.prod (.int .i64) (.prod (.int .i64) (.prod (.int .i64) (.prod (.int .i64) (.prod (.slice (.int .u8)) .unit)))))] (fun v => f15_0 k (fun y0_2 => N (sh jn15_0 [.val [] (.int .i64) v.1.1, .val [(0, 0)] (.slice (.prod (.int .i64) (.prod .bool (.prod (.int .i64) (.prod (.int .i64) (.prod (.slice (.int .u8)) .unit)))))) v.1.2.1, .rw 1] [⟨0, .arr [] (.prod (.int .i64) (.prod (.int .i64) (.prod (.int .i64) (.prod (.int .i64) (.prod (.slice (.int .u8)) .unit))))) y0_2⟩])) v.1.1 v.1.2.1 v.1.2.2.1 v.1.2.2.2.2.2.1 v.2.2.1 k v.1.2.2.2.2.2.2.1 v.2.1) (inner T an15 (modesOf F) 0 k 111 (S15 k) (ending T Try.f15 an15 0 K) cd15_0 (sh sp15_0 ws rs) N X) ws rs
noncomputable def L15_1000017 (ws : List PV) (rs : List RowS) (N : St → Option R) (X : Nat → St → Option R) : Option R :=
  onShape [.val [] (.int .i64), .rw 1, .val [] (.int .i64), .val [(0, 0)] (.slice (.prod (.int .i64) (.prod .bool (.prod (.int .i64) (.prod (.int .i64) (.prod (.slice (.int .u8)) .unit)))))), .val [] (.int .i64), .val [] (.int .i64), .val [] .bool] [.arr [] (.prod (.int .i64) (.prod .bool (.prod (.int .i64) (.prod (.int .i64) (.prod (.slice (.int .u8)) .unit)))))] (fun v => f15_1000017 k (fun yN_1 => N (sh fi15_17 [.val [] (.int .i64) v.1.1, .rw 1, .val [] (.int .i64) yN_1, .val [(0, 0)] (.slice (.prod (.int .i64) (.prod .bool (.prod (.int .i64) (.prod (.int .i64) (.prod (.slice (.int .u8)) .unit)))))) v.1.2.2.2.1, .val [] (.int .i64) v.1.2.2.2.2.1, .val [] (.int .i64) v.1.2.2.2.2.2.1] [⟨0, .arr [] (.prod (.int .i64) (.prod .bool (.prod (.int .i64) (.prod (.int .i64) (.prod (.slice (.int .u8)) .unit))))) v.2.1⟩])) v.1.1 v.1.2.2.1 v.1.2.2.2.1 v.1.2.2.2.2.1 v.1.2.2.2.2.2.1 v.1.2.2.2.2.2.2.1 v.2.1) (inner T an15 (modesOf F) 0 k 111 (S15 k) (ending T Try.f15 an15 0 K) cd15_1000017 (sh sp15_1000017 ws rs) N X) ws rs
noncomputable def L15_2 (ws : List PV) (rs : List RowS) (N : St → Option R) (X : Nat → St → Option R) : Option R :=
  onShape [.val [] (.int .i64), .rw 1, .val [] (.int .i64), .val [(0, 0)] (.slice (.prod (.int .i64) (.prod .bool (.prod (.int .i64) (.prod (.int .i64) (.prod (.slice (.int .u8)) .unit)))))), .val [] (.int .i64), .val [] (.int .i64)] [.arr [] (.prod (.int .i64) (.prod .bool (.prod (.int .i64) (.prod (.int .i64) (.prod (.slice (.int .u8)) .unit)))))] (fun v => f15_2 k (fun y2_1 => N (sh jn15_2 [.val [] (.int .i64) v.1.1, .rw 1, .val [] (.int .i64) y2_1] [⟨0, .arr [] (.prod (.int .i64) (.prod .bool (.prod (.int .i64) (.prod (.int .i64) (.prod (.slice (.int .u8)) .unit))))) v.2.1⟩])) v.1.1 v.1.2.2.2.1 v.1.2.2.2.2.1 v.2.1 k v.1.2.2.1 v.1.2.2.2.2.2.1) (inner T an15 (modesOf F) 0 k 111 (S15 k) (ending T Try.f15 an15 0 K) cd15_2 (sh sp15_2 ws rs) N X) ws rs
noncomputable def L15 (id : Nat) (ws : List PV) (rs : List RowS) (N : St → Option R) (X : Nat → St → Option R) : Option R := bif id == 1000009 then L15_1000009 k K ws rs N X else bif id == 0 then L15_0 k K ws rs N X else bif id == 1000017 then L15_1000017 k K ws rs N X else bif id == 2 then L15_2 k K ws rs N X else none
theorem l15_1000009 (ws : List PV) (rs : List RowS) (N : St → Option R) (X : Nat → St → Option R) : L15 k K 1000009 ws rs N X = inner T an15 (modesOf F) 0 k 111 (S15 k) (ending T Try.f15 an15 0 K) cd15_1000009 (sh sp15_1000009 ws rs) N X := by
  show L15_1000009 k K ws rs N X = _
  unfold L15_1000009
  rw [f15_1000009_def]
  exact onShape_eq (a := [.val [] (.int .i64), .val [(0, 0)] (.slice (.prod (.int .i64) (.prod .bool (.prod (.int .i64) (.prod (.int .i64) (.prod (.slice (.int .u8)) .unit)))))), .val [(0, 0)] (.slice .bool), .rw 1, .ptr 2 0, .rw 3, .val [] (.int .i64), .val [] (.int .i64), .val [] .bool]) (b := [.arr [] (.prod (.int .i64) (.prod (.int .i64) (.prod (.int .i64) (.prod (.int .i64) (.prod (.slice (.int .u8)) .unit))))), .vars [.val [] (.int .i64), .val [] (.int .i64), .val [] (.int .i64), .val [] (.int .i64), .val [] (.slice (.int .u8))], .arr [] (.prod (.int .i64) (.prod (.int .i64) (.prod (.int .i64) (.prod (.int .i64) (.prod (.slice (.int .u8)) .unit)))))]) (G := fun ws rs => inner T an15 (modesOf F) 0 k 111 (S15 k) (ending T Try.f15 an15 0 K) cd15_1000009 (sh sp15_1000009 ws rs) N X) (fun x y => Eq.trans (by kernel_rfl) (innerS_eq T an15 (modesOf F) 0 k 111 (S15 k) (L15 k K) cd15_1000009 (l := []) (by kernel_rfl) trivial _ N X)) ws rs
theorem b15_0 (rec : St → Option R) (N : St → Option R) (X : Nat → St → Option R) (v0_0 : Int) (v0_1 : List ((Int × (Bool × (Int × (Int × (List Int × Unit))))))) (v0_2 : List Bool) (v0_3 : Int) (v0_6 : List (Int × (Int × (Int × (Int × (List Int × Unit)))))) (v0_4 : Int) (v0_5 : List (Int × (Int × (Int × (Int × (List Int × Unit)))))) :
    execS T an15 (modesOf F) 0 k 111 (S15 k) (L15 k K) (ending T Try.f15 an15 0 K) bd15_0 (sh sp15_0 [.val [] (.int .i64) v0_0, .val [(0, 0)] (.slice (.prod (.int .i64) (.prod .bool (.prod (.int .i64) (.prod (.int .i64) (.prod (.slice (.int .u8)) .unit)))))) v0_1, .val [(0, 0)] (.slice .bool) v0_2, .rw 1, .rw 2, .val [] (.int .i64) v0_3, .val [] (.int .i64) v0_4] [⟨0, .arr [] (.prod (.int .i64) (.prod (.int .i64) (.prod (.int .i64) (.prod (.int .i64) (.prod (.slice (.int .u8)) .unit))))) v0_5⟩, ⟨0, .arr [] (.prod (.int .i64) (.prod (.int .i64) (.prod (.int .i64) (.prod (.int .i64) (.prod (.slice (.int .u8)) .unit))))) v0_6⟩]) (fun st => atHead an15 0 bd15_0 st rec) (outX an15 0 0 N X) =
      f15_0b k (fun v0_4 v0_5 => rec (sh sp15_0 [.val [] (.int .i64) v0_0, .val [(0, 0)] (.slice (.prod (.int .i64) (.prod .bool (.prod (.int .i64) (.prod (.int .i64) (.prod (.slice (.int .u8)) .unit)))))) v0_1, .val [(0, 0)] (.slice .bool) v0_2, .rw 1, .rw 2, .val [] (.int .i64) v0_3, .val [] (.int .i64) v0_4] [⟨0, .arr [] (.prod (.int .i64) (.prod (.int .i64) (.prod (.int .i64) (.prod (.int .i64) (.prod (.slice (.int .u8)) .unit))))) v0_5⟩, ⟨0, .arr [] (.prod (.int .i64) (.prod (.int .i64) (.prod (.int .i64) (.prod (.int .i64) (.prod (.slice (.int .u8)) .unit))))) v0_6⟩])) (fun y0_2 => N (sh jn15_0 [.val [] (.int .i64) v0_0, .val [(0, 0)] (.slice (.prod (.int .i64) (.prod .bool (.prod (.int .i64) (.prod (.int .i64) (.prod (.slice (.int .u8)) .unit)))))) v0_1, .rw 1] [⟨0, .arr [] (.prod (.int .i64) (.prod (.int .i64) (.prod (.int .i64) (.prod (.int .i64) (.prod (.slice (.int .u8)) .unit))))) y0_2⟩])) v0_0 v0_1 v0_2 v0_3 v0_6 v0_4 v0_5 := by kernel_rfl
theorem i15_0 (N : St → Option R) (X : Nat → St → Option R) (v0_0 : Int) (v0_1 : List ((Int × (Bool × (Int × (Int × (List Int × Unit))))))) (v0_2 : List Bool) (v0_3 : Int) (v0_6 : List (Int × (Int × (Int × (Int × (List Int × Unit)))))) (m : Nat) : ∀ (v0_4 : Int) (v0_5 : List (Int × (Int × (Int × (Int × (List Int × Unit)))))),
    iter (atHead an15 0 bd15_0) m (fun st N' => exec T an15 (modesOf F) 0 k 111 (S15 k) (ending T Try.f15 an15 0 K) bd15_0 st N' (outX an15 0 0 N X)) (sh sp15_0 [.val [] (.int .i64) v0_0, .val [(0, 0)] (.slice (.prod (.int .i64) (.prod .bool (.prod (.int .i64) (.prod (.int .i64) (.prod (.slice (.int .u8)) .unit)))))) v0_1, .val [(0, 0)] (.slice .bool) v0_2, .rw 1, .rw 2, .val [] (.int .i64) v0_3, .val [] (.int .i64) v0_4] [⟨0, .arr [] (.prod (.int .i64) (.prod (.int .i64) (.prod (.int .i64) (.prod (.int .i64) (.prod (.slice (.int .u8)) .unit))))) v0_5⟩, ⟨0, .arr [] (.prod (.int .i64) (.prod (.int .i64) (.prod (.int .i64) (.prod (.int .i64) (.prod (.slice (.int .u8)) .unit))))) v0_6⟩]) = f15_0d k (fun y0_2 => N (sh jn15_0 [.val [] (.int .i64) v0_0, .val [(0, 0)] (.slice (.prod (.int .i64) (.prod .bool (.prod (.int .i64) (.prod (.int .i64) (.prod (.slice (.int .u8)) .unit)))))) v0_1, .rw 1] [⟨0, .arr [] (.prod (.int .i64) (.prod (.int .i64) (.prod (.int .i64) (.prod (.int .i64) (.prod (.slice (.int .u8)) .unit))))) y0_2⟩])) v0_0 v0_1 v0_2 v0_3 v0_6 m v0_4 v0_5 := by
  induction m with
  | zero => intros; rfl
  | succ m ih =>
    intro v0_4 v0_5
    simp only [iter]
    rw [← execS_eq T an15 (modesOf F) 0 k 111 (S15 k) (L15 k K) bd15_0 (cuts_of _ _ _ _ _ _ _ _ bd15_0 (l := [(1000009, sp15_1000009, cd15_1000009)]) (by kernel_rfl) ⟨l15_1000009 k K, trivial⟩)]
    refine (b15_0 k K _ N X v0_0 v0_1 v0_2 v0_3 v0_6 v0_4 v0_5).trans ?_
    simp only [f15_0d, ih]
theorem l15_0 (ws : List PV) (rs : List RowS) (N : St → Option R) (X : Nat → St → Option R) : L15 k K 0 ws rs N X = inner T an15 (modesOf F) 0 k 111 (S15 k) (ending T Try.f15 an15 0 K) cd15_0 (sh sp15_0 ws rs) N X := by
  show L15_0 k K ws rs N X = _
  unfold L15_0
  rw [f15_0_def]
  exact onShape_eq (a := [.val [] (.int .i64), .val [(0, 0)] (.slice (.prod (.int .i64) (.prod .bool (.prod (.int .i64) (.prod (.int .i64) (.prod (.slice (.int .u8)) .unit)))))), .val [(0, 0)] (.slice .bool), .rw 1, .rw 2, .val [] (.int .i64), .val [] (.int .i64)]) (b := [.arr [] (.prod (.int .i64) (.prod (.int .i64) (.prod (.int .i64) (.prod (.int .i64) (.prod (.slice (.int .u8)) .unit))))), .arr [] (.prod (.int .i64) (.prod (.int .i64) (.prod (.int .i64) (.prod (.int .i64) (.prod (.slice (.int .u8)) .unit)))))]) (G := fun ws rs => inner T an15 (modesOf F) 0 k 111 (S15 k) (ending T Try.f15 an15 0 K) cd15_0 (sh sp15_0 ws rs) N X) (fun x y => Eq.trans (by kernel_rfl) (Eq.trans (i15_0 k K N X x.1 x.2.1 x.2.2.1 x.2.2.2.2.2.1 y.2.1 k x.2.2.2.2.2.2.1 y.1).symm (by kernel_rfl))) ws rs
theorem l15_1000017 (ws : List PV) (rs : List RowS) (N : St → Option R) (X : Nat → St → Option R) : L15 k K 1000017 ws rs N X = inner T an15 (modesOf F) 0 k 111 (S15 k) (ending T Try.f15 an15 0 K) cd15_1000017 (sh sp15_1000017 ws rs) N X := by
  show L15_1000017 k K ws rs N X = _
  unfold L15_1000017
  rw [f15_1000017_def]
  exact onShape_eq (a := [.val [] (.int .i64), .rw 1, .val [] (.int .i64), .val [(0, 0)] (.slice (.prod (.int .i64) (.prod .bool (.prod (.int .i64) (.prod (.int .i64) (.prod (.slice (.int .u8)) .unit)))))), .val [] (.int .i64), .val [] (.int .i64), .val [] .bool]) (b := [.arr [] (.prod (.int .i64) (.prod .bool (.prod (.int .i64) (.prod (.int .i64) (.prod (.slice (.int .u8)) .unit)))))]) (G := fun ws rs => inner T an15 (modesOf F) 0 k 111 (S15 k) (ending T Try.f15 an15 0 K) cd15_1000017 (sh sp15_1000017 ws rs) N X) (fun x y => Eq.trans (by kernel_rfl) (innerS_eq T an15 (modesOf F) 0 k 111 (S15 k) (L15 k K) cd15_1000017 (l := []) (by kernel_rfl) trivial _ N X)) ws rs
theorem b15_2 (rec : St → Option R) (N : St → Option R) (X : Nat → St → Option R) (v2_0 : Int) (v2_2 : List ((Int × (Bool × (Int × (Int × (List Int × Unit))))))) (v2_3 : Int) (v2_5 : List (Int × (Bool × (Int × (Int × (List Int × Unit)))))) (v2_1 : Int) (v2_4 : Int) :
    execS T an15 (modesOf F) 0 k 111 (S15 k) (L15 k K) (ending T Try.f15 an15 0 K) bd15_2 (sh sp15_2 [.val [] (.int .i64) v2_0, .rw 1, .val [] (.int .i64) v2_1, .val [(0, 0)] (.slice (.prod (.int .i64) (.prod .bool (.prod (.int .i64) (.prod (.int .i64) (.prod (.slice (.int .u8)) .unit)))))) v2_2, .val [] (.int .i64) v2_3, .val [] (.int .i64) v2_4] [⟨0, .arr [] (.prod (.int .i64) (.prod .bool (.prod (.int .i64) (.prod (.int .i64) (.prod (.slice (.int .u8)) .unit))))) v2_5⟩]) (fun st => atHead an15 0 bd15_2 st rec) (outX an15 0 2 N X) =
      f15_2b k (fun v2_1 v2_4 => rec (sh sp15_2 [.val [] (.int .i64) v2_0, .rw 1, .val [] (.int .i64) v2_1, .val [(0, 0)] (.slice (.prod (.int .i64) (.prod .bool (.prod (.int .i64) (.prod (.int .i64) (.prod (.slice (.int .u8)) .unit)))))) v2_2, .val [] (.int .i64) v2_3, .val [] (.int .i64) v2_4] [⟨0, .arr [] (.prod (.int .i64) (.prod .bool (.prod (.int .i64) (.prod (.int .i64) (.prod (.slice (.int .u8)) .unit))))) v2_5⟩])) (fun y2_1 => N (sh jn15_2 [.val [] (.int .i64) v2_0, .rw 1, .val [] (.int .i64) y2_1] [⟨0, .arr [] (.prod (.int .i64) (.prod .bool (.prod (.int .i64) (.prod (.int .i64) (.prod (.slice (.int .u8)) .unit))))) v2_5⟩])) v2_0 v2_2 v2_3 v2_5 v2_1 v2_4 := by kernel_rfl
theorem i15_2 (N : St → Option R) (X : Nat → St → Option R) (v2_0 : Int) (v2_2 : List ((Int × (Bool × (Int × (Int × (List Int × Unit))))))) (v2_3 : Int) (v2_5 : List (Int × (Bool × (Int × (Int × (List Int × Unit)))))) (m : Nat) : ∀ (v2_1 : Int) (v2_4 : Int),
    iter (atHead an15 0 bd15_2) m (fun st N' => exec T an15 (modesOf F) 0 k 111 (S15 k) (ending T Try.f15 an15 0 K) bd15_2 st N' (outX an15 0 2 N X)) (sh sp15_2 [.val [] (.int .i64) v2_0, .rw 1, .val [] (.int .i64) v2_1, .val [(0, 0)] (.slice (.prod (.int .i64) (.prod .bool (.prod (.int .i64) (.prod (.int .i64) (.prod (.slice (.int .u8)) .unit)))))) v2_2, .val [] (.int .i64) v2_3, .val [] (.int .i64) v2_4] [⟨0, .arr [] (.prod (.int .i64) (.prod .bool (.prod (.int .i64) (.prod (.int .i64) (.prod (.slice (.int .u8)) .unit))))) v2_5⟩]) = f15_2d k (fun y2_1 => N (sh jn15_2 [.val [] (.int .i64) v2_0, .rw 1, .val [] (.int .i64) y2_1] [⟨0, .arr [] (.prod (.int .i64) (.prod .bool (.prod (.int .i64) (.prod (.int .i64) (.prod (.slice (.int .u8)) .unit))))) v2_5⟩])) v2_0 v2_2 v2_3 v2_5 m v2_1 v2_4 := by
  induction m with
  | zero => intros; rfl
  | succ m ih =>
    intro v2_1 v2_4
    simp only [iter]
    rw [← execS_eq T an15 (modesOf F) 0 k 111 (S15 k) (L15 k K) bd15_2 (cuts_of _ _ _ _ _ _ _ _ bd15_2 (l := [(1000017, sp15_1000017, cd15_1000017)]) (by kernel_rfl) ⟨l15_1000017 k K, trivial⟩)]
    refine (b15_2 k K _ N X v2_0 v2_2 v2_3 v2_5 v2_1 v2_4).trans ?_
    simp only [f15_2d, ih]
theorem l15_2 (ws : List PV) (rs : List RowS) (N : St → Option R) (X : Nat → St → Option R) : L15 k K 2 ws rs N X = inner T an15 (modesOf F) 0 k 111 (S15 k) (ending T Try.f15 an15 0 K) cd15_2 (sh sp15_2 ws rs) N X := by
  show L15_2 k K ws rs N X = _
  unfold L15_2
  rw [f15_2_def]
  exact onShape_eq (a := [.val [] (.int .i64), .rw 1, .val [] (.int .i64), .val [(0, 0)] (.slice (.prod (.int .i64) (.prod .bool (.prod (.int .i64) (.prod (.int .i64) (.prod (.slice (.int .u8)) .unit)))))), .val [] (.int .i64), .val [] (.int .i64)]) (b := [.arr [] (.prod (.int .i64) (.prod .bool (.prod (.int .i64) (.prod (.int .i64) (.prod (.slice (.int .u8)) .unit)))))]) (G := fun ws rs => inner T an15 (modesOf F) 0 k 111 (S15 k) (ending T Try.f15 an15 0 K) cd15_2 (sh sp15_2 ws rs) N X) (fun x y => Eq.trans (by kernel_rfl) (Eq.trans (i15_2 k K N X x.1 x.2.2.2.1 x.2.2.2.2.1 y.1 k x.2.2.1 x.2.2.2.2.2.1).symm (by kernel_rfl))) ws rs
end
theorem e15 (k : Nat) (a0 : Int) (a1 : Int) (a2 : Int) (a3 : Int) (a4 : List ((Int × (Bool × (Int × (Int × (List Int × Unit))))))) (a5 : List Bool) (K : List PV → List RowS → Option R) : callC T F k 15 [.val [] (.int .i64) a0, .val [] (.int .i64) a1, .val [] (.int .i64) a2, .val [] (.int .i64) a3, .val [(0, 0)] (.slice (.prod (.int .i64) (.prod .bool (.prod (.int .i64) (.prod (.int .i64) (.prod (.slice (.int .u8)) .unit)))))) a4, .val [(0, 0)] (.slice .bool) a5] [] K = f15 k a0 a1 a2 a3 a4 a5 (fun z0 => K [.val [] .bool z0] []) := by
  rw [f15_def]
  cases k with
  | zero => rfl
  | succ k =>
    refine Eq.trans (show _ = exec T an15 (modesOf F) 0 k 111 (callC T F k) (ending T Try.f15 an15 0 K) (bodyOf Try.f15) ⟨argEnv 0 [.val [] (.int .i64) a0, .val [] (.int .i64) a1, .val [] (.int .i64) a2, .val [] (.int .i64) a3, .val [(0, 0)] (.slice (.prod (.int .i64) (.prod .bool (.prod (.int .i64) (.prod (.int .i64) (.prod (.slice (.int .u8)) .unit)))))) a4, .val [(0, 0)] (.slice .bool) a5] (fun _ => none), rowsOf []⟩ (ending T Try.f15 an15 0 K) (fun _ _ => none) from by kernel_rfl) ?_
    rw [← S15_eq k, ← execS_eq T an15 (modesOf F) 0 k 111 (S15 k) (L15 k K) (bodyOf Try.f15) (cuts_of _ _ _ _ _ _ _ _ (bodyOf Try.f15) (l := [(0, sp15_0, cd15_0), (2, sp15_2, cd15_2)]) (by kernel_rfl) ⟨l15_0 k K, l15_2 k K, trivial⟩)]
    kernel_rfl
noncomputable def s15 (k : Nat) (a : List PV) (r : List RowS) (K : List PV → List RowS → Option R) : Option R :=
  onShape [.val [] (.int .i64), .val [] (.int .i64), .val [] (.int .i64), .val [] (.int .i64), .val [(0, 0)] (.slice (.prod (.int .i64) (.prod .bool (.prod (.int .i64) (.prod (.int .i64) (.prod (.slice (.int .u8)) .unit)))))), .val [(0, 0)] (.slice .bool)] [] (fun v => f15 k v.1.1 v.1.2.1 v.1.2.2.1 v.1.2.2.2.1 v.1.2.2.2.2.1 v.1.2.2.2.2.2.1 (fun z0 => K [.val [] .bool z0] [])) (callC T F k 15 a r K) a r
theorem s15_eq (k : Nat) (a : List PV) (r : List RowS) (K : List PV → List RowS → Option R) : s15 k a r K = callC T F k 15 a r K := by
  unfold s15
  exact onShape_eq (a := [.val [] (.int .i64), .val [] (.int .i64), .val [] (.int .i64), .val [] (.int .i64), .val [(0, 0)] (.slice (.prod (.int .i64) (.prod .bool (.prod (.int .i64) (.prod (.int .i64) (.prod (.slice (.int .u8)) .unit)))))), .val [(0, 0)] (.slice .bool)]) (b := []) (G := fun a r => callC T F k 15 a r K) (fun x y => Eq.trans (by kernel_rfl) (Eq.trans (e15 k x.1 x.2.1 x.2.2.1 x.2.2.2.1 x.2.2.2.2.1 x.2.2.2.2.2.1 K).symm (by kernel_rfl))) a r
end
end Go.Proofs.Ytahdmfboidjkoaa.PM
