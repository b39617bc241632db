/- The small machine's run is the typed form (printed by a program of this work). -/
import Derived.Test.YtlcklflbhhnnhaaPW0
set_option linter.unusedVariables false
set_option linter.unusedSimpArgs false
set_option maxRecDepth 100000
namespace Go.Proofs.Ytlcklflbhhnnhaa.PM
open Go
section
variable {R : Type}
noncomputable def S31 (k g : Nat) (a : List PV) (r : List RowS) (K : List PV → List RowS → Option R) : Option R := bif g == 46 then s46 k a r K else bif g == 72 then s72 k a r K else bif g == 75 then s75 k a r K else bif g == 78 then s78 k a r K else callC T F k g a r K
theorem S31_eq (k : Nat) : S31 (R := R) k = callC T F k := by
  funext g a r K
  exact pick_eq (fun e => by subst e; exact s46_eq k a r K) (pick_eq (fun e => by subst e; exact s72_eq k a r K) (pick_eq (fun e => by subst e; exact s75_eq k a r K) (pick_eq (fun e => by subst e; exact s78_eq k a r K) (rfl))))
theorem e31 (k : Nat) (a0 : Int) (a1 : Int) (a2 : ByteArray) (a3 : List Int) (a4 : Int) (a5 : List ((Int × (Int × Unit)))) (a6 : Int) (a7 : Int) (K : List PV → List RowS → Option R) : callC T F k 31 [.agg [.val [] (.int .i64) a0, .val [] (.int .i64) a1, .val [] .str a2, .val [(0, 0)] (.slice (.int .u8)) a3, .val [] (.int .i64) a4, .val [(0, 0)] (.slice (.prod (.int .i64) (.prod (.int .i64) .unit))) a5, .val [] (.int .i64) a6, .val [] (.int .i64) a7]] [] K = f31 k a0 a1 a2 a3 a4 a5 a6 a7 (fun z0 => K [.val [] (.int .i64) z0] []) := by
  rw [f31_def]
  cases k with
  | zero => rfl
  | succ k =>
    refine Eq.trans (show _ = exec T an31 (modesOf F) 0 k 87 (callC T F k) (ending T Try.f31 an31 0 K) (bodyOf Try.f31) ⟨argEnv 0 [.agg [.val [] (.int .i64) a0, .val [] (.int .i64) a1, .val [] .str a2, .val [(0, 0)] (.slice (.int .u8)) a3, .val [] (.int .i64) a4, .val [(0, 0)] (.slice (.prod (.int .i64) (.prod (.int .i64) .unit))) a5, .val [] (.int .i64) a6, .val [] (.int .i64) a7]] (fun _ => none), rowsOf []⟩ (ending T Try.f31 an31 0 K) (fun _ _ => none) from by kernel_rfl) ?_
    rw [← S31_eq k, ← execS_eq T an31 (modesOf F) 0 k 87 (S31 k) (fun _ _ _ _ _ => none) (bodyOf Try.f31) (cuts_of _ _ _ _ _ _ _ _ (bodyOf Try.f31) (l := []) (by kernel_rfl) trivial)]
    kernel_rfl
noncomputable def s31 (k : Nat) (a : List PV) (r : List RowS) (K : List PV → List RowS → Option R) : Option R :=
  onShape [.agg [.val [] (.int .i64), .val [] (.int .i64), .val [] .str, .val [(0, 0)] (.slice (.int .u8)), .val [] (.int .i64), .val [(0, 0)] (.slice (.prod (.int .i64) (.prod (.int .i64) .unit))), .val [] (.int .i64), .val [] (.int .i64)]] [] (fun v => f31 k v.1.1.1 v.1.1.2.1 v.1.1.2.2.1 v.1.1.2.2.2.1 v.1.1.2.2.2.2.1 v.1.1.2.2.2.2.2.1 v.1.1.2.2.2.2.2.2.1 v.1.1.2.2.2.2.2.2.2.1 (fun z0 => K [.val [] (.int .i64) z0] [])) (callC T F k 31 a r K) a r
theorem s31_eq (k : Nat) (a : List PV) (r : List RowS) (K : List PV → List RowS → Option R) : s31 k a r K = callC T F k 31 a r K := by
  unfold s31
  exact onShape_eq (a := [.agg [.val [] (.int .i64), .val [] (.int .i64), .val [] .str, .val [(0, 0)] (.slice (.int .u8)), .val [] (.int .i64), .val [(0, 0)] (.slice (.prod (.int .i64) (.prod (.int .i64) .unit))), .val [] (.int .i64), .val [] (.int .i64)]]) (b := []) (G := fun a r => callC T F k 31 a r K) (fun x y => Eq.trans (by kernel_rfl) (Eq.trans (e31 k x.1.1 x.1.2.1 x.1.2.2.1 x.1.2.2.2.1 x.1.2.2.2.2.1 x.1.2.2.2.2.2.1 x.1.2.2.2.2.2.2.1 x.1.2.2.2.2.2.2.2.1 K).symm (by kernel_rfl))) a r
end
section
variable {R : Type}
noncomputable def S110 (k g : Nat) (a : List PV) (r : List RowS) (K : List PV → List RowS → Option R) : Option R := bif g == 65 then s65 k a r K else callC T F k g a r K
theorem S110_eq (k : Nat) : S110 (R := R) k = callC T F k := by
  funext g a r K
  exact pick_eq (fun e => by subst e; exact s65_eq k a r K) (rfl)
theorem e110 (k : Nat) (a0 : Int) (a1 : Int) (a2 : ByteArray) (a3 : List Int) (a4 : Int) (a5 : List ((Int × (Int × Unit)))) (a6 : Int) (a7 : Int) (K : List PV → List RowS → Option R) : callC T F k 110 [.agg [.val [] (.int .i64) a0, .val [] (.int .i64) a1, .val [] .str a2, .val [(0, 0)] (.slice (.int .u8)) a3, .val [] (.int .i64) a4, .val [(0, 0)] (.slice (.prod (.int .i64) (.prod (.int .i64) .unit))) a5, .val [] (.int .i64) a6, .val [] (.int .i64) a7]] [] K = f110 k a0 a1 a2 a3 a4 a5 a6 a7 (fun z0 z1 z2 z3 z4 z5 z6 => K [.agg [.val [] (.int .i64) z0, .val [] (.int .i64) z1, .val [] .str z2, .val [] (.int .i64) z3, .val [] (.int .i64) z4, .val [] (.int .i64) z5, .nils, .nils, .val [] .bool z6]] []) := by
  rw [f110_def]
  cases k with
  | zero => rfl
  | succ k =>
    refine Eq.trans (show _ = exec T an110 (modesOf F) 0 k 12 (callC T F k) (ending T Try.f110 an110 0 K) (bodyOf Try.f110) ⟨argEnv 0 [.agg [.val [] (.int .i64) a0, .val [] (.int .i64) a1, .val [] .str a2, .val [(0, 0)] (.slice (.int .u8)) a3, .val [] (.int .i64) a4, .val [(0, 0)] (.slice (.prod (.int .i64) (.prod (.int .i64) .unit))) a5, .val [] (.int .i64) a6, .val [] (.int .i64) a7]] (fun _ => none), rowsOf []⟩ (ending T Try.f110 an110 0 K) (fun _ _ => none) from by kernel_rfl) ?_
    rw [← S110_eq k, ← execS_eq T an110 (modesOf F) 0 k 12 (S110 k) (fun _ _ _ _ _ => none) (bodyOf Try.f110) (cuts_of _ _ _ _ _ _ _ _ (bodyOf Try.f110) (l := []) (by kernel_rfl) trivial)]
    kernel_rfl
noncomputable def s110 (k : Nat) (a : List PV) (r : List RowS) (K : List PV → List RowS → Option R) : Option R :=
  onShape [.agg [.val [] (.int .i64), .val [] (.int .i64), .val [] .str, .val [(0, 0)] (.slice (.int .u8)), .val [] (.int .i64), .val [(0, 0)] (.slice (.prod (.int .i64) (.prod (.int .i64) .unit))), .val [] (.int .i64), .val [] (.int .i64)]] [] (fun v => f110 k v.1.1.1 v.1.1.2.1 v.1.1.2.2.1 v.1.1.2.2.2.1 v.1.1.2.2.2.2.1 v.1.1.2.2.2.2.2.1 v.1.1.2.2.2.2.2.2.1 v.1.1.2.2.2.2.2.2.2.1 (fun z0 z1 z2 z3 z4 z5 z6 => K [.agg [.val [] (.int .i64) z0, .val [] (.int .i64) z1, .val [] .str z2, .val [] (.int .i64) z3, .val [] (.int .i64) z4, .val [] (.int .i64) z5, .nils, .nils, .val [] .bool z6]] [])) (callC T F k 110 a r K) a r
theorem s110_eq (k : Nat) (a : List PV) (r : List RowS) (K : List PV → List RowS → Option R) : s110 k a r K = callC T F k 110 a r K := by
  unfold s110
  exact onShape_eq (a := [.agg [.val [] (.int .i64), .val [] (.int .i64), .val [] .str, .val [(0, 0)] (.slice (.int .u8)), .val [] (.int .i64), .val [(0, 0)] (.slice (.prod (.int .i64) (.prod (.int .i64) .unit))), .val [] (.int .i64), .val [] (.int .i64)]]) (b := []) (G := fun a r => callC T F k 110 a r K) (fun x y => Eq.trans (by kernel_rfl) (Eq.trans (e110 k x.1.1 x.1.2.1 x.1.2.2.1 x.1.2.2.2.1 x.1.2.2.2.2.1 x.1.2.2.2.2.2.1 x.1.2.2.2.2.2.2.1 x.1.2.2.2.2.2.2.2.1 K).symm (by kernel_rfl))) a r
end
section
variable {R : Type}
noncomputable def S129 (k g : Nat) (a : List PV) (r : List RowS) (K : List PV → List RowS → Option R) : Option R := bif g == 65 then s65 k a r K else callC T F k g a r K
theorem S129_eq (k : Nat) : S129 (R := R) k = callC T F k := by
  funext g a r K
  exact pick_eq (fun e => by subst e; exact s65_eq k a r K) (rfl)
theorem e129 (k : Nat) (a0 : Int) (a1 : Int) (a2 : ByteArray) (a3 : List Int) (a4 : Int) (a5 : List ((Int × (Int × Unit)))) (a6 : Int) (a7 : Int) (K : List PV → List RowS → Option R) : callC T F k 129 [.agg [.val [] (.int .i64) a0, .val [] (.int .i64) a1, .val [] .str a2, .val [(0, 0)] (.slice (.int .u8)) a3, .val [] (.int .i64) a4, .val [(0, 0)] (.slice (.prod (.int .i64) (.prod (.int .i64) .unit))) a5, .val [] (.int .i64) a6, .val [] (.int .i64) a7]] [] K = f129 k a0 a1 a2 a3 a4 a5 a6 a7 (fun z0 z1 z2 z3 z4 z5 z6 => K [.agg [.val [] (.int .i64) z0, .val [] (.int .i64) z1, .val [] .str z2, .val [] (.int .i64) z3, .val [] (.int .i64) z4, .val [] (.int .i64) z5, .nils, .nils, .val [] .bool z6]] []) := by
  rw [f129_def]
  cases k with
  | zero => rfl
  | succ k =>
    refine Eq.trans (show _ = exec T an129 (modesOf F) 0 k 14 (callC T F k) (ending T Try.f129 an129 0 K) (bodyOf Try.f129) ⟨argEnv 0 [.agg [.val [] (.int .i64) a0, .val [] (.int .i64) a1, .val [] .str a2, .val [(0, 0)] (.slice (.int .u8)) a3, .val [] (.int .i64) a4, .val [(0, 0)] (.slice (.prod (.int .i64) (.prod (.int .i64) .unit))) a5, .val [] (.int .i64) a6, .val [] (.int .i64) a7]] (fun _ => none), rowsOf []⟩ (ending T Try.f129 an129 0 K) (fun _ _ => none) from by kernel_rfl) ?_
    rw [← S129_eq k, ← execS_eq T an129 (modesOf F) 0 k 14 (S129 k) (fun _ _ _ _ _ => none) (bodyOf Try.f129) (cuts_of _ _ _ _ _ _ _ _ (bodyOf Try.f129) (l := []) (by kernel_rfl) trivial)]
    kernel_rfl
noncomputable def s129 (k : Nat) (a : List PV) (r : List RowS) (K : List PV → List RowS → Option R) : Option R :=
  onShape [.agg [.val [] (.int .i64), .val [] (.int .i64), .val [] .str, .val [(0, 0)] (.slice (.int .u8)), .val [] (.int .i64), .val [(0, 0)] (.slice (.prod (.int .i64) (.prod (.int .i64) .unit))), .val [] (.int .i64), .val [] (.int .i64)]] [] (fun v => f129 k v.1.1.1 v.1.1.2.1 v.1.1.2.2.1 v.1.1.2.2.2.1 v.1.1.2.2.2.2.1 v.1.1.2.2.2.2.2.1 v.1.1.2.2.2.2.2.2.1 v.1.1.2.2.2.2.2.2.2.1 (fun z0 z1 z2 z3 z4 z5 z6 => K [.agg [.val [] (.int .i64) z0, .val [] (.int .i64) z1, .val [] .str z2, .val [] (.int .i64) z3, .val [] (.int .i64) z4, .val [] (.int .i64) z5, .nils, .nils, .val [] .bool z6]] [])) (callC T F k 129 a r K) a r
theorem s129_eq (k : Nat) (a : List PV) (r : List RowS) (K : List PV → List RowS → Option R) : s129 k a r K = callC T F k 129 a r K := by
  unfold s129
  exact onShape_eq (a := [.agg [.val [] (.int .i64), .val [] (.int .i64), .val [] .str, .val [(0, 0)] (.slice (.int .u8)), .val [] (.int .i64), .val [(0, 0)] (.slice (.prod (.int .i64) (.prod (.int .i64) .unit))), .val [] (.int .i64), .val [] (.int .i64)]]) (b := []) (G := fun a r => callC T F k 129 a r K) (fun x y => Eq.trans (by kernel_rfl) (Eq.trans (e129 k x.1.1 x.1.2.1 x.1.2.2.1 x.1.2.2.2.1 x.1.2.2.2.2.1 x.1.2.2.2.2.2.1 x.1.2.2.2.2.2.2.1 x.1.2.2.2.2.2.2.2.1 K).symm (by kernel_rfl))) a r
end
section
variable {R : Type}
noncomputable def S118 (k g : Nat) (a : List PV) (r : List RowS) (K : List PV → List RowS → Option R) : Option R := bif g == 106 then s106 k a r K else callC T F k g a r K
theorem S118_eq (k : Nat) : S118 (R := R) k = callC T F k := by
  funext g a r K
  exact pick_eq (fun e => by subst e; exact s106_eq k a r K) (rfl)
section
variable {R : Type} (k : Nat) (K : List PV → List RowS → Option R)
noncomputable def L118_1000003 (ws : List PV) (rs : List RowS) (N : St → Option R) (X : Nat → St → Option R) : Option R :=
  onShape [.val [(0, 0)] (.slice (.prod (.int .i64) (.prod (.int .i64) .unit))), .nils, .val [] .bool] [] (fun v => f118_1000003 k (fun yN_1 => N (sh fi118_3 [.val [(0, 0)] (.slice (.prod (.int .i64) (.prod (.int .i64) .unit))) v.1.1, .rw 1] [⟨0, .arr [] (.prod (.int .i64) (.prod (.int .i64) .unit)) yN_1⟩])) v.1.1 v.1.2.2.1) (inner T an118 (modesOf F) 0 k 14 (S118 k) (ending T Try.f118 an118 0 K) cd118_1000003 (sh sp118_1000003 ws rs) N X) ws rs
noncomputable def L118 (id : Nat) (ws : List PV) (rs : List RowS) (N : St → Option R) (X : Nat → St → Option R) : Option R := bif id == 1000003 then L118_1000003 k K ws rs N X else none
theorem l118_1000003 (ws : List PV) (rs : List RowS) (N : St → Option R) (X : Nat → St → Option R) : L118 k K 1000003 ws rs N X = inner T an118 (modesOf F) 0 k 14 (S118 k) (ending T Try.f118 an118 0 K) cd118_1000003 (sh sp118_1000003 ws rs) N X := by
  show L118_1000003 k K ws rs N X = _
  unfold L118_1000003
  rw [f118_1000003_def]
  exact onShape_eq (a := [.val [(0, 0)] (.slice (.prod (.int .i64) (.prod (.int .i64) .unit))), .nils, .val [] .bool]) (b := []) (G := fun ws rs => inner T an118 (modesOf F) 0 k 14 (S118 k) (ending T Try.f118 an118 0 K) cd118_1000003 (sh sp118_1000003 ws rs) N X) (fun x y => Eq.trans (by kernel_rfl) (innerS_eq T an118 (modesOf F) 0 k 14 (S118 k) (L118 k K) cd118_1000003 (l := []) (by kernel_rfl) trivial _ N X)) ws rs
end
theorem e118 (k : Nat) (a0 : Bool) (a1 : List ((Int × (Int × Unit)))) (K : List PV → List RowS → Option R) : callC T F k 118 [.val [] .bool a0, .val [(0, 0)] (.slice (.prod (.int .i64) (.prod (.int .i64) .unit))) a1] [] K = f118 k a0 a1 (fun z0 => K [.rw 1] [⟨0, .arr [] (.prod (.int .i64) (.prod (.int .i64) .unit)) z0⟩]) := by
  rw [f118_def]
  cases k with
  | zero => rfl
  | succ k =>
    refine Eq.trans (show _ = exec T an118 (modesOf F) 0 k 14 (callC T F k) (ending T Try.f118 an118 0 K) (bodyOf Try.f118) ⟨argEnv 0 [.val [] .bool a0, .val [(0, 0)] (.slice (.prod (.int .i64) (.prod (.int .i64) .unit))) a1] (fun _ => none), rowsOf []⟩ (ending T Try.f118 an118 0 K) (fun _ _ => none) from by kernel_rfl) ?_
    rw [← S118_eq k, ← execS_eq T an118 (modesOf F) 0 k 14 (S118 k) (L118 k K) (bodyOf Try.f118) (cuts_of _ _ _ _ _ _ _ _ (bodyOf Try.f118) (l := [(1000003, sp118_1000003, cd118_1000003)]) (by kernel_rfl) ⟨l118_1000003 k K, trivial⟩)]
    kernel_rfl
noncomputable def s118 (k : Nat) (a : List PV) (r : List RowS) (K : List PV → List RowS → Option R) : Option R :=
  onShape [.val [] .bool, .val [(0, 0)] (.slice (.prod (.int .i64) (.prod (.int .i64) .unit)))] [] (fun v => f118 k v.1.1 v.1.2.1 (fun z0 => K [.rw 1] [⟨0, .arr [] (.prod (.int .i64) (.prod (.int .i64) .unit)) z0⟩])) (callC T F k 118 a r K) a r
theorem s118_eq (k : Nat) (a : List PV) (r : List RowS) (K : List PV → List RowS → Option R) : s118 k a r K = callC T F k 118 a r K := by
  unfold s118
  exact onShape_eq (a := [.val [] .bool, .val [(0, 0)] (.slice (.prod (.int .i64) (.prod (.int .i64) .unit)))]) (b := []) (G := fun a r => callC T F k 118 a r K) (fun x y => Eq.trans (by kernel_rfl) (Eq.trans (e118 k x.1 x.2.1 K).symm (by kernel_rfl))) a r
end
section
variable {R : Type}
noncomputable def S130 (k g : Nat) (a : List PV) (r : List RowS) (K : List PV → List RowS → Option R) : Option R := callC T F k g a r K
theorem S130_eq (k : Nat) : S130 (R := R) k = callC T F k := by
  funext g a r K
  exact rfl
theorem e130 (k : Nat) (a0 : Int) (a1 : Int) (a2 : ByteArray) (a3 : List Int) (a4 : Int) (a5 : List ((Int × (Int × Unit)))) (a6 : Int) (a7 : Int) (a8 : Int) (a9 : Int) (K : List PV → List RowS → Option R) : callC T F k 130 [.agg [.val [] (.int .i64) a0, .val [] (.int .i64) a1, .val [] .str a2, .val [(0, 0)] (.slice (.int .u8)) a3, .val [] (.int .i64) a4, .val [(0, 0)] (.slice (.prod (.int .i64) (.prod (.int .i64) .unit))) a5, .val [] (.int .i64) a6, .val [] (.int .i64) a7], .val [] (.int .i64) a8, .val [] (.int .i64) a9] [] K = f130 k a0 a1 a2 a3 a4 a5 a6 a7 a8 a9 (fun z0 z1 z2 z3 z4 z5 z6 z7 => K [.agg [.val [] (.int .i64) z0, .val [] (.int .i64) z1, .val [] .str z2, .val [] (.int .i64) z3, .val [] (.int .i64) z4, .val [] (.int .i64) z5, .rw 1, .nils, .val [] .bool z6]] [⟨0, .arr [] (.int .u8) z7⟩]) := by
  rw [f130_def]
  cases k with
  | zero => rfl
  | succ k =>
    refine Eq.trans (show _ = exec T an130 (modesOf F) 0 k 22 (callC T F k) (ending T Try.f130 an130 0 K) (bodyOf Try.f130) ⟨argEnv 0 [.agg [.val [] (.int .i64) a0, .val [] (.int .i64) a1, .val [] .str a2, .val [(0, 0)] (.slice (.int .u8)) a3, .val [] (.int .i64) a4, .val [(0, 0)] (.slice (.prod (.int .i64) (.prod (.int .i64) .unit))) a5, .val [] (.int .i64) a6, .val [] (.int .i64) a7], .val [] (.int .i64) a8, .val [] (.int .i64) a9] (fun _ => none), rowsOf []⟩ (ending T Try.f130 an130 0 K) (fun _ _ => none) from by kernel_rfl) ?_
    rw [← S130_eq k, ← execS_eq T an130 (modesOf F) 0 k 22 (S130 k) (fun _ _ _ _ _ => none) (bodyOf Try.f130) (cuts_of _ _ _ _ _ _ _ _ (bodyOf Try.f130) (l := []) (by kernel_rfl) trivial)]
    kernel_rfl
noncomputable def s130 (k : Nat) (a : List PV) (r : List RowS) (K : List PV → List RowS → Option R) : Option R :=
  onShape [.agg [.val [] (.int .i64), .val [] (.int .i64), .val [] .str, .val [(0, 0)] (.slice (.int .u8)), .val [] (.int .i64), .val [(0, 0)] (.slice (.prod (.int .i64) (.prod (.int .i64) .unit))), .val [] (.int .i64), .val [] (.int .i64)], .val [] (.int .i64), .val [] (.int .i64)] [] (fun v => f130 k v.1.1.1 v.1.1.2.1 v.1.1.2.2.1 v.1.1.2.2.2.1 v.1.1.2.2.2.2.1 v.1.1.2.2.2.2.2.1 v.1.1.2.2.2.2.2.2.1 v.1.1.2.2.2.2.2.2.2.1 v.1.2.1 v.1.2.2.1 (fun z0 z1 z2 z3 z4 z5 z6 z7 => K [.agg [.val [] (.int .i64) z0, .val [] (.int .i64) z1, .val [] .str z2, .val [] (.int .i64) z3, .val [] (.int .i64) z4, .val [] (.int .i64) z5, .rw 1, .nils, .val [] .bool z6]] [⟨0, .arr [] (.int .u8) z7⟩])) (callC T F k 130 a r K) a r
theorem s130_eq (k : Nat) (a : List PV) (r : List RowS) (K : List PV → List RowS → Option R) : s130 k a r K = callC T F k 130 a r K := by
  unfold s130
  exact onShape_eq (a := [.agg [.val [] (.int .i64), .val [] (.int .i64), .val [] .str, .val [(0, 0)] (.slice (.int .u8)), .val [] (.int .i64), .val [(0, 0)] (.slice (.prod (.int .i64) (.prod (.int .i64) .unit))), .val [] (.int .i64), .val [] (.int .i64)], .val [] (.int .i64), .val [] (.int .i64)]) (b := []) (G := fun a r => callC T F k 130 a r K) (fun x y => Eq.trans (by kernel_rfl) (Eq.trans (e130 k x.1.1 x.1.2.1 x.1.2.2.1 x.1.2.2.2.1 x.1.2.2.2.2.1 x.1.2.2.2.2.2.1 x.1.2.2.2.2.2.2.1 x.1.2.2.2.2.2.2.2.1 x.2.1 x.2.2.1 K).symm (by kernel_rfl))) a r
end
section
variable {R : Type}
noncomputable def S111 (k g : Nat) (a : List PV) (r : List RowS) (K : List PV → List RowS → Option R) : Option R := bif g == 75 then s75 k a r K else bif g == 110 then s110 k a r K else bif g == 118 then s118 k a r K else bif g == 129 then s129 k a r K else bif g == 130 then s130 k a r K else callC T F k g a r K
theorem S111_eq (k : Nat) : S111 (R := R) k = callC T F k := by
  funext g a r K
  exact pick_eq (fun e => by subst e; exact s75_eq k a r K) (pick_eq (fun e => by subst e; exact s110_eq k a r K) (pick_eq (fun e => by subst e; exact s118_eq k a r K) (pick_eq (fun e => by subst e; exact s129_eq k a r K) (pick_eq (fun e => by subst e; exact s130_eq k a r K) (rfl)))))
section
variable {R : Type} (k : Nat) (K : List PV → List RowS → Option R)
noncomputable def L111_1000012 (ws : List PV) (rs : List RowS) (N : St → Option R) (X : Nat → St → Option R) : Option R :=
  onShape [.ptr 1 0, .ptr 2 0, .val [(0, 0)] (.slice (.prod (.int .i64) (.prod (.int .i64) .unit))), .val [] (.int .i64), .val [] (.int .i64), .nils, .val [] .bool] [.vars [.val [] (.int .i64), .val [] (.int .i64), .val [] .str, .val [(0, 0)] (.slice (.int .u8)), .val [] (.int .i64), .val [(0, 0)] (.slice (.prod (.int .i64) (.prod (.int .i64) .unit))), .val [] (.int .i64), .val [] (.int .i64)], .vars [.val [] (.int .i64), .val [] (.int .i64), .val [] .str, .val [] (.int .i64), .val [] (.int .i64), .val [] (.int .i64), .nils, .nils, .val [] .bool]] (fun v => f111_1000012 k (fun yN_18 => N (sh fi111_12 [.ptr 1 0, .ptr 2 0, .val [(0, 0)] (.slice (.prod (.int .i64) (.prod (.int .i64) .unit))) v.1.2.2.1, .val [] (.int .i64) v.1.2.2.2.1, .val [] (.int .i64) v.1.2.2.2.2.1, .rw 3] [⟨0, .vars [.val [] (.int .i64) v.2.1.1, .val [] (.int .i64) v.2.1.2.1, .val [] .str v.2.1.2.2.1, .val [(0, 0)] (.slice (.int .u8)) v.2.1.2.2.2.1, .val [] (.int .i64) v.2.1.2.2.2.2.1, .val [(0, 0)] (.slice (.prod (.int .i64) (.prod (.int .i64) .unit))) v.2.1.2.2.2.2.2.1, .val [] (.int .i64) v.2.1.2.2.2.2.2.2.1, .val [] (.int .i64) v.2.1.2.2.2.2.2.2.2.1]⟩, ⟨0, .vars [.val [] (.int .i64) v.2.2.1.1, .val [] (.int .i64) v.2.2.1.2.1, .val [] .str v.2.2.1.2.2.1, .val [] (.int .i64) v.2.2.1.2.2.2.1, .val [] (.int .i64) v.2.2.1.2.2.2.2.1, .val [] (.int .i64) v.2.2.1.2.2.2.2.2.1, .nils, .nils, .val [] .bool v.2.2.1.2.2.2.2.2.2.2.2.1]⟩, ⟨0, .arr [] (.prod (.int .i64) (.prod (.int .i64) .unit)) yN_18⟩])) v.1.2.2.1 v.1.2.2.2.1 v.1.2.2.2.2.1 v.1.2.2.2.2.2.2.1 v.2.1.1 v.2.1.2.1 v.2.1.2.2.1 v.2.1.2.2.2.1 v.2.1.2.2.2.2.1 v.2.1.2.2.2.2.2.1 v.2.1.2.2.2.2.2.2.1 v.2.1.2.2.2.2.2.2.2.1 v.2.2.1.1 v.2.2.1.2.1 v.2.2.1.2.2.1 v.2.2.1.2.2.2.1 v.2.2.1.2.2.2.2.1 v.2.2.1.2.2.2.2.2.1 v.2.2.1.2.2.2.2.2.2.2.2.1) (inner T an111 (modesOf F) 1 k 140 (S111 k) (ending T Try.f111 an111 1 K) cd111_1000012 (sh sp111_1000012 ws rs) N X) ws rs
noncomputable def L111 (id : Nat) (ws : List PV) (rs : List RowS) (N : St → Option R) (X : Nat → St → Option R) : Option R := bif id == 1000012 then L111_1000012 k K ws rs N X else none
theorem l111_1000012 (ws : List PV) (rs : List RowS) (N : St → Option R) (X : Nat → St → Option R) : L111 k K 1000012 ws rs N X = inner T an111 (modesOf F) 1 k 140 (S111 k) (ending T Try.f111 an111 1 K) cd111_1000012 (sh sp111_1000012 ws rs) N X := by
  show L111_1000012 k K ws rs N X = _
  unfold L111_1000012
  rw [f111_1000012_def]
  exact onShape_eq (a := [.ptr 1 0, .ptr 2 0, .val [(0, 0)] (.slice (.prod (.int .i64) (.prod (.int .i64) .unit))), .val [] (.int .i64), .val [] (.int .i64), .nils, .val [] .bool]) (b := [.vars [.val [] (.int .i64), .val [] (.int .i64), .val [] .str, .val [(0, 0)] (.slice (.int .u8)), .val [] (.int .i64), .val [(0, 0)] (.slice (.prod (.int .i64) (.prod (.int .i64) .unit))), .val [] (.int .i64), .val [] (.int .i64)], .vars [.val [] (.int .i64), .val [] (.int .i64), .val [] .str, .val [] (.int .i64), .val [] (.int .i64), .val [] (.int .i64), .nils, .nils, .val [] .bool]]) (G := fun ws rs => inner T an111 (modesOf F) 1 k 140 (S111 k) (ending T Try.f111 an111 1 K) cd111_1000012 (sh sp111_1000012 ws rs) N X) (fun x y => Eq.trans (by kernel_rfl) (innerS_eq T an111 (modesOf F) 1 k 140 (S111 k) (L111 k K) cd111_1000012 (l := []) (by kernel_rfl) trivial _ N X)) ws rs
end
theorem e111 (k : Nat) (a0 : Int) (a1 : Int) (a2 : Int) (a3 : Int) (a4 : Int) (a5 : Int) (a6 : Int) (a7 : ByteArray) (a8 : List Int) (a9 : Int) (a10 : List ((Int × (Int × Unit)))) (a11 : Int) (a12 : Int) (K : List PV → List RowS → Option R) : callC T F k 111 [.agg [.val [] (.int .i64) a0, .val [] (.int .i64) a1, .val [] (.int .i64) a2, .val [] (.int .i64) a3, .val [] (.int .i64) a4], .ptr 1 0] [⟨0, .vars [.val [] (.int .i64) a5, .val [] (.int .i64) a6, .val [] .str a7, .val [(0, 0)] (.slice (.int .u8)) a8, .val [] (.int .i64) a9, .val [(0, 0)] (.slice (.prod (.int .i64) (.prod (.int .i64) .unit))) a10, .val [] (.int .i64) a11, .val [] (.int .i64) a12]⟩] K = f111 k a0 a1 a2 a3 a4 a5 a6 a7 a8 a9 a10 a11 a12 (fun z0 z1 z2 z3 z4 z5 z6 z7 z8 z9 z10 z11 z12 z13 z14 z15 => K [.agg [.val [] (.int .i64) z0, .val [] (.int .i64) z1, .val [] .str z2, .val [] (.int .i64) z3, .val [] (.int .i64) z4, .val [] (.int .i64) z5, .rw 2, .nils, .val [] .bool z6]] [⟨0, .vars [.val [] (.int .i64) z7, .val [] (.int .i64) z8, .val [] .str z9, .val [(0, 0)] (.slice (.int .u8)) z10, .val [] (.int .i64) z11, .val [(0, 0)] (.slice (.prod (.int .i64) (.prod (.int .i64) .unit))) z12, .val [] (.int .i64) z13, .val [] (.int .i64) z14]⟩, ⟨0, .arr [] (.int .u8) z15⟩]) := by
  rw [f111_def]
  cases k with
  | zero => rfl
  | succ k =>
    refine Eq.trans (show _ = exec T an111 (modesOf F) 1 k 140 (callC T F k) (ending T Try.f111 an111 1 K) (bodyOf Try.f111) ⟨argEnv 0 [.agg [.val [] (.int .i64) a0, .val [] (.int .i64) a1, .val [] (.int .i64) a2, .val [] (.int .i64) a3, .val [] (.int .i64) a4], .ptr 1 0] (fun _ => none), rowsOf [⟨0, .vars [.val [] (.int .i64) a5, .val [] (.int .i64) a6, .val [] .str a7, .val [(0, 0)] (.slice (.int .u8)) a8, .val [] (.int .i64) a9, .val [(0, 0)] (.slice (.prod (.int .i64) (.prod (.int .i64) .unit))) a10, .val [] (.int .i64) a11, .val [] (.int .i64) a12]⟩]⟩ (ending T Try.f111 an111 1 K) (fun _ _ => none) from by kernel_rfl) ?_
    rw [← S111_eq k, ← execS_eq T an111 (modesOf F) 1 k 140 (S111 k) (L111 k K) (bodyOf Try.f111) (cuts_of _ _ _ _ _ _ _ _ (bodyOf Try.f111) (l := [(1000012, sp111_1000012, cd111_1000012)]) (by kernel_rfl) ⟨l111_1000012 k K, trivial⟩)]
    kernel_rfl
noncomputable def s111 (k : Nat) (a : List PV) (r : List RowS) (K : List PV → List RowS → Option R) : Option R :=
  onShape [.agg [.val [] (.int .i64), .val [] (.int .i64), .val [] (.int .i64), .val [] (.int .i64), .val [] (.int .i64)], .ptr 1 0] [.vars [.val [] (.int .i64), .val [] (.int .i64), .val [] .str, .val [(0, 0)] (.slice (.int .u8)), .val [] (.int .i64), .val [(0, 0)] (.slice (.prod (.int .i64) (.prod (.int .i64) .unit))), .val [] (.int .i64), .val [] (.int .i64)]] (fun v => f111 k v.1.1.1 v.1.1.2.1 v.1.1.2.2.1 v.1.1.2.2.2.1 v.1.1.2.2.2.2.1 v.2.1.1 v.2.1.2.1 v.2.1.2.2.1 v.2.1.2.2.2.1 v.2.1.2.2.2.2.1 v.2.1.2.2.2.2.2.1 v.2.1.2.2.2.2.2.2.1 v.2.1.2.2.2.2.2.2.2.1 (fun z0 z1 z2 z3 z4 z5 z6 z7 z8 z9 z10 z11 z12 z13 z14 z15 => K [.agg [.val [] (.int .i64) z0, .val [] (.int .i64) z1, .val [] .str z2, .val [] (.int .i64) z3, .val [] (.int .i64) z4, .val [] (.int .i64) z5, .rw 2, .nils, .val [] .bool z6]] [⟨0, .vars [.val [] (.int .i64) z7, .val [] (.int .i64) z8, .val [] .str z9, .val [(0, 0)] (.slice (.int .u8)) z10, .val [] (.int .i64) z11, .val [(0, 0)] (.slice (.prod (.int .i64) (.prod (.int .i64) .unit))) z12, .val [] (.int .i64) z13, .val [] (.int .i64) z14]⟩, ⟨0, .arr [] (.int .u8) z15⟩])) (callC T F k 111 a r K) a r
theorem s111_eq (k : Nat) (a : List PV) (r : List RowS) (K : List PV → List RowS → Option R) : s111 k a r K = callC T F k 111 a r K := by
  unfold s111
  exact onShape_eq (a := [.agg [.val [] (.int .i64), .val [] (.int .i64), .val [] (.int .i64), .val [] (.int .i64), .val [] (.int .i64)], .ptr 1 0]) (b := [.vars [.val [] (.int .i64), .val [] (.int .i64), .val [] .str, .val [(0, 0)] (.slice (.int .u8)), .val [] (.int .i64), .val [(0, 0)] (.slice (.prod (.int .i64) (.prod (.int .i64) .unit))), .val [] (.int .i64), .val [] (.int .i64)]]) (G := fun a r => callC T F k 111 a r K) (fun x y => Eq.trans (by kernel_rfl) (Eq.trans (e111 k x.1.1 x.1.2.1 x.1.2.2.1 x.1.2.2.2.1 x.1.2.2.2.2.1 y.1.1 y.1.2.1 y.1.2.2.1 y.1.2.2.2.1 y.1.2.2.2.2.1 y.1.2.2.2.2.2.1 y.1.2.2.2.2.2.2.1 y.1.2.2.2.2.2.2.2.1 K).symm (by kernel_rfl))) a r
end
section
variable {R : Type}
noncomputable def S81 (k g : Nat) (a : List PV) (r : List RowS) (K : List PV → List RowS → Option R) : Option R := bif g == 110 then s110 k a r K else bif g == 111 then s111 k a r K else callC T F k g a r K
theorem S81_eq (k : Nat) : S81 (R := R) k = callC T F k := by
  funext g a r K
  exact pick_eq (fun e => by subst e; exact s110_eq k a r K) (pick_eq (fun e => by subst e; exact s111_eq k a r K) (rfl))
section
variable {R : Type} (k : Nat) (K : List PV → List RowS → Option R)
noncomputable def L81_1 (ws : List PV) (rs : List RowS) (N : St → Option R) (X : Nat → St → Option R) : Option R :=
  onShape [.ptr 1 0, .ptr 2 0, .ptr 3 0, .rw 4] [.vars [.val [] (.int .i64), .val [] (.int .i64), .val [] (.int .i64), .val [] (.int .i64), .val [] (.int .i64)], .vars [.val [] (.int .i64), .val [] (.int .i64), .val [] .str, .val [(0, 0)] (.slice (.int .u8)), .val [] (.int .i64), .val [(0, 0)] (.slice (.prod (.int .i64) (.prod (.int .i64) .unit))), .val [] (.int .i64), .val [] (.int .i64)], .vars [.val [] (.int .i64), .val [] (.int .i64), .val [] .str, .nils, .val [] (.int .i64), .nils, .val [] (.int .i64), .val [] (.int .i64)], .arr [] (.prod (.int .i64) (.prod (.int .i64) (.prod .str (.prod (.int .i64) (.prod (.int .i64) (.prod (.int .i64) (.prod (.slice (.int .u8)) (.prod (.slice (.prod (.int .i64) (.prod (.int .i64) .unit))) (.prod .bool .unit)))))))))] (fun v => f81_1 k (fun y1_0 y1_1 y1_2 y1_3 y1_4 y1_5 y1_6 y1_7 y1_14 => N (sh jn81_1 [.ptr 1 0, .ptr 2 0, .rw 3] [⟨0, .vars [.val [] (.int .i64) y1_0, .val [] (.int .i64) y1_1, .val [] .str y1_2, .val [(0, 0)] (.slice (.int .u8)) y1_3, .val [] (.int .i64) y1_4, .val [(0, 0)] (.slice (.prod (.int .i64) (.prod (.int .i64) .unit))) y1_5, .val [] (.int .i64) y1_6, .val [] (.int .i64) y1_7]⟩, ⟨0, .vars [.val [] (.int .i64) v.2.2.2.1.1, .val [] (.int .i64) v.2.2.2.1.2.1, .val [] .str v.2.2.2.1.2.2.1, .nils, .val [] (.int .i64) v.2.2.2.1.2.2.2.2.1, .nils, .val [] (.int .i64) v.2.2.2.1.2.2.2.2.2.2.1, .val [] (.int .i64) v.2.2.2.1.2.2.2.2.2.2.2.1]⟩, ⟨0, .arr [] (.prod (.int .i64) (.prod (.int .i64) (.prod .str (.prod (.int .i64) (.prod (.int .i64) (.prod (.int .i64) (.prod (.slice (.int .u8)) (.prod (.slice (.prod (.int .i64) (.prod (.int .i64) .unit))) (.prod .bool .unit))))))))) y1_14⟩])) v.2.1.1 v.2.1.2.1 v.2.1.2.2.1 v.2.1.2.2.2.1 v.2.1.2.2.2.2.1 v.2.2.2.1.1 v.2.2.2.1.2.1 v.2.2.2.1.2.2.1 v.2.2.2.1.2.2.2.2.1 v.2.2.2.1.2.2.2.2.2.2.1 v.2.2.2.1.2.2.2.2.2.2.2.1 k v.2.2.1.1 v.2.2.1.2.1 v.2.2.1.2.2.1 v.2.2.1.2.2.2.1 v.2.2.1.2.2.2.2.1 v.2.2.1.2.2.2.2.2.1 v.2.2.1.2.2.2.2.2.2.1 v.2.2.1.2.2.2.2.2.2.2.1 v.2.2.2.2.1) (inner T an81 (modesOf F) 0 k 66 (S81 k) (ending T Try.f81 an81 0 K) cd81_1 (sh sp81_1 ws rs) N X) ws rs
noncomputable def L81_1000014 (ws : List PV) (rs : List RowS) (N : St → Option R) (X : Nat → St → Option R) : Option R :=
  onShape [.ptr 1 0, .ptr 2 0, .ptr 3 0, .nils, .val [] .bool] [.vars [.val [] (.int .i64), .val [] (.int .i64), .val [] (.int .i64), .val [] (.int .i64), .val [] (.int .i64)], .vars [.val [] (.int .i64), .val [] (.int .i64), .val [] .str, .val [(0, 0)] (.slice (.int .u8)), .val [] (.int .i64), .val [(0, 0)] (.slice (.prod (.int .i64) (.prod (.int .i64) .unit))), .val [] (.int .i64), .val [] (.int .i64)], .vars [.val [] (.int .i64), .val [] (.int .i64), .val [] .str, .nils, .val [] (.int .i64), .nils, .val [] (.int .i64), .val [] (.int .i64)]] (fun v => f81_1000014 k (fun yN_0 yN_1 yN_2 yN_3 yN_4 yN_5 yN_6 yN_7 yN_14 => N (sh fi81_14 [.ptr 1 0, .ptr 2 0, .rw 3] [⟨0, .vars [.val [] (.int .i64) yN_0, .val [] (.int .i64) yN_1, .val [] .str yN_2, .val [(0, 0)] (.slice (.int .u8)) yN_3, .val [] (.int .i64) yN_4, .val [(0, 0)] (.slice (.prod (.int .i64) (.prod (.int .i64) .unit))) yN_5, .val [] (.int .i64) yN_6, .val [] (.int .i64) yN_7]⟩, ⟨0, .vars [.val [] (.int .i64) v.2.2.2.1.1, .val [] (.int .i64) v.2.2.2.1.2.1, .val [] .str v.2.2.2.1.2.2.1, .nils, .val [] (.int .i64) v.2.2.2.1.2.2.2.2.1, .nils, .val [] (.int .i64) v.2.2.2.1.2.2.2.2.2.2.1, .val [] (.int .i64) v.2.2.2.1.2.2.2.2.2.2.2.1]⟩, ⟨0, .arr [] (.prod (.int .i64) (.prod (.int .i64) (.prod .str (.prod (.int .i64) (.prod (.int .i64) (.prod (.int .i64) (.prod (.slice (.int .u8)) (.prod (.slice (.prod (.int .i64) (.prod (.int .i64) .unit))) (.prod .bool .unit))))))))) yN_14⟩])) v.1.2.2.2.2.1 v.2.1.1 v.2.1.2.1 v.2.1.2.2.1 v.2.1.2.2.2.1 v.2.1.2.2.2.2.1 v.2.2.1.1 v.2.2.1.2.1 v.2.2.1.2.2.1 v.2.2.1.2.2.2.1 v.2.2.1.2.2.2.2.1 v.2.2.1.2.2.2.2.2.1 v.2.2.1.2.2.2.2.2.2.1 v.2.2.1.2.2.2.2.2.2.2.1 v.2.2.2.1.1 v.2.2.2.1.2.1 v.2.2.2.1.2.2.1 v.2.2.2.1.2.2.2.2.1 v.2.2.2.1.2.2.2.2.2.2.1 v.2.2.2.1.2.2.2.2.2.2.2.1) (inner T an81 (modesOf F) 0 k 66 (S81 k) (ending T Try.f81 an81 0 K) cd81_1000014 (sh sp81_1000014 ws rs) N X) ws rs
noncomputable def L81 (id : Nat) (ws : List PV) (rs : List RowS) (N : St → Option R) (X : Nat → St → Option R) : Option R := bif id == 1 then L81_1 k K ws rs N X else bif id == 1000014 then L81_1000014 k K ws rs N X else none
theorem b81_1 (rec : St → Option R) (N : St → Option R) (X : Nat → St → Option R) (v1_0 : Int) (v1_1 : Int) (v1_2 : Int) (v1_3 : Int) (v1_4 : Int) (v1_13 : Int) (v1_14 : Int) (v1_15 : ByteArray) (v1_16 : Int) (v1_17 : Int) (v1_18 : Int) (v1_5 : Int) (v1_6 : Int) (v1_7 : ByteArray) (v1_8 : List Int) (v1_9 : Int) (v1_10 : List ((Int × (Int × Unit)))) (v1_11 : Int) (v1_12 : Int) (v1_19 : List (Int × (Int × (ByteArray × (Int × (Int × (Int × (List Int × (List ((Int × (Int × Unit))) × (Bool × Unit)))))))))) :
    execS T an81 (modesOf F) 0 k 66 (S81 k) (L81 k K) (ending T Try.f81 an81 0 K) bd81_1 (sh sp81_1 [.ptr 1 0, .ptr 2 0, .ptr 3 0, .rw 4] [⟨0, .vars [.val [] (.int .i64) v1_0, .val [] (.int .i64) v1_1, .val [] (.int .i64) v1_2, .val [] (.int .i64) v1_3, .val [] (.int .i64) v1_4]⟩, ⟨0, .vars [.val [] (.int .i64) v1_5, .val [] (.int .i64) v1_6, .val [] .str v1_7, .val [(0, 0)] (.slice (.int .u8)) v1_8, .val [] (.int .i64) v1_9, .val [(0, 0)] (.slice (.prod (.int .i64) (.prod (.int .i64) .unit))) v1_10, .val [] (.int .i64) v1_11, .val [] (.int .i64) v1_12]⟩, ⟨0, .vars [.val [] (.int .i64) v1_13, .val [] (.int .i64) v1_14, .val [] .str v1_15, .nils, .val [] (.int .i64) v1_16, .nils, .val [] (.int .i64) v1_17, .val [] (.int .i64) v1_18]⟩, ⟨0, .arr [] (.prod (.int .i64) (.prod (.int .i64) (.prod .str (.prod (.int .i64) (.prod (.int .i64) (.prod (.int .i64) (.prod (.slice (.int .u8)) (.prod (.slice (.prod (.int .i64) (.prod (.int .i64) .unit))) (.prod .bool .unit))))))))) v1_19⟩]) (fun st => atHead an81 0 bd81_1 st rec) (outX an81 0 1 N X) =
      f81_1b k (fun v1_5 v1_6 v1_7 v1_8 v1_9 v1_10 v1_11 v1_12 v1_19 => rec (sh sp81_1 [.ptr 1 0, .ptr 2 0, .ptr 3 0, .rw 4] [⟨0, .vars [.val [] (.int .i64) v1_0, .val [] (.int .i64) v1_1, .val [] (.int .i64) v1_2, .val [] (.int .i64) v1_3, .val [] (.int .i64) v1_4]⟩, ⟨0, .vars [.val [] (.int .i64) v1_5, .val [] (.int .i64) v1_6, .val [] .str v1_7, .val [(0, 0)] (.slice (.int .u8)) v1_8, .val [] (.int .i64) v1_9, .val [(0, 0)] (.slice (.prod (.int .i64) (.prod (.int .i64) .unit))) v1_10, .val [] (.int .i64) v1_11, .val [] (.int .i64) v1_12]⟩, ⟨0, .vars [.val [] (.int .i64) v1_13, .val [] (.int .i64) v1_14, .val [] .str v1_15, .nils, .val [] (.int .i64) v1_16, .nils, .val [] (.int .i64) v1_17, .val [] (.int .i64) v1_18]⟩, ⟨0, .arr [] (.prod (.int .i64) (.prod (.int .i64) (.prod .str (.prod (.int .i64) (.prod (.int .i64) (.prod (.int .i64) (.prod (.slice (.int .u8)) (.prod (.slice (.prod (.int .i64) (.prod (.int .i64) .unit))) (.prod .bool .unit))))))))) v1_19⟩])) (fun y1_0 y1_1 y1_2 y1_3 y1_4 y1_5 y1_6 y1_7 y1_14 => N (sh jn81_1 [.ptr 1 0, .ptr 2 0, .rw 3] [⟨0, .vars [.val [] (.int .i64) y1_0, .val [] (.int .i64) y1_1, .val [] .str y1_2, .val [(0, 0)] (.slice (.int .u8)) y1_3, .val [] (.int .i64) y1_4, .val [(0, 0)] (.slice (.prod (.int .i64) (.prod (.int .i64) .unit))) y1_5, .val [] (.int .i64) y1_6, .val [] (.int .i64) y1_7]⟩, ⟨0, .vars [.val [] (.int .i64) v1_13, .val [] (.int .i64) v1_14, .val [] .str v1_15, .nils, .val [] (.int .i64) v1_16, .nils, .val [] (.int .i64) v1_17, .val [] (.int .i64) v1_18]⟩, ⟨0, .arr [] (.prod (.int .i64) (.prod (.int .i64) (.prod .str (.prod (.int .i64) (.prod (.int .i64) (.prod (.int .i64) (.prod (.slice (.int .u8)) (.prod (.slice (.prod (.int .i64) (.prod (.int .i64) .unit))) (.prod .bool .unit))))))))) y1_14⟩])) v1_0 v1_1 v1_2 v1_3 v1_4 v1_13 v1_14 v1_15 v1_16 v1_17 v1_18 v1_5 v1_6 v1_7 v1_8 v1_9 v1_10 v1_11 v1_12 v1_19 := by kernel_rfl
theorem i81_1 (N : St → Option R) (X : Nat → St → Option R) (v1_0 : Int) (v1_1 : Int) (v1_2 : Int) (v1_3 : Int) (v1_4 : Int) (v1_13 : Int) (v1_14 : Int) (v1_15 : ByteArray) (v1_16 : Int) (v1_17 : Int) (v1_18 : Int) (m : Nat) : ∀ (v1_5 : Int) (v1_6 : Int) (v1_7 : ByteArray) (v1_8 : List Int) (v1_9 : Int) (v1_10 : List ((Int × (Int × Unit)))) (v1_11 : Int) (v1_12 : Int) (v1_19 : List (Int × (Int × (ByteArray × (Int × (Int × (Int × (List Int × (List ((Int × (Int × Unit))) × (Bool × Unit)))))))))),
    iter (atHead an81 0 bd81_1) m (fun st N' => exec T an81 (modesOf F) 0 k 66 (S81 k) (ending T Try.f81 an81 0 K) bd81_1 st N' (outX an81 0 1 N X)) (sh sp81_1 [.ptr 1 0, .ptr 2 0, .ptr 3 0, .rw 4] [⟨0, .vars [.val [] (.int .i64) v1_0, .val [] (.int .i64) v1_1, .val [] (.int .i64) v1_2, .val [] (.int .i64) v1_3, .val [] (.int .i64) v1_4]⟩, ⟨0, .vars [.val [] (.int .i64) v1_5, .val [] (.int .i64) v1_6, .val [] .str v1_7, .val [(0, 0)] (.slice (.int .u8)) v1_8, .val [] (.int .i64) v1_9, .val [(0, 0)] (.slice (.prod (.int .i64) (.prod (.int .i64) .unit))) v1_10, .val [] (.int .i64) v1_11, .val [] (.int .i64) v1_12]⟩, ⟨0, .vars [.val [] (.int .i64) v1_13, .val [] (.int .i64) v1_14, .val [] .str v1_15, .nils, .val [] (.int .i64) v1_16, .nils, .val [] (.int .i64) v1_17, .val [] (.int .i64) v1_18]⟩, ⟨0, .arr [] (.prod (.int .i64) (.prod (.int .i64) (.prod .str (.prod (.int .i64) (.prod (.int .i64) (.prod (.int .i64) (.prod (.slice (.int .u8)) (.prod (.slice (.prod (.int .i64) (.prod (.int .i64) .unit))) (.prod .bool .unit))))))))) v1_19⟩]) = f81_1d k (fun y1_0 y1_1 y1_2 y1_3 y1_4 y1_5 y1_6 y1_7 y1_14 => N (sh jn81_1 [.ptr 1 0, .ptr 2 0, .rw 3] [⟨0, .vars [.val [] (.int .i64) y1_0, .val [] (.int .i64) y1_1, .val [] .str y1_2, .val [(0, 0)] (.slice (.int .u8)) y1_3, .val [] (.int .i64) y1_4, .val [(0, 0)] (.slice (.prod (.int .i64) (.prod (.int .i64) .unit))) y1_5, .val [] (.int .i64) y1_6, .val [] (.int .i64) y1_7]⟩, ⟨0, .vars [.val [] (.int .i64) v1_13, .val [] (.int .i64) v1_14, .val [] .str v1_15, .nils, .val [] (.int .i64) v1_16, .nils, .val [] (.int .i64) v1_17, .val [] (.int .i64) v1_18]⟩, ⟨0, .arr [] (.prod (.int .i64) (.prod (.int .i64) (.prod .str (.prod (.int .i64) (.prod (.int .i64) (.prod (.int .i64) (.prod (.slice (.int .u8)) (.prod (.slice (.prod (.int .i64) (.prod (.int .i64) .unit))) (.prod .bool .unit))))))))) y1_14⟩])) v1_0 v1_1 v1_2 v1_3 v1_4 v1_13 v1_14 v1_15 v1_16 v1_17 v1_18 m v1_5 v1_6 v1_7 v1_8 v1_9 v1_10 v1_11 v1_12 v1_19 := by
  induction m with
  | zero => intros; rfl
  | succ m ih =>
    intro v1_5 v1_6 v1_7 v1_8 v1_9 v1_10 v1_11 v1_12 v1_19
    simp only [iter]
    rw [← execS_eq T an81 (modesOf F) 0 k 66 (S81 k) (L81 k K) bd81_1 (cuts_of _ _ _ _ _ _ _ _ bd81_1 (l := []) (by kernel_rfl) trivial)]
    refine (b81_1 k K _ N X v1_0 v1_1 v1_2 v1_3 v1_4 v1_13 v1_14 v1_15 v1_16 v1_17 v1_18 v1_5 v1_6 v1_7 v1_8 v1_9 v1_10 v1_11 v1_12 v1_19).trans ?_
    simp only [f81_1d, ih]
theorem l81_1 (ws : List PV) (rs : List RowS) (N : St → Option R) (X : Nat → St → Option R) : L81 k K 1 ws rs N X = inner T an81 (modesOf F) 0 k 66 (S81 k) (ending T Try.f81 an81 0 K) cd81_1 (sh sp81_1 ws rs) N X := by
  show L81_1 k K ws rs N X = _
  unfold L81_1
  rw [f81_1_def]
  exact onShape_eq (a := [.ptr 1 0, .ptr 2 0, .ptr 3 0, .rw 4]) (b := [.vars [.val [] (.int .i64), .val [] (.int .i64), .val [] (.int .i64), .val [] (.int .i64), .val [] (.int .i64)], .vars [.val [] (.int .i64), .val [] (.int .i64), .val [] .str, .val [(0, 0)] (.slice (.int .u8)), .val [] (.int .i64), .val [(0, 0)] (.slice (.prod (.int .i64) (.prod (.int .i64) .unit))), .val [] (.int .i64), .val [] (.int .i64)], .vars [.val [] (.int .i64), .val [] (.int .i64), .val [] .str, .nils, .val [] (.int .i64), .nils, .val [] (.int .i64), .val [] (.int .i64)], .arr [] (.prod (.int .i64) (.prod (.int .i64) (.prod .str (.prod (.int .i64) (.prod (.int .i64) (.prod (.int .i64) (.prod (.slice (.int .u8)) (.prod (.slice (.prod (.int .i64) (.prod (.int .i64) .unit))) (.prod .bool .unit)))))))))]) (G := fun ws rs => inner T an81 (modesOf F) 0 k 66 (S81 k) (ending T Try.f81 an81 0 K) cd81_1 (sh sp81_1 ws rs) N X) (fun x y => Eq.trans (by kernel_rfl) (Eq.trans (i81_1 k K N X y.1.1 y.1.2.1 y.1.2.2.1 y.1.2.2.2.1 y.1.2.2.2.2.1 y.2.2.1.1 y.2.2.1.2.1 y.2.2.1.2.2.1 y.2.2.1.2.2.2.2.1 y.2.2.1.2.2.2.2.2.2.1 y.2.2.1.2.2.2.2.2.2.2.1 k y.2.1.1 y.2.1.2.1 y.2.1.2.2.1 y.2.1.2.2.2.1 y.2.1.2.2.2.2.1 y.2.1.2.2.2.2.2.1 y.2.1.2.2.2.2.2.2.1 y.2.1.2.2.2.2.2.2.2.1 y.2.2.2.1).symm (by kernel_rfl))) ws rs
theorem l81_1000014 (ws : List PV) (rs : List RowS) (N : St → Option R) (X : Nat → St → Option R) : L81 k K 1000014 ws rs N X = inner T an81 (modesOf F) 0 k 66 (S81 k) (ending T Try.f81 an81 0 K) cd81_1000014 (sh sp81_1000014 ws rs) N X := by
  show L81_1000014 k K ws rs N X = _
  unfold L81_1000014
  rw [f81_1000014_def]
  exact onShape_eq (a := [.ptr 1 0, .ptr 2 0, .ptr 3 0, .nils, .val [] .bool]) (b := [.vars [.val [] (.int .i64), .val [] (.int .i64), .val [] (.int .i64), .val [] (.int .i64), .val [] (.int .i64)], .vars [.val [] (.int .i64), .val [] (.int .i64), .val [] .str, .val [(0, 0)] (.slice (.int .u8)), .val [] (.int .i64), .val [(0, 0)] (.slice (.prod (.int .i64) (.prod (.int .i64) .unit))), .val [] (.int .i64), .val [] (.int .i64)], .vars [.val [] (.int .i64), .val [] (.int .i64), .val [] .str, .nils, .val [] (.int .i64), .nils, .val [] (.int .i64), .val [] (.int .i64)]]) (G := fun ws rs => inner T an81 (modesOf F) 0 k 66 (S81 k) (ending T Try.f81 an81 0 K) cd81_1000014 (sh sp81_1000014 ws rs) N X) (fun x y => Eq.trans (by kernel_rfl) (innerS_eq T an81 (modesOf F) 0 k 66 (S81 k) (L81 k K) cd81_1000014 (l := [(1, sp81_1, cd81_1)]) (by kernel_rfl) ⟨l81_1 k K, trivial⟩ _ N X)) ws rs
end
theorem e81 (k : Nat) (a0 : Int) (a1 : Int) (a2 : Int) (a3 : Int) (a4 : Int) (a5 : Int) (a6 : Int) (a7 : ByteArray) (a8 : List Int) (a9 : Int) (a10 : List ((Int × (Int × Unit)))) (a11 : Int) (a12 : Int) (K : List PV → List RowS → Option R) : callC T F k 81 [.agg [.val [] (.int .i64) a0, .val [] (.int .i64) a1, .val [] (.int .i64) a2, .val [] (.int .i64) a3, .val [] (.int .i64) a4], .agg [.val [] (.int .i64) a5, .val [] (.int .i64) a6, .val [] .str a7, .val [(0, 0)] (.slice (.int .u8)) a8, .val [] (.int .i64) a9, .val [(0, 0)] (.slice (.prod (.int .i64) (.prod (.int .i64) .unit))) a10, .val [] (.int .i64) a11, .val [] (.int .i64) a12]] [] K = f81 k a0 a1 a2 a3 a4 a5 a6 a7 a8 a9 a10 a11 a12 (fun z0 z1 z2 z3 z4 z5 z6 z7 z8 => K [.agg [.val [] (.int .i64) z0, .val [] (.int .i64) z1, .val [] .str z2, .val [(0, 0)] (.slice (.int .u8)) z3, .val [] (.int .i64) z4, .val [(0, 0)] (.slice (.prod (.int .i64) (.prod (.int .i64) .unit))) z5, .val [] (.int .i64) z6, .val [] (.int .i64) z7], .rw 1] [⟨0, .arr [] (.prod (.int .i64) (.prod (.int .i64) (.prod .str (.prod (.int .i64) (.prod (.int .i64) (.prod (.int .i64) (.prod (.slice (.int .u8)) (.prod (.slice (.prod (.int .i64) (.prod (.int .i64) .unit))) (.prod .bool .unit))))))))) z8⟩]) := by
  rw [f81_def]
  cases k with
  | zero => rfl
  | succ k =>
    refine Eq.trans (show _ = exec T an81 (modesOf F) 0 k 66 (callC T F k) (ending T Try.f81 an81 0 K) (bodyOf Try.f81) ⟨argEnv 0 [.agg [.val [] (.int .i64) a0, .val [] (.int .i64) a1, .val [] (.int .i64) a2, .val [] (.int .i64) a3, .val [] (.int .i64) a4], .agg [.val [] (.int .i64) a5, .val [] (.int .i64) a6, .val [] .str a7, .val [(0, 0)] (.slice (.int .u8)) a8, .val [] (.int .i64) a9, .val [(0, 0)] (.slice (.prod (.int .i64) (.prod (.int .i64) .unit))) a10, .val [] (.int .i64) a11, .val [] (.int .i64) a12]] (fun _ => none), rowsOf []⟩ (ending T Try.f81 an81 0 K) (fun _ _ => none) from by kernel_rfl) ?_
    rw [← S81_eq k, ← execS_eq T an81 (modesOf F) 0 k 66 (S81 k) (L81 k K) (bodyOf Try.f81) (cuts_of _ _ _ _ _ _ _ _ (bodyOf Try.f81) (l := [(1000014, sp81_1000014, cd81_1000014)]) (by kernel_rfl) ⟨l81_1000014 k K, trivial⟩)]
    kernel_rfl
noncomputable def s81 (k : Nat) (a : List PV) (r : List RowS) (K : List PV → List RowS → Option R) : Option R :=
  onShape [.agg [.val [] (.int .i64), .val [] (.int .i64), .val [] (.int .i64), .val [] (.int .i64), .val [] (.int .i64)], .agg [.val [] (.int .i64), .val [] (.int .i64), .val [] .str, .val [(0, 0)] (.slice (.int .u8)), .val [] (.int .i64), .val [(0, 0)] (.slice (.prod (.int .i64) (.prod (.int .i64) .unit))), .val [] (.int .i64), .val [] (.int .i64)]] [] (fun v => f81 k v.1.1.1 v.1.1.2.1 v.1.1.2.2.1 v.1.1.2.2.2.1 v.1.1.2.2.2.2.1 v.1.2.1.1 v.1.2.1.2.1 v.1.2.1.2.2.1 v.1.2.1.2.2.2.1 v.1.2.1.2.2.2.2.1 v.1.2.1.2.2.2.2.2.1 v.1.2.1.2.2.2.2.2.2.1 v.1.2.1.2.2.2.2.2.2.2.1 (fun z0 z1 z2 z3 z4 z5 z6 z7 z8 => K [.agg [.val [] (.int .i64) z0, .val [] (.int .i64) z1, .val [] .str z2, .val [(0, 0)] (.slice (.int .u8)) z3, .val [] (.int .i64) z4, .val [(0, 0)] (.slice (.prod (.int .i64) (.prod (.int .i64) .unit))) z5, .val [] (.int .i64) z6, .val [] (.int .i64) z7], .rw 1] [⟨0, .arr [] (.prod (.int .i64) (.prod (.int .i64) (.prod .str (.prod (.int .i64) (.prod (.int .i64) (.prod (.int .i64) (.prod (.slice (.int .u8)) (.prod (.slice (.prod (.int .i64) (.prod (.int .i64) .unit))) (.prod .bool .unit))))))))) z8⟩])) (callC T F k 81 a r K) a r
theorem s81_eq (k : Nat) (a : List PV) (r : List RowS) (K : List PV → List RowS → Option R) : s81 k a r K = callC T F k 81 a r K := by
  unfold s81
  exact onShape_eq (a := [.agg [.val [] (.int .i64), .val [] (.int .i64), .val [] (.int .i64), .val [] (.int .i64), .val [] (.int .i64)], .agg [.val [] (.int .i64), .val [] (.int .i64), .val [] .str, .val [(0, 0)] (.slice (.int .u8)), .val [] (.int .i64), .val [(0, 0)] (.slice (.prod (.int .i64) (.prod (.int .i64) .unit))), .val [] (.int .i64), .val [] (.int .i64)]]) (b := []) (G := fun a r => callC T F k 81 a r K) (fun x y => Eq.trans (by kernel_rfl) (Eq.trans (e81 k x.1.1 x.1.2.1 x.1.2.2.1 x.1.2.2.2.1 x.1.2.2.2.2.1 x.2.1.1 x.2.1.2.1 x.2.1.2.2.1 x.2.1.2.2.2.1 x.2.1.2.2.2.2.1 x.2.1.2.2.2.2.2.1 x.2.1.2.2.2.2.2.2.1 x.2.1.2.2.2.2.2.2.2.1 K).symm (by kernel_rfl))) a r
end
section
variable {R : Type}
noncomputable def S28 (k g : Nat) (a : List PV) (r : List RowS) (K : List PV → List RowS → Option R) : Option R := bif g == 23 then s23 k a r K else bif g == 31 then s31 k a r K else bif g == 81 then s81 k a r K else callC T F k g a r K
theorem S28_eq (k : Nat) : S28 (R := R) k = callC T F k := by
  funext g a r K
  exact pick_eq (fun e => by subst e; exact s23_eq k a r K) (pick_eq (fun e => by subst e; exact s31_eq k a r K) (pick_eq (fun e => by subst e; exact s81_eq k a r K) (rfl)))
theorem e28 (k : Nat) (a0 : Int) (a1 : Int) (a2 : Int) (a3 : Int) (a4 : Int) (a5 : Int) (a6 : Int) (a7 : ByteArray) (a8 : List Int) (a9 : Int) (a10 : List ((Int × (Int × Unit)))) (a11 : Int) (a12 : Int) (K : List PV → List RowS → Option R) : callC T F k 28 [.agg [.val [] (.int .i64) a0, .val [] (.int .i64) a1, .val [] (.int .i64) a2, .val [] (.int .i64) a3, .val [] (.int .i64) a4], .agg [.val [] (.int .i64) a5, .val [] (.int .i64) a6, .val [] .str a7, .val [(0, 0)] (.slice (.int .u8)) a8, .val [] (.int .i64) a9, .val [(0, 0)] (.slice (.prod (.int .i64) (.prod (.int .i64) .unit))) a10, .val [] (.int .i64) a11, .val [] (.int .i64) a12]] [] K = f28 k a0 a1 a2 a3 a4 a5 a6 a7 a8 a9 a10 a11 a12 (fun z0 z1 z2 z3 z4 z5 z6 z7 z8 z9 => K [.agg [.val [] (.int .i64) z0, .val [] (.int .i64) z1, .val [] .str z2, .val [(0, 0)] (.slice (.int .u8)) z3, .val [] (.int .i64) z4, .val [(0, 0)] (.slice (.prod (.int .i64) (.prod (.int .i64) .unit))) z5, .val [] (.int .i64) z6, .val [] (.int .i64) z7], .rw 1, .val [] (.int .i64) z8] [⟨0, .arr [] (.prod (.int .i64) (.prod (.int .i64) (.prod .str (.prod (.int .i64) (.prod (.int .i64) (.prod (.int .i64) (.prod (.slice (.int .u8)) (.prod (.slice (.prod (.int .i64) (.prod (.int .i64) .unit))) (.prod .bool .unit))))))))) z9⟩]) := by
  rw [f28_def]
  cases k with
  | zero => rfl
  | succ k =>
    refine Eq.trans (show _ = exec T an28 (modesOf F) 0 k 31 (callC T F k) (ending T Try.f28 an28 0 K) (bodyOf Try.f28) ⟨argEnv 0 [.agg [.val [] (.int .i64) a0, .val [] (.int .i64) a1, .val [] (.int .i64) a2, .val [] (.int .i64) a3, .val [] (.int .i64) a4], .agg [.val [] (.int .i64) a5, .val [] (.int .i64) a6, .val [] .str a7, .val [(0, 0)] (.slice (.int .u8)) a8, .val [] (.int .i64) a9, .val [(0, 0)] (.slice (.prod (.int .i64) (.prod (.int .i64) .unit))) a10, .val [] (.int .i64) a11, .val [] (.int .i64) a12]] (fun _ => none), rowsOf []⟩ (ending T Try.f28 an28 0 K) (fun _ _ => none) from by kernel_rfl) ?_
    rw [← S28_eq k, ← execS_eq T an28 (modesOf F) 0 k 31 (S28 k) (fun _ _ _ _ _ => none) (bodyOf Try.f28) (cuts_of _ _ _ _ _ _ _ _ (bodyOf Try.f28) (l := []) (by kernel_rfl) trivial)]
    kernel_rfl
noncomputable def s28 (k : Nat) (a : List PV) (r : List RowS) (K : List PV → List RowS → Option R) : Option R :=
  onShape [.agg [.val [] (.int .i64), .val [] (.int .i64), .val [] (.int .i64), .val [] (.int .i64), .val [] (.int .i64)], .agg [.val [] (.int .i64), .val [] (.int .i64), .val [] .str, .val [(0, 0)] (.slice (.int .u8)), .val [] (.int .i64), .val [(0, 0)] (.slice (.prod (.int .i64) (.prod (.int .i64) .unit))), .val [] (.int .i64), .val [] (.int .i64)]] [] (fun v => f28 k v.1.1.1 v.1.1.2.1 v.1.1.2.2.1 v.1.1.2.2.2.1 v.1.1.2.2.2.2.1 v.1.2.1.1 v.1.2.1.2.1 v.1.2.1.2.2.1 v.1.2.1.2.2.2.1 v.1.2.1.2.2.2.2.1 v.1.2.1.2.2.2.2.2.1 v.1.2.1.2.2.2.2.2.2.1 v.1.2.1.2.2.2.2.2.2.2.1 (fun z0 z1 z2 z3 z4 z5 z6 z7 z8 z9 => K [.agg [.val [] (.int .i64) z0, .val [] (.int .i64) z1, .val [] .str z2, .val [(0, 0)] (.slice (.int .u8)) z3, .val [] (.int .i64) z4, .val [(0, 0)] (.slice (.prod (.int .i64) (.prod (.int .i64) .unit))) z5, .val [] (.int .i64) z6, .val [] (.int .i64) z7], .rw 1, .val [] (.int .i64) z8] [⟨0, .arr [] (.prod (.int .i64) (.prod (.int .i64) (.prod .str (.prod (.int .i64) (.prod (.int .i64) (.prod (.int .i64) (.prod (.slice (.int .u8)) (.prod (.slice (.prod (.int .i64) (.prod (.int .i64) .unit))) (.prod .bool .unit))))))))) z9⟩])) (callC T F k 28 a r K) a r
theorem s28_eq (k : Nat) (a : List PV) (r : List RowS) (K : List PV → List RowS → Option R) : s28 k a r K = callC T F k 28 a r K := by
  unfold s28
  exact onShape_eq (a := [.agg [.val [] (.int .i64), .val [] (.int .i64), .val [] (.int .i64), .val [] (.int .i64), .val [] (.int .i64)], .agg [.val [] (.int .i64), .val [] (.int .i64), .val [] .str, .val [(0, 0)] (.slice (.int .u8)), .val [] (.int .i64), .val [(0, 0)] (.slice (.prod (.int .i64) (.prod (.int .i64) .unit))), .val [] (.int .i64), .val [] (.int .i64)]]) (b := []) (G := fun a r => callC T F k 28 a r K) (fun x y => Eq.trans (by kernel_rfl) (Eq.trans (e28 k x.1.1 x.1.2.1 x.1.2.2.1 x.1.2.2.2.1 x.1.2.2.2.2.1 x.2.1.1 x.2.1.2.1 x.2.1.2.2.1 x.2.1.2.2.2.1 x.2.1.2.2.2.2.1 x.2.1.2.2.2.2.2.1 x.2.1.2.2.2.2.2.2.1 x.2.1.2.2.2.2.2.2.2.1 K).symm (by kernel_rfl))) a r
end
section
variable {R : Type}
noncomputable def S51 (k g : Nat) (a : List PV) (r : List RowS) (K : List PV → List RowS → Option R) : Option R := callC T F k g a r K
theorem S51_eq (k : Nat) : S51 (R := R) k = callC T F k := by
  funext g a r K
  exact rfl
theorem e51 (k : Nat) (a0 : List Int) (a1 : List Int) (K : List PV → List RowS → Option R) : callC T F k 51 [.val [(0, 0)] (.slice (.int .u8)) a0, .val [(0, 0)] (.slice (.int .u8)) a1] [] K = f51 k a0 a1 (fun z0 => K [.val [] .bool z0] []) := by
  rw [f51_def]
  cases k with
  | zero => rfl
  | succ k =>
    refine Eq.trans (show _ = exec T an51 (modesOf F) 0 k 10 (callC T F k) (ending T Try.f51 an51 0 K) (bodyOf Try.f51) ⟨argEnv 0 [.val [(0, 0)] (.slice (.int .u8)) a0, .val [(0, 0)] (.slice (.int .u8)) a1] (fun _ => none), rowsOf []⟩ (ending T Try.f51 an51 0 K) (fun _ _ => none) from by kernel_rfl) ?_
    rw [← S51_eq k, ← execS_eq T an51 (modesOf F) 0 k 10 (S51 k) (fun _ _ _ _ _ => none) (bodyOf Try.f51) (cuts_of _ _ _ _ _ _ _ _ (bodyOf Try.f51) (l := []) (by kernel_rfl) trivial)]
    kernel_rfl
noncomputable def s51 (k : Nat) (a : List PV) (r : List RowS) (K : List PV → List RowS → Option R) : Option R :=
  onShape [.val [(0, 0)] (.slice (.int .u8)), .val [(0, 0)] (.slice (.int .u8))] [] (fun v => f51 k v.1.1 v.1.2.1 (fun z0 => K [.val [] .bool z0] [])) (callC T F k 51 a r K) a r
theorem s51_eq (k : Nat) (a : List PV) (r : List RowS) (K : List PV → List RowS → Option R) : s51 k a r K = callC T F k 51 a r K := by
  unfold s51
  exact onShape_eq (a := [.val [(0, 0)] (.slice (.int .u8)), .val [(0, 0)] (.slice (.int .u8))]) (b := []) (G := fun a r => callC T F k 51 a r K) (fun x y => Eq.trans (by kernel_rfl) (Eq.trans (e51 k x.1 x.2.1 K).symm (by kernel_rfl))) a r
end
section
variable {R : Type}
noncomputable def S40 (k g : Nat) (a : List PV) (r : List RowS) (K : List PV → List RowS → Option R) : Option R := callC T F k g a r K
theorem S40_eq (k : Nat) : S40 (R := R) k = callC T F k := by
  funext g a r K
  exact rfl
section
variable {R : Type} (k : Nat) (K : List PV → List RowS → Option R)
noncomputable def L40_0 (ws : List PV) (rs : List RowS) (N : St → Option R) (X : Nat → St → Option R) : Option R :=
  onShape [.val [(0, 0)] (.slice (.prod (.int .i64) (.prod (.int .i64) .unit))), .val [(0, 0)] (.slice (.prod (.int .i64) (.prod (.int .i64) .unit))), .val [] (.int .i64), .val [] (.int .i64)] [] (fun v => f40_0 k (fun z0 => K [.val [] .bool z0] []) (N (sh jn40_0 [] [])) v.1.1 v.1.2.1 v.1.2.2.1 k v.1.2.2.2.1) (inner T an40 (modesOf F) 0 k 26 (S40 k) (ending T Try.f40 an40 0 K) cd40_0 (sh sp40_0 ws rs) N X) ws rs
noncomputable def L40 (id : Nat) (ws : List PV) (rs : List RowS) (N : St → Option R) (X : Nat → St → Option R) : Option R := bif id == 0 then L40_0 k K ws rs N X else none
theorem b40_0 (rec : St → Option R) (N : St → Option R) (X : Nat → St → Option R) (v0_0 : List ((Int × (Int × Unit)))) (v0_1 : List ((Int × (Int × Unit)))) (v0_2 : Int) (v0_3 : Int) :
    execS T an40 (modesOf F) 0 k 26 (S40 k) (L40 k K) (ending T Try.f40 an40 0 K) bd40_0 (sh sp40_0 [.val [(0, 0)] (.slice (.prod (.int .i64) (.prod (.int .i64) .unit))) v0_0, .val [(0, 0)] (.slice (.prod (.int .i64) (.prod (.int .i64) .unit))) v0_1, .val [] (.int .i64) v0_2, .val [] (.int .i64) v0_3] []) (fun st => atHead an40 0 bd40_0 st rec) (outX an40 0 0 N X) =
      f40_0b k (fun v0_3 => rec (sh sp40_0 [.val [(0, 0)] (.slice (.prod (.int .i64) (.prod (.int .i64) .unit))) v0_0, .val [(0, 0)] (.slice (.prod (.int .i64) (.prod (.int .i64) .unit))) v0_1, .val [] (.int .i64) v0_2, .val [] (.int .i64) v0_3] [])) (fun z0 => K [.val [] .bool z0] []) (N (sh jn40_0 [] [])) v0_0 v0_1 v0_2 v0_3 := by kernel_rfl
theorem i40_0 (N : St → Option R) (X : Nat → St → Option R) (v0_0 : List ((Int × (Int × Unit)))) (v0_1 : List ((Int × (Int × Unit)))) (v0_2 : Int) (m : Nat) : ∀ (v0_3 : Int),
    iter (atHead an40 0 bd40_0) m (fun st N' => exec T an40 (modesOf F) 0 k 26 (S40 k) (ending T Try.f40 an40 0 K) bd40_0 st N' (outX an40 0 0 N X)) (sh sp40_0 [.val [(0, 0)] (.slice (.prod (.int .i64) (.prod (.int .i64) .unit))) v0_0, .val [(0, 0)] (.slice (.prod (.int .i64) (.prod (.int .i64) .unit))) v0_1, .val [] (.int .i64) v0_2, .val [] (.int .i64) v0_3] []) = f40_0d k (fun z0 => K [.val [] .bool z0] []) (N (sh jn40_0 [] [])) v0_0 v0_1 v0_2 m v0_3 := by
  induction m with
  | zero => intros; rfl
  | succ m ih =>
    intro v0_3
    simp only [iter]
    rw [← execS_eq T an40 (modesOf F) 0 k 26 (S40 k) (L40 k K) bd40_0 (cuts_of _ _ _ _ _ _ _ _ bd40_0 (l := []) (by kernel_rfl) trivial)]
    refine (b40_0 k K _ N X v0_0 v0_1 v0_2 v0_3).trans ?_
    simp only [f40_0d, ih]
theorem l40_0 (ws : List PV) (rs : List RowS) (N : St → Option R) (X : Nat → St → Option R) : L40 k K 0 ws rs N X = inner T an40 (modesOf F) 0 k 26 (S40 k) (ending T Try.f40 an40 0 K) cd40_0 (sh sp40_0 ws rs) N X := by
  show L40_0 k K ws rs N X = _
  unfold L40_0
  rw [f40_0_def]
  exact onShape_eq (a := [.val [(0, 0)] (.slice (.prod (.int .i64) (.prod (.int .i64) .unit))), .val [(0, 0)] (.slice (.prod (.int .i64) (.prod (.int .i64) .unit))), .val [] (.int .i64), .val [] (.int .i64)]) (b := []) (G := fun ws rs => inner T an40 (modesOf F) 0 k 26 (S40 k) (ending T Try.f40 an40 0 K) cd40_0 (sh sp40_0 ws rs) N X) (fun x y => Eq.trans (by kernel_rfl) (Eq.trans (i40_0 k K N X x.1 x.2.1 x.2.2.1 k x.2.2.2.1).symm (by kernel_rfl))) ws rs
end
theorem e40 (k : Nat) (a0 : List ((Int × (Int × Unit)))) (a1 : List ((Int × (Int × Unit)))) (K : List PV → List RowS → Option R) : callC T F k 40 [.val [(0, 0)] (.slice (.prod (.int .i64) (.prod (.int .i64) .unit))) a0, .val [(0, 0)] (.slice (.prod (.int .i64) (.prod (.int .i64) .unit))) a1] [] K = f40 k a0 a1 (fun z0 => K [.val [] .bool z0] []) := by
  rw [f40_def]
  cases k with
  | zero => rfl
  | succ k =>
    refine Eq.trans (show _ = exec T an40 (modesOf F) 0 k 26 (callC T F k) (ending T Try.f40 an40 0 K) (bodyOf Try.f40) ⟨argEnv 0 [.val [(0, 0)] (.slice (.prod (.int .i64) (.prod (.int .i64) .unit))) a0, .val [(0, 0)] (.slice (.prod (.int .i64) (.prod (.int .i64) .unit))) a1] (fun _ => none), rowsOf []⟩ (ending T Try.f40 an40 0 K) (fun _ _ => none) from by kernel_rfl) ?_
    rw [← S40_eq k, ← execS_eq T an40 (modesOf F) 0 k 26 (S40 k) (L40 k K) (bodyOf Try.f40) (cuts_of _ _ _ _ _ _ _ _ (bodyOf Try.f40) (l := [(0, sp40_0, cd40_0)]) (by kernel_rfl) ⟨l40_0 k K, trivial⟩)]
    kernel_rfl
noncomputable def s40 (k : Nat) (a : List PV) (r : List RowS) (K : List PV → List RowS → Option R) : Option R :=
  onShape [.val [(0, 0)] (.slice (.prod (.int .i64) (.prod (.int .i64) .unit))), .val [(0, 0)] (.slice (.prod (.int .i64) (.prod (.int .i64) .unit)))] [] (fun v => f40 k v.1.1 v.1.2.1 (fun z0 => K [.val [] .bool z0] [])) (callC T F k 40 a r K) a r
theorem s40_eq (k : Nat) (a : List PV) (r : List RowS) (K : List PV → List RowS → Option R) : s40 k a r K = callC T F k 40 a r K := by
  unfold s40
  exact onShape_eq (a := [.val [(0, 0)] (.slice (.prod (.int .i64) (.prod (.int .i64) .unit))), .val [(0, 0)] (.slice (.prod (.int .i64) (.prod (.int .i64) .unit)))]) (b := []) (G := fun a r => callC T F k 40 a r K) (fun x y => Eq.trans (by kernel_rfl) (Eq.trans (e40 k x.1 x.2.1 K).symm (by kernel_rfl))) a r
end
section
variable {R : Type}
noncomputable def S29 (k g : Nat) (a : List PV) (r : List RowS) (K : List PV → List RowS → Option R) : Option R := bif g == 40 then s40 k a r K else bif g == 51 then s51 k a r K else callC T F k g a r K
theorem S29_eq (k : Nat) : S29 (R := R) k = callC T F k := by
  funext g a r K
  exact pick_eq (fun e => by subst e; exact s40_eq k a r K) (pick_eq (fun e => by subst e; exact s51_eq k a r K) (rfl))
theorem e29 (k : Nat) (a0 : Int) (a1 : Int) (a2 : ByteArray) (a3 : List Int) (a4 : Int) (a5 : List ((Int × (Int × Unit)))) (a6 : Int) (a7 : Int) (a8 : Int) (a9 : Int) (a10 : ByteArray) (a11 : List Int) (a12 : Int) (a13 : List ((Int × (Int × Unit)))) (a14 : Int) (a15 : Int) (K : List PV → List RowS → Option R) : callC T F k 29 [.agg [.val [] (.int .i64) a0, .val [] (.int .i64) a1, .val [] .str a2, .val [(0, 0)] (.slice (.int .u8)) a3, .val [] (.int .i64) a4, .val [(0, 0)] (.slice (.prod (.int .i64) (.prod (.int .i64) .unit))) a5, .val [] (.int .i64) a6, .val [] (.int .i64) a7], .agg [.val [] (.int .i64) a8, .val [] (.int .i64) a9, .val [] .str a10, .val [(0, 0)] (.slice (.int .u8)) a11, .val [] (.int .i64) a12, .val [(0, 0)] (.slice (.prod (.int .i64) (.prod (.int .i64) .unit))) a13, .val [] (.int .i64) a14, .val [] (.int .i64) a15]] [] K = f29 k a0 a1 a2 a3 a4 a5 a6 a7 a8 a9 a10 a11 a12 a13 a14 a15 (fun z0 => K [.val [] .bool z0] []) := by
  rw [f29_def]
  cases k with
  | zero => rfl
  | succ k =>
    refine Eq.trans (show _ = exec T an29 (modesOf F) 0 k 59 (callC T F k) (ending T Try.f29 an29 0 K) (bodyOf Try.f29) ⟨argEnv 0 [.agg [.val [] (.int .i64) a0, .val [] (.int .i64) a1, .val [] .str a2, .val [(0, 0)] (.slice (.int .u8)) a3, .val [] (.int .i64) a4, .val [(0, 0)] (.slice (.prod (.int .i64) (.prod (.int .i64) .unit))) a5, .val [] (.int .i64) a6, .val [] (.int .i64) a7], .agg [.val [] (.int .i64) a8, .val [] (.int .i64) a9, .val [] .str a10, .val [(0, 0)] (.slice (.int .u8)) a11, .val [] (.int .i64) a12, .val [(0, 0)] (.slice (.prod (.int .i64) (.prod (.int .i64) .unit))) a13, .val [] (.int .i64) a14, .val [] (.int .i64) a15]] (fun _ => none), rowsOf []⟩ (ending T Try.f29 an29 0 K) (fun _ _ => none) from by kernel_rfl) ?_
    rw [← S29_eq k, ← execS_eq T an29 (modesOf F) 0 k 59 (S29 k) (fun _ _ _ _ _ => none) (bodyOf Try.f29) (cuts_of _ _ _ _ _ _ _ _ (bodyOf Try.f29) (l := []) (by kernel_rfl) trivial)]
    kernel_rfl
noncomputable def s29 (k : Nat) (a : List PV) (r : List RowS) (K : List PV → List RowS → Option R) : Option R :=
  onShape [.agg [.val [] (.int .i64), .val [] (.int .i64), .val [] .str, .val [(0, 0)] (.slice (.int .u8)), .val [] (.int .i64), .val [(0, 0)] (.slice (.prod (.int .i64) (.prod (.int .i64) .unit))), .val [] (.int .i64), .val [] (.int .i64)], .agg [.val [] (.int .i64), .val [] (.int .i64), .val [] .str, .val [(0, 0)] (.slice (.int .u8)), .val [] (.int .i64), .val [(0, 0)] (.slice (.prod (.int .i64) (.prod (.int .i64) .unit))), .val [] (.int .i64), .val [] (.int .i64)]] [] (fun v => f29 k v.1.1.1 v.1.1.2.1 v.1.1.2.2.1 v.1.1.2.2.2.1 v.1.1.2.2.2.2.1 v.1.1.2.2.2.2.2.1 v.1.1.2.2.2.2.2.2.1 v.1.1.2.2.2.2.2.2.2.1 v.1.2.1.1 v.1.2.1.2.1 v.1.2.1.2.2.1 v.1.2.1.2.2.2.1 v.1.2.1.2.2.2.2.1 v.1.2.1.2.2.2.2.2.1 v.1.2.1.2.2.2.2.2.2.1 v.1.2.1.2.2.2.2.2.2.2.1 (fun z0 => K [.val [] .bool z0] [])) (callC T F k 29 a r K) a r
theorem s29_eq (k : Nat) (a : List PV) (r : List RowS) (K : List PV → List RowS → Option R) : s29 k a r K = callC T F k 29 a r K := by
  unfold s29
  exact onShape_eq (a := [.agg [.val [] (.int .i64), .val [] (.int .i64), .val [] .str, .val [(0, 0)] (.slice (.int .u8)), .val [] (.int .i64), .val [(0, 0)] (.slice (.prod (.int .i64) (.prod (.int .i64) .unit))), .val [] (.int .i64), .val [] (.int .i64)], .agg [.val [] (.int .i64), .val [] (.int .i64), .val [] .str, .val [(0, 0)] (.slice (.int .u8)), .val [] (.int .i64), .val [(0, 0)] (.slice (.prod (.int .i64) (.prod (.int .i64) .unit))), .val [] (.int .i64), .val [] (.int .i64)]]) (b := []) (G := fun a r => callC T F k 29 a r K) (fun x y => Eq.trans (by kernel_rfl) (Eq.trans (e29 k x.1.1 x.1.2.1 x.1.2.2.1 x.1.2.2.2.1 x.1.2.2.2.2.1 x.1.2.2.2.2.2.1 x.1.2.2.2.2.2.2.1 x.1.2.2.2.2.2.2.2.1 x.2.1.1 x.2.1.2.1 x.2.1.2.2.1 x.2.1.2.2.2.1 x.2.1.2.2.2.2.1 x.2.1.2.2.2.2.2.1 x.2.1.2.2.2.2.2.2.1 x.2.1.2.2.2.2.2.2.2.1 K).symm (by kernel_rfl))) a r
end
section
variable {R : Type}
noncomputable def S33 (k g : Nat) (a : List PV) (r : List RowS) (K : List PV → List RowS → Option R) : Option R := bif g == 40 then s40 k a r K else bif g == 51 then s51 k a r K else callC T F k g a r K
theorem S33_eq (k : Nat) : S33 (R := R) k = callC T F k := by
  funext g a r K
  exact pick_eq (fun e => by subst e; exact s40_eq k a r K) (pick_eq (fun e => by subst e; exact s51_eq k a r K) (rfl))
theorem e33 (k : Nat) (a0 : Int) (a1 : Int) (a2 : ByteArray) (a3 : Int) (a4 : Int) (a5 : Int) (a6 : List Int) (a7 : List ((Int × (Int × Unit)))) (a8 : Bool) (a9 : Int) (a10 : Int) (a11 : ByteArray) (a12 : Int) (a13 : Int) (a14 : Int) (a15 : List Int) (a16 : List ((Int × (Int × Unit)))) (a17 : Bool) (K : List PV → List RowS → Option R) : callC T F k 33 [.agg [.val [] (.int .i64) a0, .val [] (.int .i64) a1, .val [] .str a2, .val [] (.int .i64) a3, .val [] (.int .i64) a4, .val [] (.int .i64) a5, .val [(0, 0)] (.slice (.int .u8)) a6, .val [(0, 0)] (.slice (.prod (.int .i64) (.prod (.int .i64) .unit))) a7, .val [] .bool a8], .agg [.val [] (.int .i64) a9, .val [] (.int .i64) a10, .val [] .str a11, .val [] (.int .i64) a12, .val [] (.int .i64) a13, .val [] (.int .i64) a14, .val [(0, 0)] (.slice (.int .u8)) a15, .val [(0, 0)] (.slice (.prod (.int .i64) (.prod (.int .i64) .unit))) a16, .val [] .bool a17]] [] K = f33 k a0 a1 a2 a3 a4 a5 a6 a7 a8 a9 a10 a11 a12 a13 a14 a15 a16 a17 (fun z0 => K [.val [] .bool z0] []) := by
  rw [f33_def]
  cases k with
  | zero => rfl
  | succ k =>
    refine Eq.trans (show _ = exec T an33 (modesOf F) 0 k 66 (callC T F k) (ending T Try.f33 an33 0 K) (bodyOf Try.f33) ⟨argEnv 0 [.agg [.val [] (.int .i64) a0, .val [] (.int .i64) a1, .val [] .str a2, .val [] (.int .i64) a3, .val [] (.int .i64) a4, .val [] (.int .i64) a5, .val [(0, 0)] (.slice (.int .u8)) a6, .val [(0, 0)] (.slice (.prod (.int .i64) (.prod (.int .i64) .unit))) a7, .val [] .bool a8], .agg [.val [] (.int .i64) a9, .val [] (.int .i64) a10, .val [] .str a11, .val [] (.int .i64) a12, .val [] (.int .i64) a13, .val [] (.int .i64) a14, .val [(0, 0)] (.slice (.int .u8)) a15, .val [(0, 0)] (.slice (.prod (.int .i64) (.prod (.int .i64) .unit))) a16, .val [] .bool a17]] (fun _ => none), rowsOf []⟩ (ending T Try.f33 an33 0 K) (fun _ _ => none) from by kernel_rfl) ?_
    rw [← S33_eq k, ← execS_eq T an33 (modesOf F) 0 k 66 (S33 k) (fun _ _ _ _ _ => none) (bodyOf Try.f33) (cuts_of _ _ _ _ _ _ _ _ (bodyOf Try.f33) (l := []) (by kernel_rfl) trivial)]
    kernel_rfl
noncomputable def s33 (k : Nat) (a : List PV) (r : List RowS) (K : List PV → List RowS → Option R) : Option R :=
  onShape [.agg [.val [] (.int .i64), .val [] (.int .i64), .val [] .str, .val [] (.int .i64), .val [] (.int .i64), .val [] (.int .i64), .val [(0, 0)] (.slice (.int .u8)), .val [(0, 0)] (.slice (.prod (.int .i64) (.prod (.int .i64) .unit))), .val [] .bool], .agg [.val [] (.int .i64), .val [] (.int .i64), .val [] .str, .val [] (.int .i64), .val [] (.int .i64), .val [] (.int .i64), .val [(0, 0)] (.slice (.int .u8)), .val [(0, 0)] (.slice (.prod (.int .i64) (.prod (.int .i64) .unit))), .val [] .bool]] [] (fun v => f33 k v.1.1.1 v.1.1.2.1 v.1.1.2.2.1 v.1.1.2.2.2.1 v.1.1.2.2.2.2.1 v.1.1.2.2.2.2.2.1 v.1.1.2.2.2.2.2.2.1 v.1.1.2.2.2.2.2.2.2.1 v.1.1.2.2.2.2.2.2.2.2.1 v.1.2.1.1 v.1.2.1.2.1 v.1.2.1.2.2.1 v.1.2.1.2.2.2.1 v.1.2.1.2.2.2.2.1 v.1.2.1.2.2.2.2.2.1 v.1.2.1.2.2.2.2.2.2.1 v.1.2.1.2.2.2.2.2.2.2.1 v.1.2.1.2.2.2.2.2.2.2.2.1 (fun z0 => K [.val [] .bool z0] [])) (callC T F k 33 a r K) a r
theorem s33_eq (k : Nat) (a : List PV) (r : List RowS) (K : List PV → List RowS → Option R) : s33 k a r K = callC T F k 33 a r K := by
  unfold s33
  exact onShape_eq (a := [.agg [.val [] (.int .i64), .val [] (.int .i64), .val [] .str, .val [] (.int .i64), .val [] (.int .i64), .val [] (.int .i64), .val [(0, 0)] (.slice (.int .u8)), .val [(0, 0)] (.slice (.prod (.int .i64) (.prod (.int .i64) .unit))), .val [] .bool], .agg [.val [] (.int .i64), .val [] (.int .i64), .val [] .str, .val [] (.int .i64), .val [] (.int .i64), .val [] (.int .i64), .val [(0, 0)] (.slice (.int .u8)), .val [(0, 0)] (.slice (.prod (.int .i64) (.prod (.int .i64) .unit))), .val [] .bool]]) (b := []) (G := fun a r => callC T F k 33 a r K) (fun x y => Eq.trans (by kernel_rfl) (Eq.trans (e33 k x.1.1 x.1.2.1 x.1.2.2.1 x.1.2.2.2.1 x.1.2.2.2.2.1 x.1.2.2.2.2.2.1 x.1.2.2.2.2.2.2.1 x.1.2.2.2.2.2.2.2.1 x.1.2.2.2.2.2.2.2.2.1 x.2.1.1 x.2.1.2.1 x.2.1.2.2.1 x.2.1.2.2.2.1 x.2.1.2.2.2.2.1 x.2.1.2.2.2.2.2.1 x.2.1.2.2.2.2.2.2.1 x.2.1.2.2.2.2.2.2.2.1 x.2.1.2.2.2.2.2.2.2.2.1 K).symm (by kernel_rfl))) a r
end
section
variable {R : Type}
noncomputable def S32 (k g : Nat) (a : List PV) (r : List RowS) (K : List PV → List RowS → Option R) : Option R := bif g == 33 then s33 k a r K else callC T F k g a r K
theorem S32_eq (k : Nat) : S32 (R := R) k = callC T F k := by
  funext g a r K
  exact pick_eq (fun e => by subst e; exact s33_eq k a r K) (rfl)
section
variable {R : Type} (k : Nat) (K : List PV → List RowS → Option R)
noncomputable def L32_0 (ws : List PV) (rs : List RowS) (N : St → Option R) (X : Nat → St → Option R) : Option R :=
  onShape [.val [(0, 0)] (.slice (.prod (.int .i64) (.prod (.int .i64) (.prod .str (.prod (.int .i64) (.prod (.int .i64) (.prod (.int .i64) (.prod (.slice (.int .u8)) (.prod (.slice (.prod (.int .i64) (.prod (.int .i64) .unit))) (.prod .bool .unit)))))))))), .fn 33 [], .val [(0, 0)] (.slice (.prod (.int .i64) (.prod (.int .i64) (.prod .str (.prod (.int .i64) (.prod (.int .i64) (.prod (.int .i64) (.prod (.slice (.int .u8)) (.prod (.slice (.prod (.int .i64) (.prod (.int .i64) .unit))) (.prod .bool .unit)))))))))), .val [] (.int .i64), .val [] (.int .i64)] [] (fun v => f32_0 k (fun z0 => K [.val [] .bool z0] []) (N (sh jn32_0 [] [])) v.1.1 v.1.2.2.1 v.1.2.2.2.1 k v.1.2.2.2.2.1) (inner T an32 (modesOf F) 0 k 32 (S32 k) (ending T Try.f32 an32 0 K) cd32_0 (sh sp32_0 ws rs) N X) ws rs
noncomputable def L32 (id : Nat) (ws : List PV) (rs : List RowS) (N : St → Option R) (X : Nat → St → Option R) : Option R := bif id == 0 then L32_0 k K ws rs N X else none
theorem b32_0 (rec : St → Option R) (N : St → Option R) (X : Nat → St → Option R) (v0_0 : List ((Int × (Int × (ByteArray × (Int × (Int × (Int × (List Int × (List ((Int × (Int × Unit))) × (Bool × Unit))))))))))) (v0_1 : List ((Int × (Int × (ByteArray × (Int × (Int × (Int × (List Int × (List ((Int × (Int × Unit))) × (Bool × Unit))))))))))) (v0_2 : Int) (v0_3 : Int) :
    execS T an32 (modesOf F) 0 k 32 (S32 k) (L32 k K) (ending T Try.f32 an32 0 K) bd32_0 (sh sp32_0 [.val [(0, 0)] (.slice (.prod (.int .i64) (.prod (.int .i64) (.prod .str (.prod (.int .i64) (.prod (.int .i64) (.prod (.int .i64) (.prod (.slice (.int .u8)) (.prod (.slice (.prod (.int .i64) (.prod (.int .i64) .unit))) (.prod .bool .unit)))))))))) v0_0, .fn 33 [], .val [(0, 0)] (.slice (.prod (.int .i64) (.prod (.int .i64) (.prod .str (.prod (.int .i64) (.prod (.int .i64) (.prod (.int .i64) (.prod (.slice (.int .u8)) (.prod (.slice (.prod (.int .i64) (.prod (.int .i64) .unit))) (.prod .bool .unit)))))))))) v0_1, .val [] (.int .i64) v0_2, .val [] (.int .i64) v0_3] []) (fun st => atHead an32 0 bd32_0 st rec) (outX an32 0 0 N X) =
      f32_0b k (fun v0_3 => rec (sh sp32_0 [.val [(0, 0)] (.slice (.prod (.int .i64) (.prod (.int .i64) (.prod .str (.prod (.int .i64) (.prod (.int .i64) (.prod (.int .i64) (.prod (.slice (.int .u8)) (.prod (.slice (.prod (.int .i64) (.prod (.int .i64) .unit))) (.prod .bool .unit)))))))))) v0_0, .fn 33 [], .val [(0, 0)] (.slice (.prod (.int .i64) (.prod (.int .i64) (.prod .str (.prod (.int .i64) (.prod (.int .i64) (.prod (.int .i64) (.prod (.slice (.int .u8)) (.prod (.slice (.prod (.int .i64) (.prod (.int .i64) .unit))) (.prod .bool .unit)))))))))) v0_1, .val [] (.int .i64) v0_2, .val [] (.int .i64) v0_3] [])) (fun z0 => K [.val [] .bool z0] []) (N (sh jn32_0 [] [])) v0_0 v0_1 v0_2 v0_3 := by kernel_rfl
theorem i32_0 (N : St → Option R) (X : Nat → St → Option R) (v0_0 : List ((Int × (Int × (ByteArray × (Int × (Int × (Int × (List Int × (List ((Int × (Int × Unit))) × (Bool × Unit))))))))))) (v0_1 : List ((Int × (Int × (ByteArray × (Int × (Int × (Int × (List Int × (List ((Int × (Int × Unit))) × (Bool × Unit))))))))))) (v0_2 : Int) (m : Nat) : ∀ (v0_3 : Int),
    iter (atHead an32 0 bd32_0) m (fun st N' => exec T an32 (modesOf F) 0 k 32 (S32 k) (ending T Try.f32 an32 0 K) bd32_0 st N' (outX an32 0 0 N X)) (sh sp32_0 [.val [(0, 0)] (.slice (.prod (.int .i64) (.prod (.int .i64) (.prod .str (.prod (.int .i64) (.prod (.int .i64) (.prod (.int .i64) (.prod (.slice (.int .u8)) (.prod (.slice (.prod (.int .i64) (.prod (.int .i64) .unit))) (.prod .bool .unit)))))))))) v0_0, .fn 33 [], .val [(0, 0)] (.slice (.prod (.int .i64) (.prod (.int .i64) (.prod .str (.prod (.int .i64) (.prod (.int .i64) (.prod (.int .i64) (.prod (.slice (.int .u8)) (.prod (.slice (.prod (.int .i64) (.prod (.int .i64) .unit))) (.prod .bool .unit)))))))))) v0_1, .val [] (.int .i64) v0_2, .val [] (.int .i64) v0_3] []) = f32_0d k (fun z0 => K [.val [] .bool z0] []) (N (sh jn32_0 [] [])) v0_0 v0_1 v0_2 m v0_3 := by
  induction m with
  | zero => intros; rfl
  | succ m ih =>
    intro v0_3
    simp only [iter]
    rw [← execS_eq T an32 (modesOf F) 0 k 32 (S32 k) (L32 k K) bd32_0 (cuts_of _ _ _ _ _ _ _ _ bd32_0 (l := []) (by kernel_rfl) trivial)]
    refine (b32_0 k K _ N X v0_0 v0_1 v0_2 v0_3).trans ?_
    simp only [f32_0d, ih]
theorem l32_0 (ws : List PV) (rs : List RowS) (N : St → Option R) (X : Nat → St → Option R) : L32 k K 0 ws rs N X = inner T an32 (modesOf F) 0 k 32 (S32 k) (ending T Try.f32 an32 0 K) cd32_0 (sh sp32_0 ws rs) N X := by
  show L32_0 k K ws rs N X = _
  unfold L32_0
  rw [f32_0_def]
  exact onShape_eq (a := [.val [(0, 0)] (.slice (.prod (.int .i64) (.prod (.int .i64) (.prod .str (.prod (.int .i64) (.prod (.int .i64) (.prod (.int .i64) (.prod (.slice (.int .u8)) (.prod (.slice (.prod (.int .i64) (.prod (.int .i64) .unit))) (.prod .bool .unit)))))))))), .fn 33 [], .val [(0, 0)] (.slice (.prod (.int .i64) (.prod (.int .i64) (.prod .str (.prod (.int .i64) (.prod (.int .i64) (.prod (.int .i64) (.prod (.slice (.int .u8)) (.prod (.slice (.prod (.int .i64) (.prod (.int .i64) .unit))) (.prod .bool .unit)))))))))), .val [] (.int .i64), .val [] (.int .i64)]) (b := []) (G := fun ws rs => inner T an32 (modesOf F) 0 k 32 (S32 k) (ending T Try.f32 an32 0 K) cd32_0 (sh sp32_0 ws rs) N X) (fun x y => Eq.trans (by kernel_rfl) (Eq.trans (i32_0 k K N X x.1 x.2.2.1 x.2.2.2.1 k x.2.2.2.2.1).symm (by kernel_rfl))) ws rs
end
theorem e32 (k : Nat) (a0 : List ((Int × (Int × (ByteArray × (Int × (Int × (Int × (List Int × (List ((Int × (Int × Unit))) × (Bool × Unit))))))))))) (a1 : List ((Int × (Int × (ByteArray × (Int × (Int × (Int × (List Int × (List ((Int × (Int × Unit))) × (Bool × Unit))))))))))) (K : List PV → List RowS → Option R) : callC T F k 32 [.val [(0, 0)] (.slice (.prod (.int .i64) (.prod (.int .i64) (.prod .str (.prod (.int .i64) (.prod (.int .i64) (.prod (.int .i64) (.prod (.slice (.int .u8)) (.prod (.slice (.prod (.int .i64) (.prod (.int .i64) .unit))) (.prod .bool .unit)))))))))) a0, .val [(0, 0)] (.slice (.prod (.int .i64) (.prod (.int .i64) (.prod .str (.prod (.int .i64) (.prod (.int .i64) (.prod (.int .i64) (.prod (.slice (.int .u8)) (.prod (.slice (.prod (.int .i64) (.prod (.int .i64) .unit))) (.prod .bool .unit)))))))))) a1, .fn 33 []] [] K = f32 k a0 a1 (fun z0 => K [.val [] .bool z0] []) := by
  rw [f32_def]
  cases k with
  | zero => rfl
  | succ k =>
    refine Eq.trans (show _ = exec T an32 (modesOf F) 0 k 32 (callC T F k) (ending T Try.f32 an32 0 K) (bodyOf Try.f32) ⟨argEnv 0 [.val [(0, 0)] (.slice (.prod (.int .i64) (.prod (.int .i64) (.prod .str (.prod (.int .i64) (.prod (.int .i64) (.prod (.int .i64) (.prod (.slice (.int .u8)) (.prod (.slice (.prod (.int .i64) (.prod (.int .i64) .unit))) (.prod .bool .unit)))))))))) a0, .val [(0, 0)] (.slice (.prod (.int .i64) (.prod (.int .i64) (.prod .str (.prod (.int .i64) (.prod (.int .i64) (.prod (.int .i64) (.prod (.slice (.int .u8)) (.prod (.slice (.prod (.int .i64) (.prod (.int .i64) .unit))) (.prod .bool .unit)))))))))) a1, .fn 33 []] (fun _ => none), rowsOf []⟩ (ending T Try.f32 an32 0 K) (fun _ _ => none) from by kernel_rfl) ?_
    rw [← S32_eq k, ← execS_eq T an32 (modesOf F) 0 k 32 (S32 k) (L32 k K) (bodyOf Try.f32) (cuts_of _ _ _ _ _ _ _ _ (bodyOf Try.f32) (l := [(0, sp32_0, cd32_0)]) (by kernel_rfl) ⟨l32_0 k K, trivial⟩)]
    kernel_rfl
noncomputable def s32 (k : Nat) (a : List PV) (r : List RowS) (K : List PV → List RowS → Option R) : Option R :=
  onShape [.val [(0, 0)] (.slice (.prod (.int .i64) (.prod (.int .i64) (.prod .str (.prod (.int .i64) (.prod (.int .i64) (.prod (.int .i64) (.prod (.slice (.int .u8)) (.prod (.slice (.prod (.int .i64) (.prod (.int .i64) .unit))) (.prod .bool .unit)))))))))), .val [(0, 0)] (.slice (.prod (.int .i64) (.prod (.int .i64) (.prod .str (.prod (.int .i64) (.prod (.int .i64) (.prod (.int .i64) (.prod (.slice (.int .u8)) (.prod (.slice (.prod (.int .i64) (.prod (.int .i64) .unit))) (.prod .bool .unit)))))))))), .fn 33 []] [] (fun v => f32 k v.1.1 v.1.2.1 (fun z0 => K [.val [] .bool z0] [])) (callC T F k 32 a r K) a r
theorem s32_eq (k : Nat) (a : List PV) (r : List RowS) (K : List PV → List RowS → Option R) : s32 k a r K = callC T F k 32 a r K := by
  unfold s32
  exact onShape_eq (a := [.val [(0, 0)] (.slice (.prod (.int .i64) (.prod (.int .i64) (.prod .str (.prod (.int .i64) (.prod (.int .i64) (.prod (.int .i64) (.prod (.slice (.int .u8)) (.prod (.slice (.prod (.int .i64) (.prod (.int .i64) .unit))) (.prod .bool .unit)))))))))), .val [(0, 0)] (.slice (.prod (.int .i64) (.prod (.int .i64) (.prod .str (.prod (.int .i64) (.prod (.int .i64) (.prod (.int .i64) (.prod (.slice (.int .u8)) (.prod (.slice (.prod (.int .i64) (.prod (.int .i64) .unit))) (.prod .bool .unit)))))))))), .fn 33 []]) (b := []) (G := fun a r => callC T F k 32 a r K) (fun x y => Eq.trans (by kernel_rfl) (Eq.trans (e32 k x.1 x.2.1 K).symm (by kernel_rfl))) a r
end
section
variable {R : Type}
noncomputable def S4 (k g : Nat) (a : List PV) (r : List RowS) (K : List PV → List RowS → Option R) : Option R := bif g == 24 then s24 k a r K else bif g == 25 then s25 k a r K else bif g == 26 then s26 k a r K else bif g == 27 then s27 k a r K else bif g == 28 then s28 k a r K else bif g == 29 then s29 k a r K else bif g == 30 then s30 k a r K else bif g == 31 then s31 k a r K else bif g == 32 then s32 k a r K else callC T F k g a r K
theorem S4_eq (k : Nat) : S4 (R := R) k = callC T F k := by
  funext g a r K
  exact pick_eq (fun e => by subst e; exact s24_eq k a r K) (pick_eq (fun e => by subst e; exact s25_eq k a r K) (pick_eq (fun e => by subst e; exact s26_eq k a r K) (pick_eq (fun e => by subst e; exact s27_eq k a r K) (pick_eq (fun e => by subst e; exact s28_eq k a r K) (pick_eq (fun e => by subst e; exact s29_eq k a r K) (pick_eq (fun e => by subst e; exact s30_eq k a r K) (pick_eq (fun e => by subst e; exact s31_eq k a r K) (pick_eq (fun e => by subst e; exact s32_eq k a r K) (rfl)))))))))
theorem e4 (k : Nat) (a0 : Int) (a1 : ByteArray) (a2 : List Int) (a3 : Int) (a4 : Int) (a5 : Int) (a6 : Int) (a7 : Int) (a8 : Int) (a9 : Int) (a10 : ByteArray) (a11 : List Int) (a12 : Int) (a13 : List ((Int × (Int × Unit)))) (a14 : Int) (a15 : Int) (K : List PV → List RowS → Option R) : callC T F k 4 [.val [] (.int .i64) a0, .val [] .str a1, .val [(0, 0)] (.slice (.int .u8)) a2, .agg [.val [] (.int .i64) a3, .val [] (.int .i64) a4, .val [] (.int .i64) a5, .val [] (.int .i64) a6, .val [] (.int .i64) a7], .agg [.val [] (.int .i64) a8, .val [] (.int .i64) a9, .val [] .str a10, .val [(0, 0)] (.slice (.int .u8)) a11, .val [] (.int .i64) a12, .val [(0, 0)] (.slice (.prod (.int .i64) (.prod (.int .i64) .unit))) a13, .val [] (.int .i64) a14, .val [] (.int .i64) a15]] [] K = f4 k a0 a1 a2 a3 a4 a5 a6 a7 a8 a9 a10 a11 a12 a13 a14 a15 (fun z0 => K [.val [] .bool z0] []) := by
  rw [f4_def]
  cases k with
  | zero => rfl
  | succ k =>
    refine Eq.trans (show _ = exec T an4 (modesOf F) 0 k 82 (callC T F k) (ending T Try.f4 an4 0 K) (bodyOf Try.f4) ⟨argEnv 0 [.val [] (.int .i64) a0, .val [] .str a1, .val [(0, 0)] (.slice (.int .u8)) a2, .agg [.val [] (.int .i64) a3, .val [] (.int .i64) a4, .val [] (.int .i64) a5, .val [] (.int .i64) a6, .val [] (.int .i64) a7], .agg [.val [] (.int .i64) a8, .val [] (.int .i64) a9, .val [] .str a10, .val [(0, 0)] (.slice (.int .u8)) a11, .val [] (.int .i64) a12, .val [(0, 0)] (.slice (.prod (.int .i64) (.prod (.int .i64) .unit))) a13, .val [] (.int .i64) a14, .val [] (.int .i64) a15]] (fun _ => none), rowsOf []⟩ (ending T Try.f4 an4 0 K) (fun _ _ => none) from by kernel_rfl) ?_
    rw [← S4_eq k, ← execS_eq T an4 (modesOf F) 0 k 82 (S4 k) (fun _ _ _ _ _ => none) (bodyOf Try.f4) (cuts_of _ _ _ _ _ _ _ _ (bodyOf Try.f4) (l := []) (by kernel_rfl) trivial)]
    kernel_rfl
noncomputable def s4 (k : Nat) (a : List PV) (r : List RowS) (K : List PV → List RowS → Option R) : Option R :=
  onShape [.val [] (.int .i64), .val [] .str, .val [(0, 0)] (.slice (.int .u8)), .agg [.val [] (.int .i64), .val [] (.int .i64), .val [] (.int .i64), .val [] (.int .i64), .val [] (.int .i64)], .agg [.val [] (.int .i64), .val [] (.int .i64), .val [] .str, .val [(0, 0)] (.slice (.int .u8)), .val [] (.int .i64), .val [(0, 0)] (.slice (.prod (.int .i64) (.prod (.int .i64) .unit))), .val [] (.int .i64), .val [] (.int .i64)]] [] (fun v => f4 k v.1.1 v.1.2.1 v.1.2.2.1 v.1.2.2.2.1.1 v.1.2.2.2.1.2.1 v.1.2.2.2.1.2.2.1 v.1.2.2.2.1.2.2.2.1 v.1.2.2.2.1.2.2.2.2.1 v.1.2.2.2.2.1.1 v.1.2.2.2.2.1.2.1 v.1.2.2.2.2.1.2.2.1 v.1.2.2.2.2.1.2.2.2.1 v.1.2.2.2.2.1.2.2.2.2.1 v.1.2.2.2.2.1.2.2.2.2.2.1 v.1.2.2.2.2.1.2.2.2.2.2.2.1 v.1.2.2.2.2.1.2.2.2.2.2.2.2.1 (fun z0 => K [.val [] .bool z0] [])) (callC T F k 4 a r K) a r
theorem s4_eq (k : Nat) (a : List PV) (r : List RowS) (K : List PV → List RowS → Option R) : s4 k a r K = callC T F k 4 a r K := by
  unfold s4
  exact onShape_eq (a := [.val [] (.int .i64), .val [] .str, .val [(0, 0)] (.slice (.int .u8)), .agg [.val [] (.int .i64), .val [] (.int .i64), .val [] (.int .i64), .val [] (.int .i64), .val [] (.int .i64)], .agg [.val [] (.int .i64), .val [] (.int .i64), .val [] .str, .val [(0, 0)] (.slice (.int .u8)), .val [] (.int .i64), .val [(0, 0)] (.slice (.prod (.int .i64) (.prod (.int .i64) .unit))), .val [] (.int .i64), .val [] (.int .i64)]]) (b := []) (G := fun a r => callC T F k 4 a r K) (fun x y => Eq.trans (by kernel_rfl) (Eq.trans (e4 k x.1 x.2.1 x.2.2.1 x.2.2.2.1.1 x.2.2.2.1.2.1 x.2.2.2.1.2.2.1 x.2.2.2.1.2.2.2.1 x.2.2.2.1.2.2.2.2.1 x.2.2.2.2.1.1 x.2.2.2.2.1.2.1 x.2.2.2.2.1.2.2.1 x.2.2.2.2.1.2.2.2.1 x.2.2.2.2.1.2.2.2.2.1 x.2.2.2.2.1.2.2.2.2.2.1 x.2.2.2.2.1.2.2.2.2.2.2.1 x.2.2.2.2.1.2.2.2.2.2.2.2.1 K).symm (by kernel_rfl))) a r
end
section
variable {R : Type}
noncomputable def S87 (k g : Nat) (a : List PV) (r : List RowS) (K : List PV → List RowS → Option R) : Option R := callC T F k g a r K
theorem S87_eq (k : Nat) : S87 (R := R) k = callC T F k := by
  funext g a r K
  exact rfl
section
variable {R : Type} (k : Nat) (K : List PV → List RowS → Option R)
noncomputable def L87_1000007 (ws : List PV) (rs : List RowS) (N : St → Option R) (X : Nat → St → Option R) : Option R :=
  onShape [.val [] (.int .i64), .rw 1, .val [] (.int .i64), .ptr 2 0, .val [(0, 0)] (.slice (.prod (.int .i64) (.prod (.int .i64) .unit))), .val [] (.int .i64), .val [] (.int .i64), .val [] .bool] [.arr [] (.prod (.int .i64) (.prod (.int .i64) .unit)), .vars [.val [] (.int .i64), .val [] (.int .i64)]] (fun v => f87_1000007 k (fun yN_4 => N (sh fi87_7 [.val [] (.int .i64) v.1.1, .rw 1, .ptr 2 0, .val [(0, 0)] (.slice (.prod (.int .i64) (.prod (.int .i64) .unit))) v.1.2.2.2.2.1, .val [] (.int .i64) v.1.2.2.2.2.2.1, .val [] (.int .i64) v.1.2.2.2.2.2.2.1] [⟨0, .arr [] (.prod (.int .i64) (.prod (.int .i64) .unit)) yN_4⟩, ⟨0, .vars [.val [] (.int .i64) v.2.2.1.1, .val [] (.int .i64) v.2.2.1.2.1]⟩])) v.1.1 v.1.2.2.1 v.1.2.2.2.2.1 v.1.2.2.2.2.2.1 v.1.2.2.2.2.2.2.1 v.1.2.2.2.2.2.2.2.1 v.2.1 v.2.2.1.1 v.2.2.1.2.1) (inner T an87 (modesOf F) 0 k 39 (S87 k) (ending T Try.f87 an87 0 K) cd87_1000007 (sh sp87_1000007 ws rs) N X) ws rs
noncomputable def L87_0 (ws : List PV) (rs : List RowS) (N : St → Option R) (X : Nat → St → Option R) : Option R :=
  onShape [.val [] (.int .i64), .rw 1, .val [] (.int .i64), .val [(0, 0)] (.slice (.prod (.int .i64) (.prod (.int .i64) .unit))), .val [] (.int .i64), .val [] (.int .i64)] [.arr [] (.prod (.int .i64) (.prod (.int .i64) .unit))] (fun v => f87_0 k (fun y0_1 y0_2 => N (sh jn87_0 [.val [] (.int .i64) v.1.1, .rw 1, .val [] (.int .i64) y0_1] [⟨0, .arr [] (.prod (.int .i64) (.prod (.int .i64) .unit)) y0_2⟩])) v.1.1 v.1.2.2.2.1 v.1.2.2.2.2.1 k v.1.2.2.1 v.1.2.2.2.2.2.1 v.2.1) (inner T an87 (modesOf F) 0 k 39 (S87 k) (ending T Try.f87 an87 0 K) cd87_0 (sh sp87_0 ws rs) N X) ws rs
noncomputable def L87_1000011 (ws : List PV) (rs : List RowS) (N : St → Option R) (X : Nat → St → Option R) : Option R :=
  onShape [.val [] (.int .i64), .rw 1, .val [] (.int .i64), .val [] .bool] [.arr [] (.prod (.int .i64) (.prod (.int .i64) .unit))] (fun v => f87_1000011 k (fun yN_0 => N (sh fi87_11 [.rw 1] [⟨0, .arr [] (.prod (.int .i64) (.prod (.int .i64) .unit)) yN_0⟩])) v.1.1 v.1.2.2.1 v.1.2.2.2.1 v.2.1) (inner T an87 (modesOf F) 0 k 39 (S87 k) (ending T Try.f87 an87 0 K) cd87_1000011 (sh sp87_1000011 ws rs) N X) ws rs
noncomputable def L87 (id : Nat) (ws : List PV) (rs : List RowS) (N : St → Option R) (X : Nat → St → Option R) : Option R := bif id == 1000007 then L87_1000007 k K ws rs N X else bif id == 0 then L87_0 k K ws rs N X else bif id == 1000011 then L87_1000011 k K ws rs N X else none
theorem l87_1000007 (ws : List PV) (rs : List RowS) (N : St → Option R) (X : Nat → St → Option R) : L87 k K 1000007 ws rs N X = inner T an87 (modesOf F) 0 k 39 (S87 k) (ending T Try.f87 an87 0 K) cd87_1000007 (sh sp87_1000007 ws rs) N X := by
  show L87_1000007 k K ws rs N X = _
  unfold L87_1000007
  rw [f87_1000007_def]
  exact onShape_eq (a := [.val [] (.int .i64), .rw 1, .val [] (.int .i64), .ptr 2 0, .val [(0, 0)] (.slice (.prod (.int .i64) (.prod (.int .i64) .unit))), .val [] (.int .i64), .val [] (.int .i64), .val [] .bool]) (b := [.arr [] (.prod (.int .i64) (.prod (.int .i64) .unit)), .vars [.val [] (.int .i64), .val [] (.int .i64)]]) (G := fun ws rs => inner T an87 (modesOf F) 0 k 39 (S87 k) (ending T Try.f87 an87 0 K) cd87_1000007 (sh sp87_1000007 ws rs) N X) (fun x y => Eq.trans (by kernel_rfl) (innerS_eq T an87 (modesOf F) 0 k 39 (S87 k) (L87 k K) cd87_1000007 (l := []) (by kernel_rfl) trivial _ N X)) ws rs
theorem b87_0 (rec : St → Option R) (N : St → Option R) (X : Nat → St → Option R) (v0_0 : Int) (v0_2 : List ((Int × (Int × Unit)))) (v0_3 : Int) (v0_1 : Int) (v0_4 : Int) (v0_5 : List (Int × (Int × Unit))) :
    execS T an87 (modesOf F) 0 k 39 (S87 k) (L87 k K) (ending T Try.f87 an87 0 K) bd87_0 (sh sp87_0 [.val [] (.int .i64) v0_0, .rw 1, .val [] (.int .i64) v0_1, .val [(0, 0)] (.slice (.prod (.int .i64) (.prod (.int .i64) .unit))) v0_2, .val [] (.int .i64) v0_3, .val [] (.int .i64) v0_4] [⟨0, .arr [] (.prod (.int .i64) (.prod (.int .i64) .unit)) v0_5⟩]) (fun st => atHead an87 0 bd87_0 st rec) (outX an87 0 0 N X) =
      f87_0b k (fun v0_1 v0_4 v0_5 => rec (sh sp87_0 [.val [] (.int .i64) v0_0, .rw 1, .val [] (.int .i64) v0_1, .val [(0, 0)] (.slice (.prod (.int .i64) (.prod (.int .i64) .unit))) v0_2, .val [] (.int .i64) v0_3, .val [] (.int .i64) v0_4] [⟨0, .arr [] (.prod (.int .i64) (.prod (.int .i64) .unit)) v0_5⟩])) (fun y0_1 y0_2 => N (sh jn87_0 [.val [] (.int .i64) v0_0, .rw 1, .val [] (.int .i64) y0_1] [⟨0, .arr [] (.prod (.int .i64) (.prod (.int .i64) .unit)) y0_2⟩])) v0_0 v0_2 v0_3 v0_1 v0_4 v0_5 := by kernel_rfl
theorem i87_0 (N : St → Option R) (X : Nat → St → Option R) (v0_0 : Int) (v0_2 : List ((Int × (Int × Unit)))) (v0_3 : Int) (m : Nat) : ∀ (v0_1 : Int) (v0_4 : Int) (v0_5 : List (Int × (Int × Unit))),
    iter (atHead an87 0 bd87_0) m (fun st N' => exec T an87 (modesOf F) 0 k 39 (S87 k) (ending T Try.f87 an87 0 K) bd87_0 st N' (outX an87 0 0 N X)) (sh sp87_0 [.val [] (.int .i64) v0_0, .rw 1, .val [] (.int .i64) v0_1, .val [(0, 0)] (.slice (.prod (.int .i64) (.prod (.int .i64) .unit))) v0_2, .val [] (.int .i64) v0_3, .val [] (.int .i64) v0_4] [⟨0, .arr [] (.prod (.int .i64) (.prod (.int .i64) .unit)) v0_5⟩]) = f87_0d k (fun y0_1 y0_2 => N (sh jn87_0 [.val [] (.int .i64) v0_0, .rw 1, .val [] (.int .i64) y0_1] [⟨0, .arr [] (.prod (.int .i64) (.prod (.int .i64) .unit)) y0_2⟩])) v0_0 v0_2 v0_3 m v0_1 v0_4 v0_5 := by
  induction m with
  | zero => intros; rfl
  | succ m ih =>
    intro v0_1 v0_4 v0_5
    simp only [iter]
    rw [← execS_eq T an87 (modesOf F) 0 k 39 (S87 k) (L87 k K) bd87_0 (cuts_of _ _ _ _ _ _ _ _ bd87_0 (l := [(1000007, sp87_1000007, cd87_1000007)]) (by kernel_rfl) ⟨l87_1000007 k K, trivial⟩)]
    refine (b87_0 k K _ N X v0_0 v0_2 v0_3 v0_1 v0_4 v0_5).trans ?_
    simp only [f87_0d, ih]
theorem l87_0 (ws : List PV) (rs : List RowS) (N : St → Option R) (X : Nat → St → Option R) : L87 k K 0 ws rs N X = inner T an87 (modesOf F) 0 k 39 (S87 k) (ending T Try.f87 an87 0 K) cd87_0 (sh sp87_0 ws rs) N X := by
  show L87_0 k K ws rs N X = _
  unfold L87_0
  rw [f87_0_def]
  exact onShape_eq (a := [.val [] (.int .i64), .rw 1, .val [] (.int .i64), .val [(0, 0)] (.slice (.prod (.int .i64) (.prod (.int .i64) .unit))), .val [] (.int .i64), .val [] (.int .i64)]) (b := [.arr [] (.prod (.int .i64) (.prod (.int .i64) .unit))]) (G := fun ws rs => inner T an87 (modesOf F) 0 k 39 (S87 k) (ending T Try.f87 an87 0 K) cd87_0 (sh sp87_0 ws rs) N X) (fun x y => Eq.trans (by kernel_rfl) (Eq.trans (i87_0 k K N X x.1 x.2.2.2.1 x.2.2.2.2.1 k x.2.2.1 x.2.2.2.2.2.1 y.1).symm (by kernel_rfl))) ws rs
theorem l87_1000011 (ws : List PV) (rs : List RowS) (N : St → Option R) (X : Nat → St → Option R) : L87 k K 1000011 ws rs N X = inner T an87 (modesOf F) 0 k 39 (S87 k) (ending T Try.f87 an87 0 K) cd87_1000011 (sh sp87_1000011 ws rs) N X := by
  show L87_1000011 k K ws rs N X = _
  unfold L87_1000011
  rw [f87_1000011_def]
  exact onShape_eq (a := [.val [] (.int .i64), .rw 1, .val [] (.int .i64), .val [] .bool]) (b := [.arr [] (.prod (.int .i64) (.prod (.int .i64) .unit))]) (G := fun ws rs => inner T an87 (modesOf F) 0 k 39 (S87 k) (ending T Try.f87 an87 0 K) cd87_1000011 (sh sp87_1000011 ws rs) N X) (fun x y => Eq.trans (by kernel_rfl) (innerS_eq T an87 (modesOf F) 0 k 39 (S87 k) (L87 k K) cd87_1000011 (l := []) (by kernel_rfl) trivial _ N X)) ws rs
end
theorem e87 (k : Nat) (a0 : List ((Int × (Int × Unit)))) (a1 : Int) (K : List PV → List RowS → Option R) : callC T F k 87 [.val [(0, 0)] (.slice (.prod (.int .i64) (.prod (.int .i64) .unit))) a0, .val [] (.int .i64) a1] [] K = f87 k a0 a1 (fun z0 => K [.rw 1] [⟨0, .arr [] (.prod (.int .i64) (.prod (.int .i64) .unit)) z0⟩]) := by
  rw [f87_def]
  cases k with
  | zero => rfl
  | succ k =>
    refine Eq.trans (show _ = exec T an87 (modesOf F) 0 k 39 (callC T F k) (ending T Try.f87 an87 0 K) (bodyOf Try.f87) ⟨argEnv 0 [.val [(0, 0)] (.slice (.prod (.int .i64) (.prod (.int .i64) .unit))) a0, .val [] (.int .i64) a1] (fun _ => none), rowsOf []⟩ (ending T Try.f87 an87 0 K) (fun _ _ => none) from by kernel_rfl) ?_
    rw [← S87_eq k, ← execS_eq T an87 (modesOf F) 0 k 39 (S87 k) (L87 k K) (bodyOf Try.f87) (cuts_of _ _ _ _ _ _ _ _ (bodyOf Try.f87) (l := [(0, sp87_0, cd87_0), (1000011, sp87_1000011, cd87_1000011)]) (by kernel_rfl) ⟨l87_0 k K, l87_1000011 k K, trivial⟩)]
    kernel_rfl
noncomputable def s87 (k : Nat) (a : List PV) (r : List RowS) (K : List PV → List RowS → Option R) : Option R :=
  onShape [.val [(0, 0)] (.slice (.prod (.int .i64) (.prod (.int .i64) .unit))), .val [] (.int .i64)] [] (fun v => f87 k v.1.1 v.1.2.1 (fun z0 => K [.rw 1] [⟨0, .arr [] (.prod (.int .i64) (.prod (.int .i64) .unit)) z0⟩])) (callC T F k 87 a r K) a r
theorem s87_eq (k : Nat) (a : List PV) (r : List RowS) (K : List PV → List RowS → Option R) : s87 k a r K = callC T F k 87 a r K := by
  unfold s87
  exact onShape_eq (a := [.val [(0, 0)] (.slice (.prod (.int .i64) (.prod (.int .i64) .unit))), .val [] (.int .i64)]) (b := []) (G := fun a r => callC T F k 87 a r K) (fun x y => Eq.trans (by kernel_rfl) (Eq.trans (e87 k x.1 x.2.1 K).symm (by kernel_rfl))) a r
end
section
variable {R : Type}
noncomputable def S94 (k g : Nat) (a : List PV) (r : List RowS) (K : List PV → List RowS → Option R) : Option R := bif g == 87 then s87 k a r K else callC T F k g a r K
theorem S94_eq (k : Nat) : S94 (R := R) k = callC T F k := by
  funext g a r K
  exact pick_eq (fun e => by subst e; exact s87_eq k a r K) (rfl)
section
variable {R : Type} (k : Nat) (K : List PV → List RowS → Option R)
noncomputable def L94_1000004 (ws : List PV) (rs : List RowS) (N : St → Option R) (X : Nat → St → Option R) : Option R :=
  onShape [.ptr 1 0, .val [] (.int .i64), .val [] (.int .i64), .val [] .bool] [.vars [.val [] (.int .i64), .val [] (.int .i64), .val [] .str, .val [(0, 0)] (.slice (.int .u8)), .val [(0, 0)] (.slice (.prod (.int .i64) (.prod (.int .i64) .unit))), .val [] (.int .i64), .val [] (.int .i64), .val [] (.int .i64), .val [] (.int .i64)]] (fun v => f94_1000004 k (fun yN_0 => N (sh fi94_4 [.ptr 1 0, .val [] (.int .i64) yN_0] [⟨0, .vars [.val [] (.int .i64) v.2.1.1, .val [] (.int .i64) v.2.1.2.1, .val [] .str v.2.1.2.2.1, .val [(0, 0)] (.slice (.int .u8)) v.2.1.2.2.2.1, .val [(0, 0)] (.slice (.prod (.int .i64) (.prod (.int .i64) .unit))) v.2.1.2.2.2.2.1, .val [] (.int .i64) v.2.1.2.2.2.2.2.1, .val [] (.int .i64) v.2.1.2.2.2.2.2.2.1, .val [] (.int .i64) v.2.1.2.2.2.2.2.2.2.1, .val [] (.int .i64) v.2.1.2.2.2.2.2.2.2.2.1]⟩])) v.1.2.1 v.1.2.2.1 v.1.2.2.2.1 v.2.1.1 v.2.1.2.1 v.2.1.2.2.1 v.2.1.2.2.2.1 v.2.1.2.2.2.2.1 v.2.1.2.2.2.2.2.1 v.2.1.2.2.2.2.2.2.1 v.2.1.2.2.2.2.2.2.2.1 v.2.1.2.2.2.2.2.2.2.2.1) (inner T an94 (modesOf F) 0 k 64 (S94 k) (ending T Try.f94 an94 0 K) cd94_1000004 (sh sp94_1000004 ws rs) N X) ws rs
noncomputable def L94_2 (ws : List PV) (rs : List RowS) (N : St → Option R) (X : Nat → St → Option R) : Option R :=
  onShape [.ptr 1 0, .rw 2, .val [] (.int .i64), .val [] (.int .i64), .val [(0, 0)] (.slice (.int .u8)), .val [] (.int .i64), .val [] (.int .i64)] [.vars [.val [] (.int .i64), .val [] (.int .i64), .val [] .str, .val [(0, 0)] (.slice (.int .u8)), .val [(0, 0)] (.slice (.prod (.int .i64) (.prod (.int .i64) .unit))), .val [] (.int .i64), .val [] (.int .i64), .val [] (.int .i64), .val [] (.int .i64)], .arr [] (.prod (.int .i64) (.prod (.int .i64) .unit))] (fun v => f94_2 k (fun z0 => K [.val [] (.int .i64) z0] []) (N (sh jn94_2 [.ptr 1 0, .rw 2, .val [] (.int .i64) v.1.2.2.1, .val [] (.int .i64) v.1.2.2.2.1] [⟨0, .vars [.val [] (.int .i64) v.2.1.1, .val [] (.int .i64) v.2.1.2.1, .val [] .str v.2.1.2.2.1, .val [(0, 0)] (.slice (.int .u8)) v.2.1.2.2.2.1, .val [(0, 0)] (.slice (.prod (.int .i64) (.prod (.int .i64) .unit))) v.2.1.2.2.2.2.1, .val [] (.int .i64) v.2.1.2.2.2.2.2.1, .val [] (.int .i64) v.2.1.2.2.2.2.2.2.1, .val [] (.int .i64) v.2.1.2.2.2.2.2.2.2.1, .val [] (.int .i64) v.2.1.2.2.2.2.2.2.2.2.1]⟩, ⟨0, .arr [] (.prod (.int .i64) (.prod (.int .i64) .unit)) v.2.2.1⟩])) v.1.2.2.1 v.1.2.2.2.1 v.1.2.2.2.2.1 v.1.2.2.2.2.2.1 v.2.1.1 v.2.1.2.1 v.2.1.2.2.1 v.2.1.2.2.2.1 v.2.1.2.2.2.2.1 v.2.1.2.2.2.2.2.1 v.2.1.2.2.2.2.2.2.1 v.2.1.2.2.2.2.2.2.2.1 v.2.1.2.2.2.2.2.2.2.2.1 v.2.2.1 k v.1.2.2.2.2.2.2.1) (inner T an94 (modesOf F) 0 k 64 (S94 k) (ending T Try.f94 an94 0 K) cd94_2 (sh sp94_2 ws rs) N X) ws rs
noncomputable def L94_0 (ws : List PV) (rs : List RowS) (N : St → Option R) (X : Nat → St → Option R) : Option R :=
  onShape [.ptr 1 0, .rw 2, .val [] (.int .i64), .val [] (.int .i64)] [.vars [.val [] (.int .i64), .val [] (.int .i64), .val [] .str, .val [(0, 0)] (.slice (.int .u8)), .val [(0, 0)] (.slice (.prod (.int .i64) (.prod (.int .i64) .unit))), .val [] (.int .i64), .val [] (.int .i64), .val [] (.int .i64), .val [] (.int .i64)], .arr [] (.prod (.int .i64) (.prod (.int .i64) .unit))] (fun v => f94_0 k (fun z0 => K [.val [] (.int .i64) z0] []) (N (sh jn94_0 [.ptr 1 0] [⟨0, .vars [.val [] (.int .i64) v.2.1.1, .val [] (.int .i64) v.2.1.2.1, .val [] .str v.2.1.2.2.1, .val [(0, 0)] (.slice (.int .u8)) v.2.1.2.2.2.1, .val [(0, 0)] (.slice (.prod (.int .i64) (.prod (.int .i64) .unit))) v.2.1.2.2.2.2.1, .val [] (.int .i64) v.2.1.2.2.2.2.2.1, .val [] (.int .i64) v.2.1.2.2.2.2.2.2.1, .val [] (.int .i64) v.2.1.2.2.2.2.2.2.2.1, .val [] (.int .i64) v.2.1.2.2.2.2.2.2.2.2.1]⟩])) v.1.2.2.1 v.2.1.1 v.2.1.2.1 v.2.1.2.2.1 v.2.1.2.2.2.1 v.2.1.2.2.2.2.1 v.2.1.2.2.2.2.2.1 v.2.1.2.2.2.2.2.2.1 v.2.1.2.2.2.2.2.2.2.1 v.2.1.2.2.2.2.2.2.2.2.1 v.2.2.1 k v.1.2.2.2.1) (inner T an94 (modesOf F) 0 k 64 (S94 k) (ending T Try.f94 an94 0 K) cd94_0 (sh sp94_0 ws rs) N X) ws rs
noncomputable def L94 (id : Nat) (ws : List PV) (rs : List RowS) (N : St → Option R) (X : Nat → St → Option R) : Option R := bif id == 1000004 then L94_1000004 k K ws rs N X else bif id == 2 then L94_2 k K ws rs N X else bif id == 0 then L94_0 k K ws rs N X else none
theorem l94_1000004 (ws : List PV) (rs : List RowS) (N : St → Option R) (X : Nat → St → Option R) : L94 k K 1000004 ws rs N X = inner T an94 (modesOf F) 0 k 64 (S94 k) (ending T Try.f94 an94 0 K) cd94_1000004 (sh sp94_1000004 ws rs) N X := by
  show L94_1000004 k K ws rs N X = _
  unfold L94_1000004
  rw [f94_1000004_def]
  exact onShape_eq (a := [.ptr 1 0, .val [] (.int .i64), .val [] (.int .i64), .val [] .bool]) (b := [.vars [.val [] (.int .i64), .val [] (.int .i64), .val [] .str, .val [(0, 0)] (.slice (.int .u8)), .val [(0, 0)] (.slice (.prod (.int .i64) (.prod (.int .i64) .unit))), .val [] (.int .i64), .val [] (.int .i64), .val [] (.int .i64), .val [] (.int .i64)]]) (G := fun ws rs => inner T an94 (modesOf F) 0 k 64 (S94 k) (ending T Try.f94 an94 0 K) cd94_1000004 (sh sp94_1000004 ws rs) N X) (fun x y => Eq.trans (by kernel_rfl) (innerS_eq T an94 (modesOf F) 0 k 64 (S94 k) (L94 k K) cd94_1000004 (l := []) (by kernel_rfl) trivial _ N X)) ws rs
theorem b94_2 (rec : St → Option R) (N : St → Option R) (X : Nat → St → Option R) (v2_0 : Int) (v2_1 : Int) (v2_2 : List Int) (v2_3 : Int) (v2_5 : Int) (v2_6 : Int) (v2_7 : ByteArray) (v2_8 : List Int) (v2_9 : List ((Int × (Int × Unit)))) (v2_10 : Int) (v2_11 : Int) (v2_12 : Int) (v2_13 : Int) (v2_14 : List (Int × (Int × Unit))) (v2_4 : Int) :
    execS T an94 (modesOf F) 0 k 64 (S94 k) (L94 k K) (ending T Try.f94 an94 0 K) bd94_2 (sh sp94_2 [.ptr 1 0, .rw 2, .val [] (.int .i64) v2_0, .val [] (.int .i64) v2_1, .val [(0, 0)] (.slice (.int .u8)) v2_2, .val [] (.int .i64) v2_3, .val [] (.int .i64) v2_4] [⟨0, .vars [.val [] (.int .i64) v2_5, .val [] (.int .i64) v2_6, .val [] .str v2_7, .val [(0, 0)] (.slice (.int .u8)) v2_8, .val [(0, 0)] (.slice (.prod (.int .i64) (.prod (.int .i64) .unit))) v2_9, .val [] (.int .i64) v2_10, .val [] (.int .i64) v2_11, .val [] (.int .i64) v2_12, .val [] (.int .i64) v2_13]⟩, ⟨0, .arr [] (.prod (.int .i64) (.prod (.int .i64) .unit)) v2_14⟩]) (fun st => atHead an94 0 bd94_2 st rec) (outX an94 0 2 N X) =
      f94_2b k (fun v2_4 => rec (sh sp94_2 [.ptr 1 0, .rw 2, .val [] (.int .i64) v2_0, .val [] (.int .i64) v2_1, .val [(0, 0)] (.slice (.int .u8)) v2_2, .val [] (.int .i64) v2_3, .val [] (.int .i64) v2_4] [⟨0, .vars [.val [] (.int .i64) v2_5, .val [] (.int .i64) v2_6, .val [] .str v2_7, .val [(0, 0)] (.slice (.int .u8)) v2_8, .val [(0, 0)] (.slice (.prod (.int .i64) (.prod (.int .i64) .unit))) v2_9, .val [] (.int .i64) v2_10, .val [] (.int .i64) v2_11, .val [] (.int .i64) v2_12, .val [] (.int .i64) v2_13]⟩, ⟨0, .arr [] (.prod (.int .i64) (.prod (.int .i64) .unit)) v2_14⟩])) (fun z0 => K [.val [] (.int .i64) z0] []) (N (sh jn94_2 [.ptr 1 0, .rw 2, .val [] (.int .i64) v2_0, .val [] (.int .i64) v2_1] [⟨0, .vars [.val [] (.int .i64) v2_5, .val [] (.int .i64) v2_6, .val [] .str v2_7, .val [(0, 0)] (.slice (.int .u8)) v2_8, .val [(0, 0)] (.slice (.prod (.int .i64) (.prod (.int .i64) .unit))) v2_9, .val [] (.int .i64) v2_10, .val [] (.int .i64) v2_11, .val [] (.int .i64) v2_12, .val [] (.int .i64) v2_13]⟩, ⟨0, .arr [] (.prod (.int .i64) (.prod (.int .i64) .unit)) v2_14⟩])) v2_0 v2_1 v2_2 v2_3 v2_5 v2_6 v2_7 v2_8 v2_9 v2_10 v2_11 v2_12 v2_13 v2_14 v2_4 := by kernel_rfl
theorem i94_2 (N : St → Option R) (X : Nat → St → Option R) (v2_0 : Int) (v2_1 : Int) (v2_2 : List Int) (v2_3 : Int) (v2_5 : Int) (v2_6 : Int) (v2_7 : ByteArray) (v2_8 : List Int) (v2_9 : List ((Int × (Int × Unit)))) (v2_10 : Int) (v2_11 : Int) (v2_12 : Int) (v2_13 : Int) (v2_14 : List (Int × (Int × Unit))) (m : Nat) : ∀ (v2_4 : Int),
    iter (atHead an94 0 bd94_2) m (fun st N' => exec T an94 (modesOf F) 0 k 64 (S94 k) (ending T Try.f94 an94 0 K) bd94_2 st N' (outX an94 0 2 N X)) (sh sp94_2 [.ptr 1 0, .rw 2, .val [] (.int .i64) v2_0, .val [] (.int .i64) v2_1, .val [(0, 0)] (.slice (.int .u8)) v2_2, .val [] (.int .i64) v2_3, .val [] (.int .i64) v2_4] [⟨0, .vars [.val [] (.int .i64) v2_5, .val [] (.int .i64) v2_6, .val [] .str v2_7, .val [(0, 0)] (.slice (.int .u8)) v2_8, .val [(0, 0)] (.slice (.prod (.int .i64) (.prod (.int .i64) .unit))) v2_9, .val [] (.int .i64) v2_10, .val [] (.int .i64) v2_11, .val [] (.int .i64) v2_12, .val [] (.int .i64) v2_13]⟩, ⟨0, .arr [] (.prod (.int .i64) (.prod (.int .i64) .unit)) v2_14⟩]) = f94_2d k (fun z0 => K [.val [] (.int .i64) z0] []) (N (sh jn94_2 [.ptr 1 0, .rw 2, .val [] (.int .i64) v2_0, .val [] (.int .i64) v2_1] [⟨0, .vars [.val [] (.int .i64) v2_5, .val [] (.int .i64) v2_6, .val [] .str v2_7, .val [(0, 0)] (.slice (.int .u8)) v2_8, .val [(0, 0)] (.slice (.prod (.int .i64) (.prod (.int .i64) .unit))) v2_9, .val [] (.int .i64) v2_10, .val [] (.int .i64) v2_11, .val [] (.int .i64) v2_12, .val [] (.int .i64) v2_13]⟩, ⟨0, .arr [] (.prod (.int .i64) (.prod (.int .i64) .unit)) v2_14⟩])) v2_0 v2_1 v2_2 v2_3 v2_5 v2_6 v2_7 v2_8 v2_9 v2_10 v2_11 v2_12 v2_13 v2_14 m v2_4 := by
  induction m with
  | zero => intros; rfl
  | succ m ih =>
    intro v2_4
    simp only [iter]
    rw [← execS_eq T an94 (modesOf F) 0 k 64 (S94 k) (L94 k K) bd94_2 (cuts_of _ _ _ _ _ _ _ _ bd94_2 (l := []) (by kernel_rfl) trivial)]
    refine (b94_2 k K _ N X v2_0 v2_1 v2_2 v2_3 v2_5 v2_6 v2_7 v2_8 v2_9 v2_10 v2_11 v2_12 v2_13 v2_14 v2_4).trans ?_
    simp only [f94_2d, ih]
theorem l94_2 (ws : List PV) (rs : List RowS) (N : St → Option R) (X : Nat → St → Option R) : L94 k K 2 ws rs N X = inner T an94 (modesOf F) 0 k 64 (S94 k) (ending T Try.f94 an94 0 K) cd94_2 (sh sp94_2 ws rs) N X := by
  show L94_2 k K ws rs N X = _
  unfold L94_2
  rw [f94_2_def]
  exact onShape_eq (a := [.ptr 1 0, .rw 2, .val [] (.int .i64), .val [] (.int .i64), .val [(0, 0)] (.slice (.int .u8)), .val [] (.int .i64), .val [] (.int .i64)]) (b := [.vars [.val [] (.int .i64), .val [] (.int .i64), .val [] .str, .val [(0, 0)] (.slice (.int .u8)), .val [(0, 0)] (.slice (.prod (.int .i64) (.prod (.int .i64) .unit))), .val [] (.int .i64), .val [] (.int .i64), .val [] (.int .i64), .val [] (.int .i64)], .arr [] (.prod (.int .i64) (.prod (.int .i64) .unit))]) (G := fun ws rs => inner T an94 (modesOf F) 0 k 64 (S94 k) (ending T Try.f94 an94 0 K) cd94_2 (sh sp94_2 ws rs) N X) (fun x y => Eq.trans (by kernel_rfl) (Eq.trans (i94_2 k K N X x.2.2.1 x.2.2.2.1 x.2.2.2.2.1 x.2.2.2.2.2.1 y.1.1 y.1.2.1 y.1.2.2.1 y.1.2.2.2.1 y.1.2.2.2.2.1 y.1.2.2.2.2.2.1 y.1.2.2.2.2.2.2.1 y.1.2.2.2.2.2.2.2.1 y.1.2.2.2.2.2.2.2.2.1 y.2.1 k x.2.2.2.2.2.2.1).symm (by kernel_rfl))) ws rs
theorem b94_0 (rec : St → Option R) (N : St → Option R) (X : Nat → St → Option R) (v0_0 : Int) (v0_2 : Int) (v0_3 : Int) (v0_4 : ByteArray) (v0_5 : List Int) (v0_6 : List ((Int × (Int × Unit)))) (v0_7 : Int) (v0_8 : Int) (v0_9 : Int) (v0_10 : Int) (v0_11 : List (Int × (Int × Unit))) (v0_1 : Int) :
    execS T an94 (modesOf F) 0 k 64 (S94 k) (L94 k K) (ending T Try.f94 an94 0 K) bd94_0 (sh sp94_0 [.ptr 1 0, .rw 2, .val [] (.int .i64) v0_0, .val [] (.int .i64) v0_1] [⟨0, .vars [.val [] (.int .i64) v0_2, .val [] (.int .i64) v0_3, .val [] .str v0_4, .val [(0, 0)] (.slice (.int .u8)) v0_5, .val [(0, 0)] (.slice (.prod (.int .i64) (.prod (.int .i64) .unit))) v0_6, .val [] (.int .i64) v0_7, .val [] (.int .i64) v0_8, .val [] (.int .i64) v0_9, .val [] (.int .i64) v0_10]⟩, ⟨0, .arr [] (.prod (.int .i64) (.prod (.int .i64) .unit)) v0_11⟩]) (fun st => atHead an94 0 bd94_0 st rec) (outX an94 0 0 N X) =
      f94_0b k (fun v0_1 => rec (sh sp94_0 [.ptr 1 0, .rw 2, .val [] (.int .i64) v0_0, .val [] (.int .i64) v0_1] [⟨0, .vars [.val [] (.int .i64) v0_2, .val [] (.int .i64) v0_3, .val [] .str v0_4, .val [(0, 0)] (.slice (.int .u8)) v0_5, .val [(0, 0)] (.slice (.prod (.int .i64) (.prod (.int .i64) .unit))) v0_6, .val [] (.int .i64) v0_7, .val [] (.int .i64) v0_8, .val [] (.int .i64) v0_9, .val [] (.int .i64) v0_10]⟩, ⟨0, .arr [] (.prod (.int .i64) (.prod (.int .i64) .unit)) v0_11⟩])) (fun z0 => K [.val [] (.int .i64) z0] []) (N (sh jn94_0 [.ptr 1 0] [⟨0, .vars [.val [] (.int .i64) v0_2, .val [] (.int .i64) v0_3, .val [] .str v0_4, .val [(0, 0)] (.slice (.int .u8)) v0_5, .val [(0, 0)] (.slice (.prod (.int .i64) (.prod (.int .i64) .unit))) v0_6, .val [] (.int .i64) v0_7, .val [] (.int .i64) v0_8, .val [] (.int .i64) v0_9, .val [] (.int .i64) v0_10]⟩])) v0_0 v0_2 v0_3 v0_4 v0_5 v0_6 v0_7 v0_8 v0_9 v0_10 v0_11 v0_1 := by kernel_rfl
theorem i94_0 (N : St → Option R) (X : Nat → St → Option R) (v0_0 : Int) (v0_2 : Int) (v0_3 : Int) (v0_4 : ByteArray) (v0_5 : List Int) (v0_6 : List ((Int × (Int × Unit)))) (v0_7 : Int) (v0_8 : Int) (v0_9 : Int) (v0_10 : Int) (v0_11 : List (Int × (Int × Unit))) (m : Nat) : ∀ (v0_1 : Int),
    iter (atHead an94 0 bd94_0) m (fun st N' => exec T an94 (modesOf F) 0 k 64 (S94 k) (ending T Try.f94 an94 0 K) bd94_0 st N' (outX an94 0 0 N X)) (sh sp94_0 [.ptr 1 0, .rw 2, .val [] (.int .i64) v0_0, .val [] (.int .i64) v0_1] [⟨0, .vars [.val [] (.int .i64) v0_2, .val [] (.int .i64) v0_3, .val [] .str v0_4, .val [(0, 0)] (.slice (.int .u8)) v0_5, .val [(0, 0)] (.slice (.prod (.int .i64) (.prod (.int .i64) .unit))) v0_6, .val [] (.int .i64) v0_7, .val [] (.int .i64) v0_8, .val [] (.int .i64) v0_9, .val [] (.int .i64) v0_10]⟩, ⟨0, .arr [] (.prod (.int .i64) (.prod (.int .i64) .unit)) v0_11⟩]) = f94_0d k (fun z0 => K [.val [] (.int .i64) z0] []) (N (sh jn94_0 [.ptr 1 0] [⟨0, .vars [.val [] (.int .i64) v0_2, .val [] (.int .i64) v0_3, .val [] .str v0_4, .val [(0, 0)] (.slice (.int .u8)) v0_5, .val [(0, 0)] (.slice (.prod (.int .i64) (.prod (.int .i64) .unit))) v0_6, .val [] (.int .i64) v0_7, .val [] (.int .i64) v0_8, .val [] (.int .i64) v0_9, .val [] (.int .i64) v0_10]⟩])) v0_0 v0_2 v0_3 v0_4 v0_5 v0_6 v0_7 v0_8 v0_9 v0_10 v0_11 m v0_1 := by
  induction m with
  | zero => intros; rfl
  | succ m ih =>
    intro v0_1
    simp only [iter]
    rw [← execS_eq T an94 (modesOf F) 0 k 64 (S94 k) (L94 k K) bd94_0 (cuts_of _ _ _ _ _ _ _ _ bd94_0 (l := [(2, sp94_2, cd94_2)]) (by kernel_rfl) ⟨l94_2 k K, trivial⟩)]
    refine (b94_0 k K _ N X v0_0 v0_2 v0_3 v0_4 v0_5 v0_6 v0_7 v0_8 v0_9 v0_10 v0_11 v0_1).trans ?_
    simp only [f94_0d, ih]
theorem l94_0 (ws : List PV) (rs : List RowS) (N : St → Option R) (X : Nat → St → Option R) : L94 k K 0 ws rs N X = inner T an94 (modesOf F) 0 k 64 (S94 k) (ending T Try.f94 an94 0 K) cd94_0 (sh sp94_0 ws rs) N X := by
  show L94_0 k K ws rs N X = _
  unfold L94_0
  rw [f94_0_def]
  exact onShape_eq (a := [.ptr 1 0, .rw 2, .val [] (.int .i64), .val [] (.int .i64)]) (b := [.vars [.val [] (.int .i64), .val [] (.int .i64), .val [] .str, .val [(0, 0)] (.slice (.int .u8)), .val [(0, 0)] (.slice (.prod (.int .i64) (.prod (.int .i64) .unit))), .val [] (.int .i64), .val [] (.int .i64), .val [] (.int .i64), .val [] (.int .i64)], .arr [] (.prod (.int .i64) (.prod (.int .i64) .unit))]) (G := fun ws rs => inner T an94 (modesOf F) 0 k 64 (S94 k) (ending T Try.f94 an94 0 K) cd94_0 (sh sp94_0 ws rs) N X) (fun x y => Eq.trans (by kernel_rfl) (Eq.trans (i94_0 k K N X x.2.2.1 y.1.1 y.1.2.1 y.1.2.2.1 y.1.2.2.2.1 y.1.2.2.2.2.1 y.1.2.2.2.2.2.1 y.1.2.2.2.2.2.2.1 y.1.2.2.2.2.2.2.2.1 y.1.2.2.2.2.2.2.2.2.1 y.2.1 k x.2.2.2.1).symm (by kernel_rfl))) ws rs
end
theorem e94 (k : Nat) (a0 : Int) (a1 : Int) (a2 : ByteArray) (a3 : List Int) (a4 : List ((Int × (Int × Unit)))) (a5 : Int) (a6 : Int) (a7 : Int) (a8 : Int) (K : List PV → List RowS → Option R) : callC T F k 94 [.agg [.val [] (.int .i64) a0, .val [] (.int .i64) a1, .val [] .str a2, .val [(0, 0)] (.slice (.int .u8)) a3, .val [(0, 0)] (.slice (.prod (.int .i64) (.prod (.int .i64) .unit))) a4, .val [] (.int .i64) a5, .val [] (.int .i64) a6, .val [] (.int .i64) a7, .val [] (.int .i64) a8]] [] K = f94 k a0 a1 a2 a3 a4 a5 a6 a7 a8 (fun z0 => K [.val [] (.int .i64) z0] []) := by
  rw [f94_def]
  cases k with
  | zero => rfl
  | succ k =>
    refine Eq.trans (show _ = exec T an94 (modesOf F) 0 k 64 (callC T F k) (ending T Try.f94 an94 0 K) (bodyOf Try.f94) ⟨argEnv 0 [.agg [.val [] (.int .i64) a0, .val [] (.int .i64) a1, .val [] .str a2, .val [(0, 0)] (.slice (.int .u8)) a3, .val [(0, 0)] (.slice (.prod (.int .i64) (.prod (.int .i64) .unit))) a4, .val [] (.int .i64) a5, .val [] (.int .i64) a6, .val [] (.int .i64) a7, .val [] (.int .i64) a8]] (fun _ => none), rowsOf []⟩ (ending T Try.f94 an94 0 K) (fun _ _ => none) from by kernel_rfl) ?_
    rw [← S94_eq k, ← execS_eq T an94 (modesOf F) 0 k 64 (S94 k) (L94 k K) (bodyOf Try.f94) (cuts_of _ _ _ _ _ _ _ _ (bodyOf Try.f94) (l := [(1000004, sp94_1000004, cd94_1000004), (0, sp94_0, cd94_0)]) (by kernel_rfl) ⟨l94_1000004 k K, l94_0 k K, trivial⟩)]
    kernel_rfl
noncomputable def s94 (k : Nat) (a : List PV) (r : List RowS) (K : List PV → List RowS → Option R) : Option R :=
  onShape [.agg [.val [] (.int .i64), .val [] (.int .i64), .val [] .str, .val [(0, 0)] (.slice (.int .u8)), .val [(0, 0)] (.slice (.prod (.int .i64) (.prod (.int .i64) .unit))), .val [] (.int .i64), .val [] (.int .i64), .val [] (.int .i64), .val [] (.int .i64)]] [] (fun v => f94 k v.1.1.1 v.1.1.2.1 v.1.1.2.2.1 v.1.1.2.2.2.1 v.1.1.2.2.2.2.1 v.1.1.2.2.2.2.2.1 v.1.1.2.2.2.2.2.2.1 v.1.1.2.2.2.2.2.2.2.1 v.1.1.2.2.2.2.2.2.2.2.1 (fun z0 => K [.val [] (.int .i64) z0] [])) (callC T F k 94 a r K) a r
theorem s94_eq (k : Nat) (a : List PV) (r : List RowS) (K : List PV → List RowS → Option R) : s94 k a r K = callC T F k 94 a r K := by
  unfold s94
  exact onShape_eq (a := [.agg [.val [] (.int .i64), .val [] (.int .i64), .val [] .str, .val [(0, 0)] (.slice (.int .u8)), .val [(0, 0)] (.slice (.prod (.int .i64) (.prod (.int .i64) .unit))), .val [] (.int .i64), .val [] (.int .i64), .val [] (.int .i64), .val [] (.int .i64)]]) (b := []) (G := fun a r => callC T F k 94 a r K) (fun x y => Eq.trans (by kernel_rfl) (Eq.trans (e94 k x.1.1 x.1.2.1 x.1.2.2.1 x.1.2.2.2.1 x.1.2.2.2.2.1 x.1.2.2.2.2.2.1 x.1.2.2.2.2.2.2.1 x.1.2.2.2.2.2.2.2.1 x.1.2.2.2.2.2.2.2.2.1 K).symm (by kernel_rfl))) a r
end
section
variable {R : Type}
noncomputable def S95 (k g : Nat) (a : List PV) (r : List RowS) (K : List PV → List RowS → Option R) : Option R := bif g == 87 then s87 k a r K else callC T F k g a r K
theorem S95_eq (k : Nat) : S95 (R := R) k = callC T F k := by
  funext g a r K
  exact pick_eq (fun e => by subst e; exact s87_eq k a r K) (rfl)
theorem e95 (k : Nat) (a0 : Int) (a1 : Int) (a2 : ByteArray) (a3 : List Int) (a4 : List ((Int × (Int × Unit)))) (a5 : Int) (a6 : Int) (a7 : Int) (a8 : Int) (K : List PV → List RowS → Option R) : callC T F k 95 [.agg [.val [] (.int .i64) a0, .val [] (.int .i64) a1, .val [] .str a2, .val [(0, 0)] (.slice (.int .u8)) a3, .val [(0, 0)] (.slice (.prod (.int .i64) (.prod (.int .i64) .unit))) a4, .val [] (.int .i64) a5, .val [] (.int .i64) a6, .val [] (.int .i64) a7, .val [] (.int .i64) a8]] [] K = f95 k a0 a1 a2 a3 a4 a5 a6 a7 a8 (fun z0 => K [.rw 1] [⟨0, .arr [] (.prod (.int .i64) (.prod (.int .i64) .unit)) z0⟩]) := by
  rw [f95_def]
  cases k with
  | zero => rfl
  | succ k =>
    refine Eq.trans (show _ = exec T an95 (modesOf F) 0 k 8 (callC T F k) (ending T Try.f95 an95 0 K) (bodyOf Try.f95) ⟨argEnv 0 [.agg [.val [] (.int .i64) a0, .val [] (.int .i64) a1, .val [] .str a2, .val [(0, 0)] (.slice (.int .u8)) a3, .val [(0, 0)] (.slice (.prod (.int .i64) (.prod (.int .i64) .unit))) a4, .val [] (.int .i64) a5, .val [] (.int .i64) a6, .val [] (.int .i64) a7, .val [] (.int .i64) a8]] (fun _ => none), rowsOf []⟩ (ending T Try.f95 an95 0 K) (fun _ _ => none) from by kernel_rfl) ?_
    rw [← S95_eq k, ← execS_eq T an95 (modesOf F) 0 k 8 (S95 k) (fun _ _ _ _ _ => none) (bodyOf Try.f95) (cuts_of _ _ _ _ _ _ _ _ (bodyOf Try.f95) (l := []) (by kernel_rfl) trivial)]
    kernel_rfl
noncomputable def s95 (k : Nat) (a : List PV) (r : List RowS) (K : List PV → List RowS → Option R) : Option R :=
  onShape [.agg [.val [] (.int .i64), .val [] (.int .i64), .val [] .str, .val [(0, 0)] (.slice (.int .u8)), .val [(0, 0)] (.slice (.prod (.int .i64) (.prod (.int .i64) .unit))), .val [] (.int .i64), .val [] (.int .i64), .val [] (.int .i64), .val [] (.int .i64)]] [] (fun v => f95 k v.1.1.1 v.1.1.2.1 v.1.1.2.2.1 v.1.1.2.2.2.1 v.1.1.2.2.2.2.1 v.1.1.2.2.2.2.2.1 v.1.1.2.2.2.2.2.2.1 v.1.1.2.2.2.2.2.2.2.1 v.1.1.2.2.2.2.2.2.2.2.1 (fun z0 => K [.rw 1] [⟨0, .arr [] (.prod (.int .i64) (.prod (.int .i64) .unit)) z0⟩])) (callC T F k 95 a r K) a r
theorem s95_eq (k : Nat) (a : List PV) (r : List RowS) (K : List PV → List RowS → Option R) : s95 k a r K = callC T F k 95 a r K := by
  unfold s95
  exact onShape_eq (a := [.agg [.val [] (.int .i64), .val [] (.int .i64), .val [] .str, .val [(0, 0)] (.slice (.int .u8)), .val [(0, 0)] (.slice (.prod (.int .i64) (.prod (.int .i64) .unit))), .val [] (.int .i64), .val [] (.int .i64), .val [] (.int .i64), .val [] (.int .i64)]]) (b := []) (G := fun a r => callC T F k 95 a r K) (fun x y => Eq.trans (by kernel_rfl) (Eq.trans (e95 k x.1.1 x.1.2.1 x.1.2.2.1 x.1.2.2.2.1 x.1.2.2.2.2.1 x.1.2.2.2.2.2.1 x.1.2.2.2.2.2.2.1 x.1.2.2.2.2.2.2.2.1 x.1.2.2.2.2.2.2.2.2.1 K).symm (by kernel_rfl))) a r
end
section
variable {R : Type}
noncomputable def S56 (k g : Nat) (a : List PV) (r : List RowS) (K : List PV → List RowS → Option R) : Option R := bif g == 45 then s45 k a r K else bif g == 66 then s66 k a r K else bif g == 68 then s68 k a r K else bif g == 94 then s94 k a r K else bif g == 95 then s95 k a r K else callC T F k g a r K
theorem S56_eq (k : Nat) : S56 (R := R) k = callC T F k := by
  funext g a r K
  exact pick_eq (fun e => by subst e; exact s45_eq k a r K) (pick_eq (fun e => by subst e; exact s66_eq k a r K) (pick_eq (fun e => by subst e; exact s68_eq k a r K) (pick_eq (fun e => by subst e; exact s94_eq k a r K) (pick_eq (fun e => by subst e; exact s95_eq k a r K) (rfl)))))
section
variable {R : Type} (k : Nat) (K : List PV → List RowS → Option R)
noncomputable def L56_1000011 (ws : List PV) (rs : List RowS) (N : St → Option R) (X : Nat → St → Option R) : Option R :=
  onShape [.ptr 1 0, .val [] (.int .i64), .val [] .bool] [.vars [.val [] (.int .i64), .val [] (.int .i64), .val [] .str, .val [(0, 0)] (.slice (.int .u8)), .val [(0, 0)] (.slice (.prod (.int .i64) (.prod (.int .i64) .unit))), .val [] (.int .i64), .val [] (.int .i64), .val [] (.int .i64), .val [] (.int .i64)]] (fun v => f56_1000011 k (fun yN_0 => N (sh fi56_11 [.ptr 1 0, .val [] (.int .i64) yN_0] [⟨0, .vars [.val [] (.int .i64) v.2.1.1, .val [] (.int .i64) v.2.1.2.1, .val [] .str v.2.1.2.2.1, .val [(0, 0)] (.slice (.int .u8)) v.2.1.2.2.2.1, .val [(0, 0)] (.slice (.prod (.int .i64) (.prod (.int .i64) .unit))) v.2.1.2.2.2.2.1, .val [] (.int .i64) v.2.1.2.2.2.2.2.1, .val [] (.int .i64) v.2.1.2.2.2.2.2.2.1, .val [] (.int .i64) v.2.1.2.2.2.2.2.2.2.1, .val [] (.int .i64) v.2.1.2.2.2.2.2.2.2.2.1]⟩])) v.1.2.1 v.1.2.2.1 v.2.1.1 v.2.1.2.1 v.2.1.2.2.1 v.2.1.2.2.2.1 v.2.1.2.2.2.2.1 v.2.1.2.2.2.2.2.1 v.2.1.2.2.2.2.2.2.1 v.2.1.2.2.2.2.2.2.2.1 v.2.1.2.2.2.2.2.2.2.2.1) (inner T an56 (modesOf F) 0 k 132 (S56 k) (ending T Try.f56 an56 0 K) cd56_1000011 (sh sp56_1000011 ws rs) N X) ws rs
noncomputable def L56 (id : Nat) (ws : List PV) (rs : List RowS) (N : St → Option R) (X : Nat → St → Option R) : Option R := bif id == 1000011 then L56_1000011 k K ws rs N X else none
theorem l56_1000011 (ws : List PV) (rs : List RowS) (N : St → Option R) (X : Nat → St → Option R) : L56 k K 1000011 ws rs N X = inner T an56 (modesOf F) 0 k 132 (S56 k) (ending T Try.f56 an56 0 K) cd56_1000011 (sh sp56_1000011 ws rs) N X := by
  show L56_1000011 k K ws rs N X = _
  unfold L56_1000011
  rw [f56_1000011_def]
  exact onShape_eq (a := [.ptr 1 0, .val [] (.int .i64), .val [] .bool]) (b := [.vars [.val [] (.int .i64), .val [] (.int .i64), .val [] .str, .val [(0, 0)] (.slice (.int .u8)), .val [(0, 0)] (.slice (.prod (.int .i64) (.prod (.int .i64) .unit))), .val [] (.int .i64), .val [] (.int .i64), .val [] (.int .i64), .val [] (.int .i64)]]) (G := fun ws rs => inner T an56 (modesOf F) 0 k 132 (S56 k) (ending T Try.f56 an56 0 K) cd56_1000011 (sh sp56_1000011 ws rs) N X) (fun x y => Eq.trans (by kernel_rfl) (innerS_eq T an56 (modesOf F) 0 k 132 (S56 k) (L56 k K) cd56_1000011 (l := []) (by kernel_rfl) trivial _ N X)) ws rs
end
theorem e56 (k : Nat) (a0 : Int) (a1 : Int) (a2 : ByteArray) (a3 : List Int) (a4 : List ((Int × (Int × Unit)))) (a5 : Int) (a6 : Int) (a7 : Int) (a8 : Int) (K : List PV → List RowS → Option R) : callC T F k 56 [.agg [.val [] (.int .i64) a0, .val [] (.int .i64) a1, .val [] .str a2, .val [(0, 0)] (.slice (.int .u8)) a3, .val [(0, 0)] (.slice (.prod (.int .i64) (.prod (.int .i64) .unit))) a4, .val [] (.int .i64) a5, .val [] (.int .i64) a6, .val [] (.int .i64) a7, .val [] (.int .i64) a8]] [] K = f56 k a0 a1 a2 a3 a4 a5 a6 a7 a8 (fun z0 => K [.val [] (.int .i64) z0] []) := by
  rw [f56_def]
  cases k with
  | zero => rfl
  | succ k =>
    refine Eq.trans (show _ = exec T an56 (modesOf F) 0 k 132 (callC T F k) (ending T Try.f56 an56 0 K) (bodyOf Try.f56) ⟨argEnv 0 [.agg [.val [] (.int .i64) a0, .val [] (.int .i64) a1, .val [] .str a2, .val [(0, 0)] (.slice (.int .u8)) a3, .val [(0, 0)] (.slice (.prod (.int .i64) (.prod (.int .i64) .unit))) a4, .val [] (.int .i64) a5, .val [] (.int .i64) a6, .val [] (.int .i64) a7, .val [] (.int .i64) a8]] (fun _ => none), rowsOf []⟩ (ending T Try.f56 an56 0 K) (fun _ _ => none) from by kernel_rfl) ?_
    rw [← S56_eq k, ← execS_eq T an56 (modesOf F) 0 k 132 (S56 k) (L56 k K) (bodyOf Try.f56) (cuts_of _ _ _ _ _ _ _ _ (bodyOf Try.f56) (l := [(1000011, sp56_1000011, cd56_1000011)]) (by kernel_rfl) ⟨l56_1000011 k K, trivial⟩)]
    kernel_rfl
noncomputable def s56 (k : Nat) (a : List PV) (r : List RowS) (K : List PV → List RowS → Option R) : Option R :=
  onShape [.agg [.val [] (.int .i64), .val [] (.int .i64), .val [] .str, .val [(0, 0)] (.slice (.int .u8)), .val [(0, 0)] (.slice (.prod (.int .i64) (.prod (.int .i64) .unit))), .val [] (.int .i64), .val [] (.int .i64), .val [] (.int .i64), .val [] (.int .i64)]] [] (fun v => f56 k v.1.1.1 v.1.1.2.1 v.1.1.2.2.1 v.1.1.2.2.2.1 v.1.1.2.2.2.2.1 v.1.1.2.2.2.2.2.1 v.1.1.2.2.2.2.2.2.1 v.1.1.2.2.2.2.2.2.2.1 v.1.1.2.2.2.2.2.2.2.2.1 (fun z0 => K [.val [] (.int .i64) z0] [])) (callC T F k 56 a r K) a r
theorem s56_eq (k : Nat) (a : List PV) (r : List RowS) (K : List PV → List RowS → Option R) : s56 k a r K = callC T F k 56 a r K := by
  unfold s56
  exact onShape_eq (a := [.agg [.val [] (.int .i64), .val [] (.int .i64), .val [] .str, .val [(0, 0)] (.slice (.int .u8)), .val [(0, 0)] (.slice (.prod (.int .i64) (.prod (.int .i64) .unit))), .val [] (.int .i64), .val [] (.int .i64), .val [] (.int .i64), .val [] (.int .i64)]]) (b := []) (G := fun a r => callC T F k 56 a r K) (fun x y => Eq.trans (by kernel_rfl) (Eq.trans (e56 k x.1.1 x.1.2.1 x.1.2.2.1 x.1.2.2.2.1 x.1.2.2.2.2.1 x.1.2.2.2.2.2.1 x.1.2.2.2.2.2.2.1 x.1.2.2.2.2.2.2.2.1 x.1.2.2.2.2.2.2.2.2.1 K).symm (by kernel_rfl))) a r
end
section
variable {R : Type}
noncomputable def S83 (k g : Nat) (a : List PV) (r : List RowS) (K : List PV → List RowS → Option R) : Option R := bif g == 77 then s77 k a r K else bif g == 109 then s109 k a r K else callC T F k g a r K
theorem S83_eq (k : Nat) : S83 (R := R) k = callC T F k := by
  funext g a r K
  exact pick_eq (fun e => by subst e; exact s77_eq k a r K) (pick_eq (fun e => by subst e; exact s109_eq k a r K) (rfl))
theorem e83 (k : Nat) (a0 : Int) (a1 : Int) (a2 : ByteArray) (a3 : List Int) (a4 : List ((Int × (Int × Unit)))) (a5 : Int) (a6 : Int) (a7 : Int) (a8 : Int) (K : List PV → List RowS → Option R) : callC T F k 83 [.agg [.val [] (.int .i64) a0, .val [] (.int .i64) a1, .val [] .str a2, .val [(0, 0)] (.slice (.int .u8)) a3, .val [(0, 0)] (.slice (.prod (.int .i64) (.prod (.int .i64) .unit))) a4, .val [] (.int .i64) a5, .val [] (.int .i64) a6, .val [] (.int .i64) a7, .val [] (.int .i64) a8]] [] K = f83 k a0 a1 a2 a3 a4 a5 a6 a7 a8 (fun z0 z1 z2 z3 z4 z5 z6 z7 z8 => K [.agg [.val [] (.int .i64) z0, .val [] (.int .i64) z1, .val [] .str z2, .rw 1, .rw 2, .val [] (.int .i64) z3, .val [] (.int .i64) z4, .val [] (.int .i64) z5, .val [] (.int .i64) z6]] [⟨0, .arr [] (.int .u8) z7⟩, ⟨0, .arr [] (.prod (.int .i64) (.prod (.int .i64) .unit)) z8⟩]) := by
  rw [f83_def]
  cases k with
  | zero => rfl
  | succ k =>
    refine Eq.trans (show _ = exec T an83 (modesOf F) 0 k 12 (callC T F k) (ending T Try.f83 an83 0 K) (bodyOf Try.f83) ⟨argEnv 0 [.agg [.val [] (.int .i64) a0, .val [] (.int .i64) a1, .val [] .str a2, .val [(0, 0)] (.slice (.int .u8)) a3, .val [(0, 0)] (.slice (.prod (.int .i64) (.prod (.int .i64) .unit))) a4, .val [] (.int .i64) a5, .val [] (.int .i64) a6, .val [] (.int .i64) a7, .val [] (.int .i64) a8]] (fun _ => none), rowsOf []⟩ (ending T Try.f83 an83 0 K) (fun _ _ => none) from by kernel_rfl) ?_
    rw [← S83_eq k, ← execS_eq T an83 (modesOf F) 0 k 12 (S83 k) (fun _ _ _ _ _ => none) (bodyOf Try.f83) (cuts_of _ _ _ _ _ _ _ _ (bodyOf Try.f83) (l := []) (by kernel_rfl) trivial)]
    kernel_rfl
noncomputable def s83 (k : Nat) (a : List PV) (r : List RowS) (K : List PV → List RowS → Option R) : Option R :=
  onShape [.agg [.val [] (.int .i64), .val [] (.int .i64), .val [] .str, .val [(0, 0)] (.slice (.int .u8)), .val [(0, 0)] (.slice (.prod (.int .i64) (.prod (.int .i64) .unit))), .val [] (.int .i64), .val [] (.int .i64), .val [] (.int .i64), .val [] (.int .i64)]] [] (fun v => f83 k v.1.1.1 v.1.1.2.1 v.1.1.2.2.1 v.1.1.2.2.2.1 v.1.1.2.2.2.2.1 v.1.1.2.2.2.2.2.1 v.1.1.2.2.2.2.2.2.1 v.1.1.2.2.2.2.2.2.2.1 v.1.1.2.2.2.2.2.2.2.2.1 (fun z0 z1 z2 z3 z4 z5 z6 z7 z8 => K [.agg [.val [] (.int .i64) z0, .val [] (.int .i64) z1, .val [] .str z2, .rw 1, .rw 2, .val [] (.int .i64) z3, .val [] (.int .i64) z4, .val [] (.int .i64) z5, .val [] (.int .i64) z6]] [⟨0, .arr [] (.int .u8) z7⟩, ⟨0, .arr [] (.prod (.int .i64) (.prod (.int .i64) .unit)) z8⟩])) (callC T F k 83 a r K) a r
theorem s83_eq (k : Nat) (a : List PV) (r : List RowS) (K : List PV → List RowS → Option R) : s83 k a r K = callC T F k 83 a r K := by
  unfold s83
  exact onShape_eq (a := [.agg [.val [] (.int .i64), .val [] (.int .i64), .val [] .str, .val [(0, 0)] (.slice (.int .u8)), .val [(0, 0)] (.slice (.prod (.int .i64) (.prod (.int .i64) .unit))), .val [] (.int .i64), .val [] (.int .i64), .val [] (.int .i64), .val [] (.int .i64)]]) (b := []) (G := fun a r => callC T F k 83 a r K) (fun x y => Eq.trans (by kernel_rfl) (Eq.trans (e83 k x.1.1 x.1.2.1 x.1.2.2.1 x.1.2.2.2.1 x.1.2.2.2.2.1 x.1.2.2.2.2.2.1 x.1.2.2.2.2.2.2.1 x.1.2.2.2.2.2.2.2.1 x.1.2.2.2.2.2.2.2.2.1 K).symm (by kernel_rfl))) a r
end
section
variable {R : Type}
noncomputable def S132 (k g : Nat) (a : List PV) (r : List RowS) (K : List PV → List RowS → Option R) : Option R := callC T F k g a r K
theorem S132_eq (k : Nat) : S132 (R := R) k = callC T F k := by
  funext g a r K
  exact rfl
section
variable {R : Type} (k : Nat) (K : List PV → List RowS → Option R)
noncomputable def L132_1000002 (ws : List PV) (rs : List RowS) (N : St → Option R) (X : Nat → St → Option R) : Option R :=
  onShape [.nils, .val [] (.int .i64), .val [] .bool] [] (fun v => f132_1000002 k (N (sh fi132_2 [.nils, .val [] (.int .i64) v.1.2.1] [])) v.1.2.1 v.1.2.2.1) (inner T an132 (modesOf F) 0 k 27 (S132 k) (ending T Try.f132 an132 0 K) cd132_1000002 (sh sp132_1000002 ws rs) N X) ws rs
noncomputable def L132_1000005 (ws : List PV) (rs : List RowS) (N : St → Option R) (X : Nat → St → Option R) : Option R :=
  onShape [.nils, .val [] (.int .i64), .val [] .bool] [] (fun v => f132_1000005 k (fun yN_0 => N (sh fi132_5 [.rw 1] [⟨0, .arr [] (.prod (.int .i64) (.prod (.int .i64) .unit)) yN_0⟩])) v.1.2.1 v.1.2.2.1) (inner T an132 (modesOf F) 0 k 27 (S132 k) (ending T Try.f132 an132 0 K) cd132_1000005 (sh sp132_1000005 ws rs) N X) ws rs
noncomputable def L132 (id : Nat) (ws : List PV) (rs : List RowS) (N : St → Option R) (X : Nat → St → Option R) : Option R := bif id == 1000002 then L132_1000002 k K ws rs N X else bif id == 1000005 then L132_1000005 k K ws rs N X else none
theorem l132_1000002 (ws : List PV) (rs : List RowS) (N : St → Option R) (X : Nat → St → Option R) : L132 k K 1000002 ws rs N X = inner T an132 (modesOf F) 0 k 27 (S132 k) (ending T Try.f132 an132 0 K) cd132_1000002 (sh sp132_1000002 ws rs) N X := by
  show L132_1000002 k K ws rs N X = _
  unfold L132_1000002
  rw [f132_1000002_def]
  exact onShape_eq (a := [.nils, .val [] (.int .i64), .val [] .bool]) (b := []) (G := fun ws rs => inner T an132 (modesOf F) 0 k 27 (S132 k) (ending T Try.f132 an132 0 K) cd132_1000002 (sh sp132_1000002 ws rs) N X) (fun x y => Eq.trans (by kernel_rfl) (innerS_eq T an132 (modesOf F) 0 k 27 (S132 k) (L132 k K) cd132_1000002 (l := []) (by kernel_rfl) trivial _ N X)) ws rs
theorem l132_1000005 (ws : List PV) (rs : List RowS) (N : St → Option R) (X : Nat → St → Option R) : L132 k K 1000005 ws rs N X = inner T an132 (modesOf F) 0 k 27 (S132 k) (ending T Try.f132 an132 0 K) cd132_1000005 (sh sp132_1000005 ws rs) N X := by
  show L132_1000005 k K ws rs N X = _
  unfold L132_1000005
  rw [f132_1000005_def]
  exact onShape_eq (a := [.nils, .val [] (.int .i64), .val [] .bool]) (b := []) (G := fun ws rs => inner T an132 (modesOf F) 0 k 27 (S132 k) (ending T Try.f132 an132 0 K) cd132_1000005 (sh sp132_1000005 ws rs) N X) (fun x y => Eq.trans (by kernel_rfl) (innerS_eq T an132 (modesOf F) 0 k 27 (S132 k) (L132 k K) cd132_1000005 (l := []) (by kernel_rfl) trivial _ N X)) ws rs
end
theorem e132 (k : Nat) (a0 : Int) (K : List PV → List RowS → Option R) : callC T F k 132 [.nils, .val [] (.int .i64) a0] [] K = f132 k a0 (fun z0 => K [.rw 1] [⟨0, .arr [] (.prod (.int .i64) (.prod (.int .i64) .unit)) z0⟩]) := by
  rw [f132_def]
  cases k with
  | zero => rfl
  | succ k =>
    refine Eq.trans (show _ = exec T an132 (modesOf F) 0 k 27 (callC T F k) (ending T Try.f132 an132 0 K) (bodyOf Try.f132) ⟨argEnv 0 [.nils, .val [] (.int .i64) a0] (fun _ => none), rowsOf []⟩ (ending T Try.f132 an132 0 K) (fun _ _ => none) from by kernel_rfl) ?_
    rw [← S132_eq k, ← execS_eq T an132 (modesOf F) 0 k 27 (S132 k) (L132 k K) (bodyOf Try.f132) (cuts_of _ _ _ _ _ _ _ _ (bodyOf Try.f132) (l := [(1000002, sp132_1000002, cd132_1000002), (1000005, sp132_1000005, cd132_1000005)]) (by kernel_rfl) ⟨l132_1000002 k K, l132_1000005 k K, trivial⟩)]
    kernel_rfl
noncomputable def s132 (k : Nat) (a : List PV) (r : List RowS) (K : List PV → List RowS → Option R) : Option R :=
  onShape [.nils, .val [] (.int .i64)] [] (fun v => f132 k v.1.2.1 (fun z0 => K [.rw 1] [⟨0, .arr [] (.prod (.int .i64) (.prod (.int .i64) .unit)) z0⟩])) (callC T F k 132 a r K) a r
theorem s132_eq (k : Nat) (a : List PV) (r : List RowS) (K : List PV → List RowS → Option R) : s132 k a r K = callC T F k 132 a r K := by
  unfold s132
  exact onShape_eq (a := [.nils, .val [] (.int .i64)]) (b := []) (G := fun a r => callC T F k 132 a r K) (fun x y => Eq.trans (by kernel_rfl) (Eq.trans (e132 k x.2.1 K).symm (by kernel_rfl))) a r
end
section
variable {R : Type}
noncomputable def S114 (k g : Nat) (a : List PV) (r : List RowS) (K : List PV → List RowS → Option R) : Option R := bif g == 132 then s132 k a r K else callC T F k g a r K
theorem S114_eq (k : Nat) : S114 (R := R) k = callC T F k := by
  funext g a r K
  exact pick_eq (fun e => by subst e; exact s132_eq k a r K) (rfl)
section
variable {R : Type} (k : Nat) (K : List PV → List RowS → Option R)
noncomputable def L114_1000007 (ws : List PV) (rs : List RowS) (N : St → Option R) (X : Nat → St → Option R) : Option R :=
  onShape [.val [(0, 0)] (.slice (.slice (.prod (.int .i64) (.prod (.int .i64) .unit)))), .val [] (.int .i64), .val [(0, 0)] (.slice (.slice (.prod (.int .i64) (.prod (.int .i64) .unit)))), .val [] (.int .i64), .val [] (.int .i64), .val [] .bool] [] (fun v => f114_1000007 k (N (sh fi114_7 [.val [(0, 0)] (.slice (.slice (.prod (.int .i64) (.prod (.int .i64) .unit)))) v.1.1, .val [] (.int .i64) v.1.2.1, .val [(0, 0)] (.slice (.slice (.prod (.int .i64) (.prod (.int .i64) .unit)))) v.1.2.2.1, .val [] (.int .i64) v.1.2.2.2.1, .val [] (.int .i64) v.1.2.2.2.2.1] [])) v.1.1 v.1.2.1 v.1.2.2.1 v.1.2.2.2.1 v.1.2.2.2.2.1 v.1.2.2.2.2.2.1) (inner T an114 (modesOf F) 0 k 36 (S114 k) (ending T Try.f114 an114 0 K) cd114_1000007 (sh sp114_1000007 ws rs) N X) ws rs
noncomputable def L114_0 (ws : List PV) (rs : List RowS) (N : St → Option R) (X : Nat → St → Option R) : Option R :=
  onShape [.val [(0, 0)] (.slice (.slice (.prod (.int .i64) (.prod (.int .i64) .unit)))), .val [] (.int .i64), .val [(0, 0)] (.slice (.slice (.prod (.int .i64) (.prod (.int .i64) .unit)))), .val [] (.int .i64), .val [] (.int .i64)] [] (fun v => f114_0 k (fun y0_1 => N (sh jn114_0 [.val [(0, 0)] (.slice (.slice (.prod (.int .i64) (.prod (.int .i64) .unit)))) v.1.1, .val [] (.int .i64) y0_1] [])) v.1.1 v.1.2.2.1 v.1.2.2.2.1 k v.1.2.1 v.1.2.2.2.2.1) (inner T an114 (modesOf F) 0 k 36 (S114 k) (ending T Try.f114 an114 0 K) cd114_0 (sh sp114_0 ws rs) N X) ws rs
noncomputable def L114_2 (ws : List PV) (rs : List RowS) (N : St → Option R) (X : Nat → St → Option R) : Option R :=
  onShape [.rw 1, .val [(0, 0)] (.slice (.slice (.prod (.int .i64) (.prod (.int .i64) .unit)))), .val [] (.int .i64), .val [] (.int .i64)] [.arr [] (.prod (.int .i64) (.prod (.int .i64) .unit))] (fun v => f114_2 k (fun y2_0 => N (sh jn114_2 [.rw 1] [⟨0, .arr [] (.prod (.int .i64) (.prod (.int .i64) .unit)) y2_0⟩])) v.1.2.1 v.1.2.2.1 k v.1.2.2.2.1 v.2.1) (inner T an114 (modesOf F) 0 k 36 (S114 k) (ending T Try.f114 an114 0 K) cd114_2 (sh sp114_2 ws rs) N X) ws rs
noncomputable def L114 (id : Nat) (ws : List PV) (rs : List RowS) (N : St → Option R) (X : Nat → St → Option R) : Option R := bif id == 1000007 then L114_1000007 k K ws rs N X else bif id == 0 then L114_0 k K ws rs N X else bif id == 2 then L114_2 k K ws rs N X else none
theorem l114_1000007 (ws : List PV) (rs : List RowS) (N : St → Option R) (X : Nat → St → Option R) : L114 k K 1000007 ws rs N X = inner T an114 (modesOf F) 0 k 36 (S114 k) (ending T Try.f114 an114 0 K) cd114_1000007 (sh sp114_1000007 ws rs) N X := by
  show L114_1000007 k K ws rs N X = _
  unfold L114_1000007
  rw [f114_1000007_def]
  exact onShape_eq (a := [.val [(0, 0)] (.slice (.slice (.prod (.int .i64) (.prod (.int .i64) .unit)))), .val [] (.int .i64), .val [(0, 0)] (.slice (.slice (.prod (.int .i64) (.prod (.int .i64) .unit)))), .val [] (.int .i64), .val [] (.int .i64), .val [] .bool]) (b := []) (G := fun ws rs => inner T an114 (modesOf F) 0 k 36 (S114 k) (ending T Try.f114 an114 0 K) cd114_1000007 (sh sp114_1000007 ws rs) N X) (fun x y => Eq.trans (by kernel_rfl) (innerS_eq T an114 (modesOf F) 0 k 36 (S114 k) (L114 k K) cd114_1000007 (l := []) (by kernel_rfl) trivial _ N X)) ws rs
theorem b114_0 (rec : St → Option R) (N : St → Option R) (X : Nat → St → Option R) (v0_0 : List (List ((Int × (Int × Unit))))) (v0_2 : List (List ((Int × (Int × Unit))))) (v0_3 : Int) (v0_1 : Int) (v0_4 : Int) :
    execS T an114 (modesOf F) 0 k 36 (S114 k) (L114 k K) (ending T Try.f114 an114 0 K) bd114_0 (sh sp114_0 [.val [(0, 0)] (.slice (.slice (.prod (.int .i64) (.prod (.int .i64) .unit)))) v0_0, .val [] (.int .i64) v0_1, .val [(0, 0)] (.slice (.slice (.prod (.int .i64) (.prod (.int .i64) .unit)))) v0_2, .val [] (.int .i64) v0_3, .val [] (.int .i64) v0_4] []) (fun st => atHead an114 0 bd114_0 st rec) (outX an114 0 0 N X) =
      f114_0b k (fun v0_1 v0_4 => rec (sh sp114_0 [.val [(0, 0)] (.slice (.slice (.prod (.int .i64) (.prod (.int .i64) .unit)))) v0_0, .val [] (.int .i64) v0_1, .val [(0, 0)] (.slice (.slice (.prod (.int .i64) (.prod (.int .i64) .unit)))) v0_2, .val [] (.int .i64) v0_3, .val [] (.int .i64) v0_4] [])) (fun y0_1 => N (sh jn114_0 [.val [(0, 0)] (.slice (.slice (.prod (.int .i64) (.prod (.int .i64) .unit)))) v0_0, .val [] (.int .i64) y0_1] [])) v0_0 v0_2 v0_3 v0_1 v0_4 := by kernel_rfl
theorem i114_0 (N : St → Option R) (X : Nat → St → Option R) (v0_0 : List (List ((Int × (Int × Unit))))) (v0_2 : List (List ((Int × (Int × Unit))))) (v0_3 : Int) (m : Nat) : ∀ (v0_1 : Int) (v0_4 : Int),
    iter (atHead an114 0 bd114_0) m (fun st N' => exec T an114 (modesOf F) 0 k 36 (S114 k) (ending T Try.f114 an114 0 K) bd114_0 st N' (outX an114 0 0 N X)) (sh sp114_0 [.val [(0, 0)] (.slice (.slice (.prod (.int .i64) (.prod (.int .i64) .unit)))) v0_0, .val [] (.int .i64) v0_1, .val [(0, 0)] (.slice (.slice (.prod (.int .i64) (.prod (.int .i64) .unit)))) v0_2, .val [] (.int .i64) v0_3, .val [] (.int .i64) v0_4] []) = f114_0d k (fun y0_1 => N (sh jn114_0 [.val [(0, 0)] (.slice (.slice (.prod (.int .i64) (.prod (.int .i64) .unit)))) v0_0, .val [] (.int .i64) y0_1] [])) v0_0 v0_2 v0_3 m v0_1 v0_4 := by
  induction m with
  | zero => intros; rfl
  | succ m ih =>
    intro v0_1 v0_4
    simp only [iter]
    rw [← execS_eq T an114 (modesOf F) 0 k 36 (S114 k) (L114 k K) bd114_0 (cuts_of _ _ _ _ _ _ _ _ bd114_0 (l := [(1000007, sp114_1000007, cd114_1000007)]) (by kernel_rfl) ⟨l114_1000007 k K, trivial⟩)]
    refine (b114_0 k K _ N X v0_0 v0_2 v0_3 v0_1 v0_4).trans ?_
    simp only [f114_0d, ih]
theorem l114_0 (ws : List PV) (rs : List RowS) (N : St → Option R) (X : Nat → St → Option R) : L114 k K 0 ws rs N X = inner T an114 (modesOf F) 0 k 36 (S114 k) (ending T Try.f114 an114 0 K) cd114_0 (sh sp114_0 ws rs) N X := by
  show L114_0 k K ws rs N X = _
  unfold L114_0
  rw [f114_0_def]
  exact onShape_eq (a := [.val [(0, 0)] (.slice (.slice (.prod (.int .i64) (.prod (.int .i64) .unit)))), .val [] (.int .i64), .val [(0, 0)] (.slice (.slice (.prod (.int .i64) (.prod (.int .i64) .unit)))), .val [] (.int .i64), .val [] (.int .i64)]) (b := []) (G := fun ws rs => inner T an114 (modesOf F) 0 k 36 (S114 k) (ending T Try.f114 an114 0 K) cd114_0 (sh sp114_0 ws rs) N X) (fun x y => Eq.trans (by kernel_rfl) (Eq.trans (i114_0 k K N X x.1 x.2.2.1 x.2.2.2.1 k x.2.1 x.2.2.2.2.1).symm (by kernel_rfl))) ws rs
theorem b114_2 (rec : St → Option R) (N : St → Option R) (X : Nat → St → Option R) (v2_0 : List (List ((Int × (Int × Unit))))) (v2_1 : Int) (v2_2 : Int) (v2_3 : List (Int × (Int × Unit))) :
    execS T an114 (modesOf F) 0 k 36 (S114 k) (L114 k K) (ending T Try.f114 an114 0 K) bd114_2 (sh sp114_2 [.rw 1, .val [(0, 0)] (.slice (.slice (.prod (.int .i64) (.prod (.int .i64) .unit)))) v2_0, .val [] (.int .i64) v2_1, .val [] (.int .i64) v2_2] [⟨0, .arr [] (.prod (.int .i64) (.prod (.int .i64) .unit)) v2_3⟩]) (fun st => atHead an114 0 bd114_2 st rec) (outX an114 0 2 N X) =
      f114_2b k (fun v2_2 v2_3 => rec (sh sp114_2 [.rw 1, .val [(0, 0)] (.slice (.slice (.prod (.int .i64) (.prod (.int .i64) .unit)))) v2_0, .val [] (.int .i64) v2_1, .val [] (.int .i64) v2_2] [⟨0, .arr [] (.prod (.int .i64) (.prod (.int .i64) .unit)) v2_3⟩])) (fun y2_0 => N (sh jn114_2 [.rw 1] [⟨0, .arr [] (.prod (.int .i64) (.prod (.int .i64) .unit)) y2_0⟩])) v2_0 v2_1 v2_2 v2_3 := by kernel_rfl
theorem i114_2 (N : St → Option R) (X : Nat → St → Option R) (v2_0 : List (List ((Int × (Int × Unit))))) (v2_1 : Int) (m : Nat) : ∀ (v2_2 : Int) (v2_3 : List (Int × (Int × Unit))),
    iter (atHead an114 0 bd114_2) m (fun st N' => exec T an114 (modesOf F) 0 k 36 (S114 k) (ending T Try.f114 an114 0 K) bd114_2 st N' (outX an114 0 2 N X)) (sh sp114_2 [.rw 1, .val [(0, 0)] (.slice (.slice (.prod (.int .i64) (.prod (.int .i64) .unit)))) v2_0, .val [] (.int .i64) v2_1, .val [] (.int .i64) v2_2] [⟨0, .arr [] (.prod (.int .i64) (.prod (.int .i64) .unit)) v2_3⟩]) = f114_2d k (fun y2_0 => N (sh jn114_2 [.rw 1] [⟨0, .arr [] (.prod (.int .i64) (.prod (.int .i64) .unit)) y2_0⟩])) v2_0 v2_1 m v2_2 v2_3 := by
  induction m with
  | zero => intros; rfl
  | succ m ih =>
    intro v2_2 v2_3
    simp only [iter]
    rw [← execS_eq T an114 (modesOf F) 0 k 36 (S114 k) (L114 k K) bd114_2 (cuts_of _ _ _ _ _ _ _ _ bd114_2 (l := []) (by kernel_rfl) trivial)]
    refine (b114_2 k K _ N X v2_0 v2_1 v2_2 v2_3).trans ?_
    simp only [f114_2d, ih]
theorem l114_2 (ws : List PV) (rs : List RowS) (N : St → Option R) (X : Nat → St → Option R) : L114 k K 2 ws rs N X = inner T an114 (modesOf F) 0 k 36 (S114 k) (ending T Try.f114 an114 0 K) cd114_2 (sh sp114_2 ws rs) N X := by
  show L114_2 k K ws rs N X = _
  unfold L114_2
  rw [f114_2_def]
  exact onShape_eq (a := [.rw 1, .val [(0, 0)] (.slice (.slice (.prod (.int .i64) (.prod (.int .i64) .unit)))), .val [] (.int .i64), .val [] (.int .i64)]) (b := [.arr [] (.prod (.int .i64) (.prod (.int .i64) .unit))]) (G := fun ws rs => inner T an114 (modesOf F) 0 k 36 (S114 k) (ending T Try.f114 an114 0 K) cd114_2 (sh sp114_2 ws rs) N X) (fun x y => Eq.trans (by kernel_rfl) (Eq.trans (i114_2 k K N X x.2.1 x.2.2.1 k x.2.2.2.1 y.1).symm (by kernel_rfl))) ws rs
end
theorem e114 (k : Nat) (a0 : List (List ((Int × (Int × Unit))))) (K : List PV → List RowS → Option R) : callC T F k 114 [.val [(0, 0)] (.slice (.slice (.prod (.int .i64) (.prod (.int .i64) .unit)))) a0] [] K = f114 k a0 (fun z0 => K [.rw 1] [⟨0, .arr [] (.prod (.int .i64) (.prod (.int .i64) .unit)) z0⟩]) := by
  rw [f114_def]
  cases k with
  | zero => rfl
  | succ k =>
    refine Eq.trans (show _ = exec T an114 (modesOf F) 0 k 36 (callC T F k) (ending T Try.f114 an114 0 K) (bodyOf Try.f114) ⟨argEnv 0 [.val [(0, 0)] (.slice (.slice (.prod (.int .i64) (.prod (.int .i64) .unit)))) a0] (fun _ => none), rowsOf []⟩ (ending T Try.f114 an114 0 K) (fun _ _ => none) from by kernel_rfl) ?_
    rw [← S114_eq k, ← execS_eq T an114 (modesOf F) 0 k 36 (S114 k) (L114 k K) (bodyOf Try.f114) (cuts_of _ _ _ _ _ _ _ _ (bodyOf Try.f114) (l := [(0, sp114_0, cd114_0), (2, sp114_2, cd114_2)]) (by kernel_rfl) ⟨l114_0 k K, l114_2 k K, trivial⟩)]
    kernel_rfl
noncomputable def s114 (k : Nat) (a : List PV) (r : List RowS) (K : List PV → List RowS → Option R) : Option R :=
  onShape [.val [(0, 0)] (.slice (.slice (.prod (.int .i64) (.prod (.int .i64) .unit))))] [] (fun v => f114 k v.1.1 (fun z0 => K [.rw 1] [⟨0, .arr [] (.prod (.int .i64) (.prod (.int .i64) .unit)) z0⟩])) (callC T F k 114 a r K) a r
theorem s114_eq (k : Nat) (a : List PV) (r : List RowS) (K : List PV → List RowS → Option R) : s114 k a r K = callC T F k 114 a r K := by
  unfold s114
  exact onShape_eq (a := [.val [(0, 0)] (.slice (.slice (.prod (.int .i64) (.prod (.int .i64) .unit))))]) (b := []) (G := fun a r => callC T F k 114 a r K) (fun x y => Eq.trans (by kernel_rfl) (Eq.trans (e114 k x.1 K).symm (by kernel_rfl))) a r
end
section
variable {R : Type}
noncomputable def S131 (k g : Nat) (a : List PV) (r : List RowS) (K : List PV → List RowS → Option R) : Option R := bif g == 104 then s104 k a r K else bif g == 114 then s114 k a r K else callC T F k g a r K
theorem S131_eq (k : Nat) : S131 (R := R) k = callC T F k := by
  funext g a r K
  exact pick_eq (fun e => by subst e; exact s104_eq k a r K) (pick_eq (fun e => by subst e; exact s114_eq k a r K) (rfl))
theorem e131 (k : Nat) (a0 : List ((Int × (Int × Unit)))) (a1 : Bool) (K : List PV → List RowS → Option R) : callC T F k 131 [.val [(0, 0)] (.slice (.prod (.int .i64) (.prod (.int .i64) .unit))) a0, .val [] .bool a1] [] K = f131 k a0 a1 (fun z0 => K [.val [(0, 0)] (.slice (.prod (.int .i64) (.prod (.int .i64) .unit))) z0] []) := by
  rw [f131_def]
  cases k with
  | zero => rfl
  | succ k =>
    refine Eq.trans (show _ = exec T an131 (modesOf F) 0 k 12 (callC T F k) (ending T Try.f131 an131 0 K) (bodyOf Try.f131) ⟨argEnv 0 [.val [(0, 0)] (.slice (.prod (.int .i64) (.prod (.int .i64) .unit))) a0, .val [] .bool a1] (fun _ => none), rowsOf []⟩ (ending T Try.f131 an131 0 K) (fun _ _ => none) from by kernel_rfl) ?_
    rw [← S131_eq k, ← execS_eq T an131 (modesOf F) 0 k 12 (S131 k) (fun _ _ _ _ _ => none) (bodyOf Try.f131) (cuts_of _ _ _ _ _ _ _ _ (bodyOf Try.f131) (l := []) (by kernel_rfl) trivial)]
    kernel_rfl
noncomputable def s131 (k : Nat) (a : List PV) (r : List RowS) (K : List PV → List RowS → Option R) : Option R :=
  onShape [.val [(0, 0)] (.slice (.prod (.int .i64) (.prod (.int .i64) .unit))), .val [] .bool] [] (fun v => f131 k v.1.1 v.1.2.1 (fun z0 => K [.val [(0, 0)] (.slice (.prod (.int .i64) (.prod (.int .i64) .unit))) z0] [])) (callC T F k 131 a r K) a r
theorem s131_eq (k : Nat) (a : List PV) (r : List RowS) (K : List PV → List RowS → Option R) : s131 k a r K = callC T F k 131 a r K := by
  unfold s131
  exact onShape_eq (a := [.val [(0, 0)] (.slice (.prod (.int .i64) (.prod (.int .i64) .unit))), .val [] .bool]) (b := []) (G := fun a r => callC T F k 131 a r K) (fun x y => Eq.trans (by kernel_rfl) (Eq.trans (e131 k x.1 x.2.1 K).symm (by kernel_rfl))) a r
end
section
variable {R : Type}
noncomputable def S112 (k g : Nat) (a : List PV) (r : List RowS) (K : List PV → List RowS → Option R) : Option R := bif g == 95 then s95 k a r K else bif g == 131 then s131 k a r K else callC T F k g a r K
theorem S112_eq (k : Nat) : S112 (R := R) k = callC T F k := by
  funext g a r K
  exact pick_eq (fun e => by subst e; exact s95_eq k a r K) (pick_eq (fun e => by subst e; exact s131_eq k a r K) (rfl))
theorem e112 (k : Nat) (a0 : Int) (a1 : Int) (a2 : ByteArray) (a3 : List Int) (a4 : List ((Int × (Int × Unit)))) (a5 : Int) (a6 : Int) (a7 : Int) (a8 : Int) (K : List PV → List RowS → Option R) : callC T F k 112 [.agg [.val [] (.int .i64) a0, .val [] (.int .i64) a1, .val [] .str a2, .val [(0, 0)] (.slice (.int .u8)) a3, .val [(0, 0)] (.slice (.prod (.int .i64) (.prod (.int .i64) .unit))) a4, .val [] (.int .i64) a5, .val [] (.int .i64) a6, .val [] (.int .i64) a7, .val [] (.int .i64) a8]] [] K = f112 k a0 a1 a2 a3 a4 a5 a6 a7 a8 (fun z0 z1 => K [.val [(0, 0)] (.slice (.prod (.int .i64) (.prod (.int .i64) .unit))) z0, .val [] (.int .i64) z1] []) := by
  rw [f112_def]
  cases k with
  | zero => rfl
  | succ k =>
    refine Eq.trans (show _ = exec T an112 (modesOf F) 0 k 15 (callC T F k) (ending T Try.f112 an112 0 K) (bodyOf Try.f112) ⟨argEnv 0 [.agg [.val [] (.int .i64) a0, .val [] (.int .i64) a1, .val [] .str a2, .val [(0, 0)] (.slice (.int .u8)) a3, .val [(0, 0)] (.slice (.prod (.int .i64) (.prod (.int .i64) .unit))) a4, .val [] (.int .i64) a5, .val [] (.int .i64) a6, .val [] (.int .i64) a7, .val [] (.int .i64) a8]] (fun _ => none), rowsOf []⟩ (ending T Try.f112 an112 0 K) (fun _ _ => none) from by kernel_rfl) ?_
    rw [← S112_eq k, ← execS_eq T an112 (modesOf F) 0 k 15 (S112 k) (fun _ _ _ _ _ => none) (bodyOf Try.f112) (cuts_of _ _ _ _ _ _ _ _ (bodyOf Try.f112) (l := []) (by kernel_rfl) trivial)]
    kernel_rfl
noncomputable def s112 (k : Nat) (a : List PV) (r : List RowS) (K : List PV → List RowS → Option R) : Option R :=
  onShape [.agg [.val [] (.int .i64), .val [] (.int .i64), .val [] .str, .val [(0, 0)] (.slice (.int .u8)), .val [(0, 0)] (.slice (.prod (.int .i64) (.prod (.int .i64) .unit))), .val [] (.int .i64), .val [] (.int .i64), .val [] (.int .i64), .val [] (.int .i64)]] [] (fun v => f112 k v.1.1.1 v.1.1.2.1 v.1.1.2.2.1 v.1.1.2.2.2.1 v.1.1.2.2.2.2.1 v.1.1.2.2.2.2.2.1 v.1.1.2.2.2.2.2.2.1 v.1.1.2.2.2.2.2.2.2.1 v.1.1.2.2.2.2.2.2.2.2.1 (fun z0 z1 => K [.val [(0, 0)] (.slice (.prod (.int .i64) (.prod (.int .i64) .unit))) z0, .val [] (.int .i64) z1] [])) (callC T F k 112 a r K) a r
theorem s112_eq (k : Nat) (a : List PV) (r : List RowS) (K : List PV → List RowS → Option R) : s112 k a r K = callC T F k 112 a r K := by
  unfold s112
  exact onShape_eq (a := [.agg [.val [] (.int .i64), .val [] (.int .i64), .val [] .str, .val [(0, 0)] (.slice (.int .u8)), .val [(0, 0)] (.slice (.prod (.int .i64) (.prod (.int .i64) .unit))), .val [] (.int .i64), .val [] (.int .i64), .val [] (.int .i64), .val [] (.int .i64)]]) (b := []) (G := fun a r => callC T F k 112 a r K) (fun x y => Eq.trans (by kernel_rfl) (Eq.trans (e112 k x.1.1 x.1.2.1 x.1.2.2.1 x.1.2.2.2.1 x.1.2.2.2.2.1 x.1.2.2.2.2.2.1 x.1.2.2.2.2.2.2.1 x.1.2.2.2.2.2.2.2.1 x.1.2.2.2.2.2.2.2.2.1 K).symm (by kernel_rfl))) a r
end
section
variable {R : Type}
noncomputable def S82 (k g : Nat) (a : List PV) (r : List RowS) (K : List PV → List RowS → Option R) : Option R := bif g == 112 then s112 k a r K else callC T F k g a r K
theorem S82_eq (k : Nat) : S82 (R := R) k = callC T F k := by
  funext g a r K
  exact pick_eq (fun e => by subst e; exact s112_eq k a r K) (rfl)
theorem e82 (k : Nat) (a0 : Int) (a1 : Int) (a2 : Int) (a3 : Int) (a4 : Int) (a5 : Int) (a6 : Int) (a7 : ByteArray) (a8 : List Int) (a9 : List ((Int × (Int × Unit)))) (a10 : Int) (a11 : Int) (a12 : Int) (a13 : Int) (K : List PV → List RowS → Option R) : callC T F k 82 [.agg [.val [] (.int .i64) a0, .val [] (.int .i64) a1, .val [] (.int .i64) a2, .val [] (.int .i64) a3, .val [] (.int .i64) a4], .agg [.val [] (.int .i64) a5, .val [] (.int .i64) a6, .val [] .str a7, .val [(0, 0)] (.slice (.int .u8)) a8, .val [(0, 0)] (.slice (.prod (.int .i64) (.prod (.int .i64) .unit))) a9, .val [] (.int .i64) a10, .val [] (.int .i64) a11, .val [] (.int .i64) a12, .val [] (.int .i64) a13]] [] K = f82 k a0 a1 a2 a3 a4 a5 a6 a7 a8 a9 a10 a11 a12 a13 (fun z0 z1 z2 z3 z4 z5 z6 z7 z8 z9 z10 => K [.agg [.val [] (.int .i64) z0, .val [] (.int .i64) z1, .val [] .str z2, .val [(0, 0)] (.slice (.int .u8)) z3, .val [(0, 0)] (.slice (.prod (.int .i64) (.prod (.int .i64) .unit))) z4, .val [] (.int .i64) z5, .val [] (.int .i64) z6, .val [] (.int .i64) z7, .val [] (.int .i64) z8], .rw 1, .val [] (.int .i64) z9] [⟨0, .arr [(0, 0)] (.prod (.int .i64) (.prod (.int .i64) (.prod .str (.prod (.int .i64) (.prod (.int .i64) (.prod (.int .i64) (.prod (.slice (.int .u8)) (.prod (.slice (.prod (.int .i64) (.prod (.int .i64) .unit))) (.prod .bool .unit))))))))) z10⟩]) := by
  rw [f82_def]
  cases k with
  | zero => rfl
  | succ k =>
    refine Eq.trans (show _ = exec T an82 (modesOf F) 0 k 54 (callC T F k) (ending T Try.f82 an82 0 K) (bodyOf Try.f82) ⟨argEnv 0 [.agg [.val [] (.int .i64) a0, .val [] (.int .i64) a1, .val [] (.int .i64) a2, .val [] (.int .i64) a3, .val [] (.int .i64) a4], .agg [.val [] (.int .i64) a5, .val [] (.int .i64) a6, .val [] .str a7, .val [(0, 0)] (.slice (.int .u8)) a8, .val [(0, 0)] (.slice (.prod (.int .i64) (.prod (.int .i64) .unit))) a9, .val [] (.int .i64) a10, .val [] (.int .i64) a11, .val [] (.int .i64) a12, .val [] (.int .i64) a13]] (fun _ => none), rowsOf []⟩ (ending T Try.f82 an82 0 K) (fun _ _ => none) from by kernel_rfl) ?_
    rw [← S82_eq k, ← execS_eq T an82 (modesOf F) 0 k 54 (S82 k) (fun _ _ _ _ _ => none) (bodyOf Try.f82) (cuts_of _ _ _ _ _ _ _ _ (bodyOf Try.f82) (l := []) (by kernel_rfl) trivial)]
    kernel_rfl
noncomputable def s82 (k : Nat) (a : List PV) (r : List RowS) (K : List PV → List RowS → Option R) : Option R :=
  onShape [.agg [.val [] (.int .i64), .val [] (.int .i64), .val [] (.int .i64), .val [] (.int .i64), .val [] (.int .i64)], .agg [.val [] (.int .i64), .val [] (.int .i64), .val [] .str, .val [(0, 0)] (.slice (.int .u8)), .val [(0, 0)] (.slice (.prod (.int .i64) (.prod (.int .i64) .unit))), .val [] (.int .i64), .val [] (.int .i64), .val [] (.int .i64), .val [] (.int .i64)]] [] (fun v => f82 k v.1.1.1 v.1.1.2.1 v.1.1.2.2.1 v.1.1.2.2.2.1 v.1.1.2.2.2.2.1 v.1.2.1.1 v.1.2.1.2.1 v.1.2.1.2.2.1 v.1.2.1.2.2.2.1 v.1.2.1.2.2.2.2.1 v.1.2.1.2.2.2.2.2.1 v.1.2.1.2.2.2.2.2.2.1 v.1.2.1.2.2.2.2.2.2.2.1 v.1.2.1.2.2.2.2.2.2.2.2.1 (fun z0 z1 z2 z3 z4 z5 z6 z7 z8 z9 z10 => K [.agg [.val [] (.int .i64) z0, .val [] (.int .i64) z1, .val [] .str z2, .val [(0, 0)] (.slice (.int .u8)) z3, .val [(0, 0)] (.slice (.prod (.int .i64) (.prod (.int .i64) .unit))) z4, .val [] (.int .i64) z5, .val [] (.int .i64) z6, .val [] (.int .i64) z7, .val [] (.int .i64) z8], .rw 1, .val [] (.int .i64) z9] [⟨0, .arr [(0, 0)] (.prod (.int .i64) (.prod (.int .i64) (.prod .str (.prod (.int .i64) (.prod (.int .i64) (.prod (.int .i64) (.prod (.slice (.int .u8)) (.prod (.slice (.prod (.int .i64) (.prod (.int .i64) .unit))) (.prod .bool .unit))))))))) z10⟩])) (callC T F k 82 a r K) a r
theorem s82_eq (k : Nat) (a : List PV) (r : List RowS) (K : List PV → List RowS → Option R) : s82 k a r K = callC T F k 82 a r K := by
  unfold s82
  exact onShape_eq (a := [.agg [.val [] (.int .i64), .val [] (.int .i64), .val [] (.int .i64), .val [] (.int .i64), .val [] (.int .i64)], .agg [.val [] (.int .i64), .val [] (.int .i64), .val [] .str, .val [(0, 0)] (.slice (.int .u8)), .val [(0, 0)] (.slice (.prod (.int .i64) (.prod (.int .i64) .unit))), .val [] (.int .i64), .val [] (.int .i64), .val [] (.int .i64), .val [] (.int .i64)]]) (b := []) (G := fun a r => callC T F k 82 a r K) (fun x y => Eq.trans (by kernel_rfl) (Eq.trans (e82 k x.1.1 x.1.2.1 x.1.2.2.1 x.1.2.2.2.1 x.1.2.2.2.2.1 x.2.1.1 x.2.1.2.1 x.2.1.2.2.1 x.2.1.2.2.2.1 x.2.1.2.2.2.2.1 x.2.1.2.2.2.2.2.1 x.2.1.2.2.2.2.2.2.1 x.2.1.2.2.2.2.2.2.2.1 x.2.1.2.2.2.2.2.2.2.2.1 K).symm (by kernel_rfl))) a r
end
end Go.Proofs.Ytlcklflbhhnnhaa.PM
