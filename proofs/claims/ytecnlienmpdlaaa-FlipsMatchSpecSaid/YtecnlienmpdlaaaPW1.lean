/- The small machine's run is the typed form (printed by a program of this work). -/
import Derived.Test.YtecnlienmpdlaaaPW0
set_option linter.unusedVariables false
set_option linter.unusedSimpArgs false
set_option maxRecDepth 100000
namespace Go.Proofs.Ytecnlienmpdlaaa.PM
open Go
section
variable {R : Type}
noncomputable def S75 (k g : Nat) (a : List PV) (r : List RowS) (K : List PV → List RowS → Option R) : Option R := callC T F k g a r K
theorem S75_eq (k : Nat) : S75 (R := R) k = callC T F k := by
  funext g a r K
  exact rfl
theorem e75 (k : Nat) (a0 : List Int) (K : List PV → List RowS → Option R) : callC T F k 75 [.val [(0, 0)] (.slice (.int .u8)) a0] [] K = f75 k a0 (fun z0 => K [.val [] (.int .i64) z0] []) := by
  rw [f75_def]
  cases k with
  | zero => rfl
  | succ k =>
    refine Eq.trans (show _ = exec T an75 (modesOf F) 0 k 25 (callC T F k) (ending T Try.f75 an75 0 K) (bodyOf Try.f75) ⟨argEnv 0 [.val [(0, 0)] (.slice (.int .u8)) a0] (fun _ => none), rowsOf []⟩ (ending T Try.f75 an75 0 K) (fun _ _ => none) from by kernel_rfl) ?_
    rw [← S75_eq k, ← execS_eq T an75 (modesOf F) 0 k 25 (S75 k) (fun _ _ _ _ _ => none) (bodyOf Try.f75) (cuts_of _ _ _ _ _ _ _ _ (bodyOf Try.f75) (l := []) (by kernel_rfl) trivial)]
    kernel_rfl
noncomputable def s75 (k : Nat) (a : List PV) (r : List RowS) (K : List PV → List RowS → Option R) : Option R :=
  onShape [.val [(0, 0)] (.slice (.int .u8))] [] (fun v => f75 k v.1.1 (fun z0 => K [.val [] (.int .i64) z0] [])) (callC T F k 75 a r K) a r
theorem s75_eq (k : Nat) (a : List PV) (r : List RowS) (K : List PV → List RowS → Option R) : s75 k a r K = callC T F k 75 a r K := by
  unfold s75
  exact onShape_eq (a := [.val [(0, 0)] (.slice (.int .u8))]) (b := []) (G := fun a r => callC T F k 75 a r K) (fun x y => Eq.trans (by kernel_rfl) (Eq.trans (e75 k x.1 K).symm (by kernel_rfl))) a r
end
section
variable {R : Type}
noncomputable def S76 (k g : Nat) (a : List PV) (r : List RowS) (K : List PV → List RowS → Option R) : Option R := callC T F k g a r K
theorem S76_eq (k : Nat) : S76 (R := R) k = callC T F k := by
  funext g a r K
  exact rfl
section
variable {R : Type} (k : Nat) (K : List PV → List RowS → Option R)
noncomputable def L76_0 (ws : List PV) (rs : List RowS) (N : St → Option R) (X : Nat → St → Option R) : Option R :=
  onShape [.val [(0, 0)] (.slice (.int .u8)), .val [(0, 0)] (.slice (.int .u8)), .val [] (.int .i64), .val [] (.int .i64)] [] (fun v => f76_0 k (fun z0 => K [.val [] .bool z0] []) (N (sh jn76_0 [] [])) v.1.1 v.1.2.1 v.1.2.2.1 k v.1.2.2.2.1) (inner T an76 (modesOf F) 0 k 26 (S76 k) (ending T Try.f76 an76 0 K) cd76_0 (sh sp76_0 ws rs) N X) ws rs
noncomputable def L76 (id : Nat) (ws : List PV) (rs : List RowS) (N : St → Option R) (X : Nat → St → Option R) : Option R := bif id == 0 then L76_0 k K ws rs N X else none
theorem b76_0 (rec : St → Option R) (N : St → Option R) (X : Nat → St → Option R) (v0_0 : List Int) (v0_1 : List Int) (v0_2 : Int) (v0_3 : Int) :
    execS T an76 (modesOf F) 0 k 26 (S76 k) (L76 k K) (ending T Try.f76 an76 0 K) bd76_0 (sh sp76_0 [.val [(0, 0)] (.slice (.int .u8)) v0_0, .val [(0, 0)] (.slice (.int .u8)) v0_1, .val [] (.int .i64) v0_2, .val [] (.int .i64) v0_3] []) (fun st => atHead an76 0 bd76_0 st rec) (outX an76 0 0 N X) =
      f76_0b k (fun v0_3 => rec (sh sp76_0 [.val [(0, 0)] (.slice (.int .u8)) v0_0, .val [(0, 0)] (.slice (.int .u8)) v0_1, .val [] (.int .i64) v0_2, .val [] (.int .i64) v0_3] [])) (fun z0 => K [.val [] .bool z0] []) (N (sh jn76_0 [] [])) v0_0 v0_1 v0_2 v0_3 := by kernel_rfl
theorem i76_0 (N : St → Option R) (X : Nat → St → Option R) (v0_0 : List Int) (v0_1 : List Int) (v0_2 : Int) (m : Nat) : ∀ (v0_3 : Int),
    iter (atHead an76 0 bd76_0) m (fun st N' => exec T an76 (modesOf F) 0 k 26 (S76 k) (ending T Try.f76 an76 0 K) bd76_0 st N' (outX an76 0 0 N X)) (sh sp76_0 [.val [(0, 0)] (.slice (.int .u8)) v0_0, .val [(0, 0)] (.slice (.int .u8)) v0_1, .val [] (.int .i64) v0_2, .val [] (.int .i64) v0_3] []) = f76_0d k (fun z0 => K [.val [] .bool z0] []) (N (sh jn76_0 [] [])) v0_0 v0_1 v0_2 m v0_3 := by
  induction m with
  | zero => intros; rfl
  | succ m ih =>
    intro v0_3
    simp only [iter]
    rw [← execS_eq T an76 (modesOf F) 0 k 26 (S76 k) (L76 k K) bd76_0 (cuts_of _ _ _ _ _ _ _ _ bd76_0 (l := []) (by kernel_rfl) trivial)]
    refine (b76_0 k K _ N X v0_0 v0_1 v0_2 v0_3).trans ?_
    simp only [f76_0d, ih]
theorem l76_0 (ws : List PV) (rs : List RowS) (N : St → Option R) (X : Nat → St → Option R) : L76 k K 0 ws rs N X = inner T an76 (modesOf F) 0 k 26 (S76 k) (ending T Try.f76 an76 0 K) cd76_0 (sh sp76_0 ws rs) N X := by
  show L76_0 k K ws rs N X = _
  unfold L76_0
  rw [f76_0_def]
  exact onShape_eq (a := [.val [(0, 0)] (.slice (.int .u8)), .val [(0, 0)] (.slice (.int .u8)), .val [] (.int .i64), .val [] (.int .i64)]) (b := []) (G := fun ws rs => inner T an76 (modesOf F) 0 k 26 (S76 k) (ending T Try.f76 an76 0 K) cd76_0 (sh sp76_0 ws rs) N X) (fun x y => Eq.trans (by kernel_rfl) (Eq.trans (i76_0 k K N X x.1 x.2.1 x.2.2.1 k x.2.2.2.1).symm (by kernel_rfl))) ws rs
end
theorem e76 (k : Nat) (a0 : List Int) (a1 : List Int) (K : List PV → List RowS → Option R) : callC T F k 76 [.val [(0, 0)] (.slice (.int .u8)) a0, .val [(0, 0)] (.slice (.int .u8)) a1] [] K = f76 k a0 a1 (fun z0 => K [.val [] .bool z0] []) := by
  rw [f76_def]
  cases k with
  | zero => rfl
  | succ k =>
    refine Eq.trans (show _ = exec T an76 (modesOf F) 0 k 26 (callC T F k) (ending T Try.f76 an76 0 K) (bodyOf Try.f76) ⟨argEnv 0 [.val [(0, 0)] (.slice (.int .u8)) a0, .val [(0, 0)] (.slice (.int .u8)) a1] (fun _ => none), rowsOf []⟩ (ending T Try.f76 an76 0 K) (fun _ _ => none) from by kernel_rfl) ?_
    rw [← S76_eq k, ← execS_eq T an76 (modesOf F) 0 k 26 (S76 k) (L76 k K) (bodyOf Try.f76) (cuts_of _ _ _ _ _ _ _ _ (bodyOf Try.f76) (l := [(0, sp76_0, cd76_0)]) (by kernel_rfl) ⟨l76_0 k K, trivial⟩)]
    kernel_rfl
noncomputable def s76 (k : Nat) (a : List PV) (r : List RowS) (K : List PV → List RowS → Option R) : Option R :=
  onShape [.val [(0, 0)] (.slice (.int .u8)), .val [(0, 0)] (.slice (.int .u8))] [] (fun v => f76 k v.1.1 v.1.2.1 (fun z0 => K [.val [] .bool z0] [])) (callC T F k 76 a r K) a r
theorem s76_eq (k : Nat) (a : List PV) (r : List RowS) (K : List PV → List RowS → Option R) : s76 k a r K = callC T F k 76 a r K := by
  unfold s76
  exact onShape_eq (a := [.val [(0, 0)] (.slice (.int .u8)), .val [(0, 0)] (.slice (.int .u8))]) (b := []) (G := fun a r => callC T F k 76 a r K) (fun x y => Eq.trans (by kernel_rfl) (Eq.trans (e76 k x.1 x.2.1 K).symm (by kernel_rfl))) a r
end
section
variable {R : Type}
noncomputable def S56 (k g : Nat) (a : List PV) (r : List RowS) (K : List PV → List RowS → Option R) : Option R := bif g == 18 then s18 k a r K else bif g == 72 then s72 k a r K else bif g == 74 then s74 k a r K else bif g == 75 then s75 k a r K else bif g == 76 then s76 k a r K else callC T F k g a r K
theorem S56_eq (k : Nat) : S56 (R := R) k = callC T F k := by
  funext g a r K
  exact pick_eq (fun e => by subst e; exact s18_eq k a r K) (pick_eq (fun e => by subst e; exact s72_eq k a r K) (pick_eq (fun e => by subst e; exact s74_eq k a r K) (pick_eq (fun e => by subst e; exact s75_eq k a r K) (pick_eq (fun e => by subst e; exact s76_eq k a r K) (rfl)))))
theorem e56 (k : Nat) (a0 : List Int) (K : List PV → List RowS → Option R) : callC T F k 56 [.val [(0, 0)] (.slice (.int .u8)) a0] [] K = f56 k a0 (fun z0 z1 z2 z3 z4 z5 z6 => K [.val [] (.int .i64) z0, .agg [.val [] (.int .i64) z1, .val [] .bool z2, .val [] .str z3, .val [] (.int .i64) z4, .val [] .bool z5, .rw 1]] [⟨0, .arr [] (.int .u8) z6⟩]) := by
  rw [f56_def]
  cases k with
  | zero => rfl
  | succ k =>
    refine Eq.trans (show _ = exec T an56 (modesOf F) 0 k 99 (callC T F k) (ending T Try.f56 an56 0 K) (bodyOf Try.f56) ⟨argEnv 0 [.val [(0, 0)] (.slice (.int .u8)) a0] (fun _ => none), rowsOf []⟩ (ending T Try.f56 an56 0 K) (fun _ _ => none) from by kernel_rfl) ?_
    rw [← S56_eq k, ← execS_eq T an56 (modesOf F) 0 k 99 (S56 k) (fun _ _ _ _ _ => none) (bodyOf Try.f56) (cuts_of _ _ _ _ _ _ _ _ (bodyOf Try.f56) (l := []) (by kernel_rfl) trivial)]
    kernel_rfl
noncomputable def s56 (k : Nat) (a : List PV) (r : List RowS) (K : List PV → List RowS → Option R) : Option R :=
  onShape [.val [(0, 0)] (.slice (.int .u8))] [] (fun v => f56 k v.1.1 (fun z0 z1 z2 z3 z4 z5 z6 => K [.val [] (.int .i64) z0, .agg [.val [] (.int .i64) z1, .val [] .bool z2, .val [] .str z3, .val [] (.int .i64) z4, .val [] .bool z5, .rw 1]] [⟨0, .arr [] (.int .u8) z6⟩])) (callC T F k 56 a r K) a r
theorem s56_eq (k : Nat) (a : List PV) (r : List RowS) (K : List PV → List RowS → Option R) : s56 k a r K = callC T F k 56 a r K := by
  unfold s56
  exact onShape_eq (a := [.val [(0, 0)] (.slice (.int .u8))]) (b := []) (G := fun a r => callC T F k 56 a r K) (fun x y => Eq.trans (by kernel_rfl) (Eq.trans (e56 k x.1 K).symm (by kernel_rfl))) a r
end
section
variable {R : Type}
noncomputable def S20 (k g : Nat) (a : List PV) (r : List RowS) (K : List PV → List RowS → Option R) : Option R := bif g == 52 then s52 k a r K else bif g == 56 then s56 k a r K else callC T F k g a r K
theorem S20_eq (k : Nat) : S20 (R := R) k = callC T F k := by
  funext g a r K
  exact pick_eq (fun e => by subst e; exact s52_eq k a r K) (pick_eq (fun e => by subst e; exact s56_eq k a r K) (rfl))
theorem e20 (k : Nat) (a0 : List Int) (K : List PV → List RowS → Option R) : callC T F k 20 [.val [(0, 0)] (.slice (.int .u8)) a0] [] K = f20 k a0 (fun z0 z1 z2 z3 z4 z5 z6 z7 => K [.val [] (.int .i64) z0, .agg [.val [] (.int .i64) z1, .val [] .bool z2, .val [] .str z3, .val [] (.int .i64) z4, .val [] .bool z5, .rw 1], .val [] (.int .i64) z6] [⟨0, .arr [] (.int .u8) z7⟩]) := by
  rw [f20_def]
  cases k with
  | zero => rfl
  | succ k =>
    refine Eq.trans (show _ = exec T an20 (modesOf F) 0 k 19 (callC T F k) (ending T Try.f20 an20 0 K) (bodyOf Try.f20) ⟨argEnv 0 [.val [(0, 0)] (.slice (.int .u8)) a0] (fun _ => none), rowsOf []⟩ (ending T Try.f20 an20 0 K) (fun _ _ => none) from by kernel_rfl) ?_
    rw [← S20_eq k, ← execS_eq T an20 (modesOf F) 0 k 19 (S20 k) (fun _ _ _ _ _ => none) (bodyOf Try.f20) (cuts_of _ _ _ _ _ _ _ _ (bodyOf Try.f20) (l := []) (by kernel_rfl) trivial)]
    kernel_rfl
noncomputable def s20 (k : Nat) (a : List PV) (r : List RowS) (K : List PV → List RowS → Option R) : Option R :=
  onShape [.val [(0, 0)] (.slice (.int .u8))] [] (fun v => f20 k v.1.1 (fun z0 z1 z2 z3 z4 z5 z6 z7 => K [.val [] (.int .i64) z0, .agg [.val [] (.int .i64) z1, .val [] .bool z2, .val [] .str z3, .val [] (.int .i64) z4, .val [] .bool z5, .rw 1], .val [] (.int .i64) z6] [⟨0, .arr [] (.int .u8) z7⟩])) (callC T F k 20 a r K) a r
theorem s20_eq (k : Nat) (a : List PV) (r : List RowS) (K : List PV → List RowS → Option R) : s20 k a r K = callC T F k 20 a r K := by
  unfold s20
  exact onShape_eq (a := [.val [(0, 0)] (.slice (.int .u8))]) (b := []) (G := fun a r => callC T F k 20 a r K) (fun x y => Eq.trans (by kernel_rfl) (Eq.trans (e20 k x.1 K).symm (by kernel_rfl))) a r
end
section
variable {R : Type}
noncomputable def S77 (k g : Nat) (a : List PV) (r : List RowS) (K : List PV → List RowS → Option R) : Option R := callC T F k g a r K
theorem S77_eq (k : Nat) : S77 (R := R) k = callC T F k := by
  funext g a r K
  exact rfl
section
variable {R : Type} (k : Nat) (K : List PV → List RowS → Option R)
noncomputable def L77_0 (ws : List PV) (rs : List RowS) (N : St → Option R) (X : Nat → St → Option R) : Option R :=
  onShape [.val [(0, 0)] (.slice (.int .u8)), .val [] (.int .i64)] [] (fun v => f77_0 k (fun z0 => K [.val [] .bool z0] []) (N (sh jn77_0 [] [])) v.1.1 k v.1.2.1) (inner T an77 (modesOf F) 0 k 15 (S77 k) (ending T Try.f77 an77 0 K) cd77_0 (sh sp77_0 ws rs) N X) ws rs
noncomputable def L77 (id : Nat) (ws : List PV) (rs : List RowS) (N : St → Option R) (X : Nat → St → Option R) : Option R := bif id == 0 then L77_0 k K ws rs N X else none
theorem b77_0 (rec : St → Option R) (N : St → Option R) (X : Nat → St → Option R) (v0_0 : List Int) (v0_1 : Int) :
    execS T an77 (modesOf F) 0 k 15 (S77 k) (L77 k K) (ending T Try.f77 an77 0 K) bd77_0 (sh sp77_0 [.val [(0, 0)] (.slice (.int .u8)) v0_0, .val [] (.int .i64) v0_1] []) (fun st => atHead an77 0 bd77_0 st rec) (outX an77 0 0 N X) =
      f77_0b k (fun v0_1 => rec (sh sp77_0 [.val [(0, 0)] (.slice (.int .u8)) v0_0, .val [] (.int .i64) v0_1] [])) (fun z0 => K [.val [] .bool z0] []) (N (sh jn77_0 [] [])) v0_0 v0_1 := by kernel_rfl
theorem i77_0 (N : St → Option R) (X : Nat → St → Option R) (v0_0 : List Int) (m : Nat) : ∀ (v0_1 : Int),
    iter (atHead an77 0 bd77_0) m (fun st N' => exec T an77 (modesOf F) 0 k 15 (S77 k) (ending T Try.f77 an77 0 K) bd77_0 st N' (outX an77 0 0 N X)) (sh sp77_0 [.val [(0, 0)] (.slice (.int .u8)) v0_0, .val [] (.int .i64) v0_1] []) = f77_0d k (fun z0 => K [.val [] .bool z0] []) (N (sh jn77_0 [] [])) v0_0 m v0_1 := by
  induction m with
  | zero => intros; rfl
  | succ m ih =>
    intro v0_1
    simp only [iter]
    rw [← execS_eq T an77 (modesOf F) 0 k 15 (S77 k) (L77 k K) bd77_0 (cuts_of _ _ _ _ _ _ _ _ bd77_0 (l := []) (by kernel_rfl) trivial)]
    refine (b77_0 k K _ N X v0_0 v0_1).trans ?_
    simp only [f77_0d, ih]
theorem l77_0 (ws : List PV) (rs : List RowS) (N : St → Option R) (X : Nat → St → Option R) : L77 k K 0 ws rs N X = inner T an77 (modesOf F) 0 k 15 (S77 k) (ending T Try.f77 an77 0 K) cd77_0 (sh sp77_0 ws rs) N X := by
  show L77_0 k K ws rs N X = _
  unfold L77_0
  rw [f77_0_def]
  exact onShape_eq (a := [.val [(0, 0)] (.slice (.int .u8)), .val [] (.int .i64)]) (b := []) (G := fun ws rs => inner T an77 (modesOf F) 0 k 15 (S77 k) (ending T Try.f77 an77 0 K) cd77_0 (sh sp77_0 ws rs) N X) (fun x y => Eq.trans (by kernel_rfl) (Eq.trans (i77_0 k K N X x.1 k x.2.1).symm (by kernel_rfl))) ws rs
end
theorem e77 (k : Nat) (a0 : List Int) (K : List PV → List RowS → Option R) : callC T F k 77 [.val [(0, 0)] (.slice (.int .u8)) a0] [] K = f77 k a0 (fun z0 => K [.val [] .bool z0] []) := by
  rw [f77_def]
  cases k with
  | zero => rfl
  | succ k =>
    refine Eq.trans (show _ = exec T an77 (modesOf F) 0 k 15 (callC T F k) (ending T Try.f77 an77 0 K) (bodyOf Try.f77) ⟨argEnv 0 [.val [(0, 0)] (.slice (.int .u8)) a0] (fun _ => none), rowsOf []⟩ (ending T Try.f77 an77 0 K) (fun _ _ => none) from by kernel_rfl) ?_
    rw [← S77_eq k, ← execS_eq T an77 (modesOf F) 0 k 15 (S77 k) (L77 k K) (bodyOf Try.f77) (cuts_of _ _ _ _ _ _ _ _ (bodyOf Try.f77) (l := [(0, sp77_0, cd77_0)]) (by kernel_rfl) ⟨l77_0 k K, trivial⟩)]
    kernel_rfl
noncomputable def s77 (k : Nat) (a : List PV) (r : List RowS) (K : List PV → List RowS → Option R) : Option R :=
  onShape [.val [(0, 0)] (.slice (.int .u8))] [] (fun v => f77 k v.1.1 (fun z0 => K [.val [] .bool z0] [])) (callC T F k 77 a r K) a r
theorem s77_eq (k : Nat) (a : List PV) (r : List RowS) (K : List PV → List RowS → Option R) : s77 k a r K = callC T F k 77 a r K := by
  unfold s77
  exact onShape_eq (a := [.val [(0, 0)] (.slice (.int .u8))]) (b := []) (G := fun a r => callC T F k 77 a r K) (fun x y => Eq.trans (by kernel_rfl) (Eq.trans (e77 k x.1 K).symm (by kernel_rfl))) a r
end
section
variable {R : Type}
noncomputable def S78 (k g : Nat) (a : List PV) (r : List RowS) (K : List PV → List RowS → Option R) : Option R := callC T F k g a r K
theorem S78_eq (k : Nat) : S78 (R := R) k = callC T F k := by
  funext g a r K
  exact rfl
theorem e78 (k : Nat) (a0 : List Int) (a1 : Int) (K : List PV → List RowS → Option R) : callC T F k 78 [.val [(0, 0)] (.slice (.int .u8)) a0, .val [] (.int .i64) a1] [] K = f78 k a0 a1 (fun z0 => K [.val [] (.int .i64) z0] []) := by
  rw [f78_def]
  cases k with
  | zero => rfl
  | succ k =>
    refine Eq.trans (show _ = exec T an78 (modesOf F) 0 k 18 (callC T F k) (ending T Try.f78 an78 0 K) (bodyOf Try.f78) ⟨argEnv 0 [.val [(0, 0)] (.slice (.int .u8)) a0, .val [] (.int .i64) a1] (fun _ => none), rowsOf []⟩ (ending T Try.f78 an78 0 K) (fun _ _ => none) from by kernel_rfl) ?_
    rw [← S78_eq k, ← execS_eq T an78 (modesOf F) 0 k 18 (S78 k) (fun _ _ _ _ _ => none) (bodyOf Try.f78) (cuts_of _ _ _ _ _ _ _ _ (bodyOf Try.f78) (l := []) (by kernel_rfl) trivial)]
    kernel_rfl
noncomputable def s78 (k : Nat) (a : List PV) (r : List RowS) (K : List PV → List RowS → Option R) : Option R :=
  onShape [.val [(0, 0)] (.slice (.int .u8)), .val [] (.int .i64)] [] (fun v => f78 k v.1.1 v.1.2.1 (fun z0 => K [.val [] (.int .i64) z0] [])) (callC T F k 78 a r K) a r
theorem s78_eq (k : Nat) (a : List PV) (r : List RowS) (K : List PV → List RowS → Option R) : s78 k a r K = callC T F k 78 a r K := by
  unfold s78
  exact onShape_eq (a := [.val [(0, 0)] (.slice (.int .u8)), .val [] (.int .i64)]) (b := []) (G := fun a r => callC T F k 78 a r K) (fun x y => Eq.trans (by kernel_rfl) (Eq.trans (e78 k x.1 x.2.1 K).symm (by kernel_rfl))) a r
end
section
variable {R : Type}
noncomputable def S57 (k g : Nat) (a : List PV) (r : List RowS) (K : List PV → List RowS → Option R) : Option R := bif g == 19 then s19 k a r K else bif g == 22 then s22 k a r K else bif g == 77 then s77 k a r K else bif g == 78 then s78 k a r K else callC T F k g a r K
theorem S57_eq (k : Nat) : S57 (R := R) k = callC T F k := by
  funext g a r K
  exact pick_eq (fun e => by subst e; exact s19_eq k a r K) (pick_eq (fun e => by subst e; exact s22_eq k a r K) (pick_eq (fun e => by subst e; exact s77_eq k a r K) (pick_eq (fun e => by subst e; exact s78_eq k a r K) (rfl))))
theorem e57 (k : Nat) (a0 : List Int) (K : List PV → List RowS → Option R) : callC T F k 57 [.val [(0, 0)] (.slice (.int .u8)) a0] [] K = f57 k a0 (fun z0 z1 z2 z3 z4 z5 z6 => K [.val [] (.int .i64) z0, .agg [.val [] (.int .i64) z1, .val [] .bool z2, .val [] .str z3, .val [] (.int .i64) z4, .val [] .bool z5, .rw 1]] [⟨0, .arr [] (.int .u8) z6⟩]) := by
  rw [f57_def]
  cases k with
  | zero => rfl
  | succ k =>
    refine Eq.trans (show _ = exec T an57 (modesOf F) 0 k 86 (callC T F k) (ending T Try.f57 an57 0 K) (bodyOf Try.f57) ⟨argEnv 0 [.val [(0, 0)] (.slice (.int .u8)) a0] (fun _ => none), rowsOf []⟩ (ending T Try.f57 an57 0 K) (fun _ _ => none) from by kernel_rfl) ?_
    rw [← S57_eq k, ← execS_eq T an57 (modesOf F) 0 k 86 (S57 k) (fun _ _ _ _ _ => none) (bodyOf Try.f57) (cuts_of _ _ _ _ _ _ _ _ (bodyOf Try.f57) (l := []) (by kernel_rfl) trivial)]
    kernel_rfl
noncomputable def s57 (k : Nat) (a : List PV) (r : List RowS) (K : List PV → List RowS → Option R) : Option R :=
  onShape [.val [(0, 0)] (.slice (.int .u8))] [] (fun v => f57 k v.1.1 (fun z0 z1 z2 z3 z4 z5 z6 => K [.val [] (.int .i64) z0, .agg [.val [] (.int .i64) z1, .val [] .bool z2, .val [] .str z3, .val [] (.int .i64) z4, .val [] .bool z5, .rw 1]] [⟨0, .arr [] (.int .u8) z6⟩])) (callC T F k 57 a r K) a r
theorem s57_eq (k : Nat) (a : List PV) (r : List RowS) (K : List PV → List RowS → Option R) : s57 k a r K = callC T F k 57 a r K := by
  unfold s57
  exact onShape_eq (a := [.val [(0, 0)] (.slice (.int .u8))]) (b := []) (G := fun a r => callC T F k 57 a r K) (fun x y => Eq.trans (by kernel_rfl) (Eq.trans (e57 k x.1 K).symm (by kernel_rfl))) a r
end
section
variable {R : Type}
noncomputable def S21 (k g : Nat) (a : List PV) (r : List RowS) (K : List PV → List RowS → Option R) : Option R := bif g == 41 then s41 k a r K else bif g == 57 then s57 k a r K else callC T F k g a r K
theorem S21_eq (k : Nat) : S21 (R := R) k = callC T F k := by
  funext g a r K
  exact pick_eq (fun e => by subst e; exact s41_eq k a r K) (pick_eq (fun e => by subst e; exact s57_eq k a r K) (rfl))
theorem e21 (k : Nat) (a0 : List Int) (K : List PV → List RowS → Option R) : callC T F k 21 [.val [(0, 0)] (.slice (.int .u8)) a0] [] K = f21 k a0 (fun z0 z1 z2 z3 z4 z5 z6 z7 => K [.val [] (.int .i64) z0, .agg [.val [] (.int .i64) z1, .val [] .bool z2, .val [] .str z3, .val [] (.int .i64) z4, .val [] .bool z5, .rw 1], .val [] (.int .i64) z6] [⟨0, .arr [] (.int .u8) z7⟩]) := by
  rw [f21_def]
  cases k with
  | zero => rfl
  | succ k =>
    refine Eq.trans (show _ = exec T an21 (modesOf F) 0 k 19 (callC T F k) (ending T Try.f21 an21 0 K) (bodyOf Try.f21) ⟨argEnv 0 [.val [(0, 0)] (.slice (.int .u8)) a0] (fun _ => none), rowsOf []⟩ (ending T Try.f21 an21 0 K) (fun _ _ => none) from by kernel_rfl) ?_
    rw [← S21_eq k, ← execS_eq T an21 (modesOf F) 0 k 19 (S21 k) (fun _ _ _ _ _ => none) (bodyOf Try.f21) (cuts_of _ _ _ _ _ _ _ _ (bodyOf Try.f21) (l := []) (by kernel_rfl) trivial)]
    kernel_rfl
noncomputable def s21 (k : Nat) (a : List PV) (r : List RowS) (K : List PV → List RowS → Option R) : Option R :=
  onShape [.val [(0, 0)] (.slice (.int .u8))] [] (fun v => f21 k v.1.1 (fun z0 z1 z2 z3 z4 z5 z6 z7 => K [.val [] (.int .i64) z0, .agg [.val [] (.int .i64) z1, .val [] .bool z2, .val [] .str z3, .val [] (.int .i64) z4, .val [] .bool z5, .rw 1], .val [] (.int .i64) z6] [⟨0, .arr [] (.int .u8) z7⟩])) (callC T F k 21 a r K) a r
theorem s21_eq (k : Nat) (a : List PV) (r : List RowS) (K : List PV → List RowS → Option R) : s21 k a r K = callC T F k 21 a r K := by
  unfold s21
  exact onShape_eq (a := [.val [(0, 0)] (.slice (.int .u8))]) (b := []) (G := fun a r => callC T F k 21 a r K) (fun x y => Eq.trans (by kernel_rfl) (Eq.trans (e21 k x.1 K).symm (by kernel_rfl))) a r
end
section
variable {R : Type}
noncomputable def S23 (k g : Nat) (a : List PV) (r : List RowS) (K : List PV → List RowS → Option R) : Option R := bif g == 22 then s22 k a r K else callC T F k g a r K
theorem S23_eq (k : Nat) : S23 (R := R) k = callC T F k := by
  funext g a r K
  exact pick_eq (fun e => by subst e; exact s22_eq k a r K) (rfl)
theorem e23 (k : Nat) (a0 : Int) (a1 : Bool) (a2 : ByteArray) (a3 : Int) (a4 : Bool) (a5 : List Int) (a6 : Int) (a7 : Bool) (a8 : ByteArray) (a9 : Int) (a10 : Bool) (a11 : List Int) (K : List PV → List RowS → Option R) : callC T F k 23 [.agg [.val [] (.int .i64) a0, .val [] .bool a1, .val [] .str a2, .val [] (.int .i64) a3, .val [] .bool a4, .val [(0, 0)] (.slice (.int .u8)) a5], .agg [.val [] (.int .i64) a6, .val [] .bool a7, .val [] .str a8, .val [] (.int .i64) a9, .val [] .bool a10, .val [(0, 0)] (.slice (.int .u8)) a11]] [] K = f23 k a0 a1 a2 a3 a4 a5 a6 a7 a8 a9 a10 a11 (fun z0 => K [.val [] .bool z0] []) := by
  rw [f23_def]
  cases k with
  | zero => rfl
  | succ k =>
    refine Eq.trans (show _ = exec T an23 (modesOf F) 0 k 45 (callC T F k) (ending T Try.f23 an23 0 K) (bodyOf Try.f23) ⟨argEnv 0 [.agg [.val [] (.int .i64) a0, .val [] .bool a1, .val [] .str a2, .val [] (.int .i64) a3, .val [] .bool a4, .val [(0, 0)] (.slice (.int .u8)) a5], .agg [.val [] (.int .i64) a6, .val [] .bool a7, .val [] .str a8, .val [] (.int .i64) a9, .val [] .bool a10, .val [(0, 0)] (.slice (.int .u8)) a11]] (fun _ => none), rowsOf []⟩ (ending T Try.f23 an23 0 K) (fun _ _ => none) from by kernel_rfl) ?_
    rw [← S23_eq k, ← execS_eq T an23 (modesOf F) 0 k 45 (S23 k) (fun _ _ _ _ _ => none) (bodyOf Try.f23) (cuts_of _ _ _ _ _ _ _ _ (bodyOf Try.f23) (l := []) (by kernel_rfl) trivial)]
    kernel_rfl
noncomputable def s23 (k : Nat) (a : List PV) (r : List RowS) (K : List PV → List RowS → Option R) : Option R :=
  onShape [.agg [.val [] (.int .i64), .val [] .bool, .val [] .str, .val [] (.int .i64), .val [] .bool, .val [(0, 0)] (.slice (.int .u8))], .agg [.val [] (.int .i64), .val [] .bool, .val [] .str, .val [] (.int .i64), .val [] .bool, .val [(0, 0)] (.slice (.int .u8))]] [] (fun v => f23 k v.1.1.1 v.1.1.2.1 v.1.1.2.2.1 v.1.1.2.2.2.1 v.1.1.2.2.2.2.1 v.1.1.2.2.2.2.2.1 v.1.2.1.1 v.1.2.1.2.1 v.1.2.1.2.2.1 v.1.2.1.2.2.2.1 v.1.2.1.2.2.2.2.1 v.1.2.1.2.2.2.2.2.1 (fun z0 => K [.val [] .bool z0] [])) (callC T F k 23 a r K) a r
theorem s23_eq (k : Nat) (a : List PV) (r : List RowS) (K : List PV → List RowS → Option R) : s23 k a r K = callC T F k 23 a r K := by
  unfold s23
  exact onShape_eq (a := [.agg [.val [] (.int .i64), .val [] .bool, .val [] .str, .val [] (.int .i64), .val [] .bool, .val [(0, 0)] (.slice (.int .u8))], .agg [.val [] (.int .i64), .val [] .bool, .val [] .str, .val [] (.int .i64), .val [] .bool, .val [(0, 0)] (.slice (.int .u8))]]) (b := []) (G := fun a r => callC T F k 23 a r K) (fun x y => Eq.trans (by kernel_rfl) (Eq.trans (e23 k x.1.1 x.1.2.1 x.1.2.2.1 x.1.2.2.2.1 x.1.2.2.2.2.1 x.1.2.2.2.2.2.1 x.2.1.1 x.2.1.2.1 x.2.1.2.2.1 x.2.1.2.2.2.1 x.2.1.2.2.2.2.1 x.2.1.2.2.2.2.2.1 K).symm (by kernel_rfl))) a r
end
section
variable {R : Type}
noncomputable def S5 (k g : Nat) (a : List PV) (r : List RowS) (K : List PV → List RowS → Option R) : Option R := bif g == 13 then s13 k a r K else bif g == 18 then s18 k a r K else bif g == 19 then s19 k a r K else bif g == 20 then s20 k a r K else bif g == 21 then s21 k a r K else bif g == 22 then s22 k a r K else bif g == 23 then s23 k a r K else callC T F k g a r K
theorem S5_eq (k : Nat) : S5 (R := R) k = callC T F k := by
  funext g a r K
  exact pick_eq (fun e => by subst e; exact s13_eq k a r K) (pick_eq (fun e => by subst e; exact s18_eq k a r K) (pick_eq (fun e => by subst e; exact s19_eq k a r K) (pick_eq (fun e => by subst e; exact s20_eq k a r K) (pick_eq (fun e => by subst e; exact s21_eq k a r K) (pick_eq (fun e => by subst e; exact s22_eq k a r K) (pick_eq (fun e => by subst e; exact s23_eq k a r K) (rfl)))))))
theorem e5 (k : Nat) (a0 : Int) (a1 : Int) (a2 : Bool) (a3 : ByteArray) (a4 : Int) (a5 : Bool) (a6 : List Int) (a7 : List Int) (K : List PV → List RowS → Option R) : callC T F k 5 [.val [] (.int .i64) a0, .agg [.val [] (.int .i64) a1, .val [] .bool a2, .val [] .str a3, .val [] (.int .i64) a4, .val [] .bool a5, .val [(0, 0)] (.slice (.int .u8)) a6], .val [(0, 0)] (.slice (.int .u8)) a7] [] K = f5 k a0 a1 a2 a3 a4 a5 a6 a7 (fun z0 => K [.val [] .bool z0] []) := by
  rw [f5_def]
  cases k with
  | zero => rfl
  | succ k =>
    refine Eq.trans (show _ = exec T an5 (modesOf F) 0 k 67 (callC T F k) (ending T Try.f5 an5 0 K) (bodyOf Try.f5) ⟨argEnv 0 [.val [] (.int .i64) a0, .agg [.val [] (.int .i64) a1, .val [] .bool a2, .val [] .str a3, .val [] (.int .i64) a4, .val [] .bool a5, .val [(0, 0)] (.slice (.int .u8)) a6], .val [(0, 0)] (.slice (.int .u8)) a7] (fun _ => none), rowsOf []⟩ (ending T Try.f5 an5 0 K) (fun _ _ => none) from by kernel_rfl) ?_
    rw [← S5_eq k, ← execS_eq T an5 (modesOf F) 0 k 67 (S5 k) (fun _ _ _ _ _ => none) (bodyOf Try.f5) (cuts_of _ _ _ _ _ _ _ _ (bodyOf Try.f5) (l := []) (by kernel_rfl) trivial)]
    kernel_rfl
noncomputable def s5 (k : Nat) (a : List PV) (r : List RowS) (K : List PV → List RowS → Option R) : Option R :=
  onShape [.val [] (.int .i64), .agg [.val [] (.int .i64), .val [] .bool, .val [] .str, .val [] (.int .i64), .val [] .bool, .val [(0, 0)] (.slice (.int .u8))], .val [(0, 0)] (.slice (.int .u8))] [] (fun v => f5 k v.1.1 v.1.2.1.1 v.1.2.1.2.1 v.1.2.1.2.2.1 v.1.2.1.2.2.2.1 v.1.2.1.2.2.2.2.1 v.1.2.1.2.2.2.2.2.1 v.1.2.2.1 (fun z0 => K [.val [] .bool z0] [])) (callC T F k 5 a r K) a r
theorem s5_eq (k : Nat) (a : List PV) (r : List RowS) (K : List PV → List RowS → Option R) : s5 k a r K = callC T F k 5 a r K := by
  unfold s5
  exact onShape_eq (a := [.val [] (.int .i64), .agg [.val [] (.int .i64), .val [] .bool, .val [] .str, .val [] (.int .i64), .val [] .bool, .val [(0, 0)] (.slice (.int .u8))], .val [(0, 0)] (.slice (.int .u8))]) (b := []) (G := fun a r => callC T F k 5 a r K) (fun x y => Eq.trans (by kernel_rfl) (Eq.trans (e5 k x.1 x.2.1.1 x.2.1.2.1 x.2.1.2.2.1 x.2.1.2.2.2.1 x.2.1.2.2.2.2.1 x.2.1.2.2.2.2.2.1 x.2.2.1 K).symm (by kernel_rfl))) a r
end
end Go.Proofs.Ytecnlienmpdlaaa.PM
