/- The small machine's run is the typed form (printed by a program of this work). -/
import Derived.Test.YtlcklflbhhnnhaaPW2
set_option linter.unusedVariables false
set_option linter.unusedSimpArgs false
set_option maxRecDepth 100000
namespace Go.Proofs.Ytlcklflbhhnnhaa.PM
open Go
section
variable {R : Type}
noncomputable def S18 (k g : Nat) (a : List PV) (r : List RowS) (K : List PV → List RowS → Option R) : Option R := bif g == 64 then s64 k a r K else callC T F k g a r K
theorem S18_eq (k : Nat) : S18 (R := R) k = callC T F k := by
  funext g a r K
  exact pick_eq (fun e => by subst e; exact s64_eq k a r K) (rfl)
theorem e18 (k : Nat) (a0 : List Int) (K : List PV → List RowS → Option R) : callC T F k 18 [.val [(0, 0)] zT2 a0] [] K = f18 k a0 (fun z0 z1 => K [zi z0, zi z1] []) := by
  rw [f18_def]
  cases k with
  | zero => rfl
  | succ k =>
    refine Eq.trans (show _ = exec T an18 (modesOf F) 0 k 9 (callC T F k) (ending T Try.f18 an18 0 K) (bodyOf Try.f18) ⟨argEnv 0 [.val [(0, 0)] zT2 a0] (fun _ => none), rowsOf []⟩ (ending T Try.f18 an18 0 K) (fun _ _ => none) from by kernel_rfl) ?_
    rw [← S18_eq k, ← execS_eq T an18 (modesOf F) 0 k 9 (S18 k) (fun _ _ _ _ _ => none) (bodyOf Try.f18) (cuts_of _ _ _ _ _ _ _ _ (bodyOf Try.f18) (l := []) (by kernel_rfl) trivial)]
    kernel_rfl
noncomputable def s18 (k : Nat) (a : List PV) (r : List RowS) (K : List PV → List RowS → Option R) : Option R :=
  onShape [.val [(0, 0)] zT2] [] (fun v => f18 k v.1.1 (fun z0 z1 => K [zi z0, zi z1] [])) (callC T F k 18 a r K) a r
theorem s18_eq (k : Nat) (a : List PV) (r : List RowS) (K : List PV → List RowS → Option R) : s18 k a r K = callC T F k 18 a r K := by
  unfold s18
  exact onShape_eq (a := [.val [(0, 0)] zT2]) (b := []) (G := fun a r => callC T F k 18 a r K) (fun x y => Eq.trans (by kernel_rfl) (Eq.trans (e18 k x.1 K).symm (by kernel_rfl))) a r
end
section
variable {R : Type}
noncomputable def S24 (k g : Nat) (a : List PV) (r : List RowS) (K : List PV → List RowS → Option R) : Option R := bif g == 18 then s18 k a r K else callC T F k g a r K
theorem S24_eq (k : Nat) : S24 (R := R) k = callC T F k := by
  funext g a r K
  exact pick_eq (fun e => by subst e; exact s18_eq k a r K) (rfl)
theorem e24 (k : Nat) (K : List PV → List RowS → Option R) : callC T F k 24 [] [] K = f24 k (fun z0 => K [.val [] .bool z0] []) := by
  rw [f24_def]
  cases k with
  | zero => rfl
  | succ k =>
    refine Eq.trans (show _ = exec T an24 (modesOf F) 0 k 14 (callC T F k) (ending T Try.f24 an24 0 K) (bodyOf Try.f24) ⟨argEnv 0 [] (fun _ => none), rowsOf []⟩ (ending T Try.f24 an24 0 K) (fun _ _ => none) from by kernel_rfl) ?_
    rw [← S24_eq k, ← execS_eq T an24 (modesOf F) 0 k 14 (S24 k) (fun _ _ _ _ _ => none) (bodyOf Try.f24) (cuts_of _ _ _ _ _ _ _ _ (bodyOf Try.f24) (l := []) (by kernel_rfl) trivial)]
    kernel_rfl
noncomputable def s24 (k : Nat) (a : List PV) (r : List RowS) (K : List PV → List RowS → Option R) : Option R :=
  onShape [] [] (fun v => f24 k (fun z0 => K [.val [] .bool z0] [])) (callC T F k 24 a r K) a r
theorem s24_eq (k : Nat) (a : List PV) (r : List RowS) (K : List PV → List RowS → Option R) : s24 k a r K = callC T F k 24 a r K := by
  unfold s24
  exact onShape_eq (a := []) (b := []) (G := fun a r => callC T F k 24 a r K) (fun x y => Eq.trans (by kernel_rfl) (Eq.trans (e24 k K).symm (by kernel_rfl))) a r
end
section
variable {R : Type}
noncomputable def S51 (k g : Nat) (a : List PV) (r : List RowS) (K : List PV → List RowS → Option R) : Option R := callC T F k g a r K
theorem S51_eq (k : Nat) : S51 (R := R) k = callC T F k := by
  funext g a r K
  exact rfl
theorem e51 (k : Nat) (a0 : List Int) (a1 : List Int) (K : List PV → List RowS → Option R) : callC T F k 51 [.val [(0, 0)] zT2 a0, .val [(0, 0)] zT2 a1] [] K = f51 k a0 a1 (fun z0 => K [.val [] .bool z0] []) := by
  rw [f51_def]
  cases k with
  | zero => rfl
  | succ k =>
    refine Eq.trans (show _ = exec T an51 (modesOf F) 0 k 10 (callC T F k) (ending T Try.f51 an51 0 K) (bodyOf Try.f51) ⟨argEnv 0 [.val [(0, 0)] zT2 a0, .val [(0, 0)] zT2 a1] (fun _ => none), rowsOf []⟩ (ending T Try.f51 an51 0 K) (fun _ _ => none) from by kernel_rfl) ?_
    rw [← S51_eq k, ← execS_eq T an51 (modesOf F) 0 k 10 (S51 k) (fun _ _ _ _ _ => none) (bodyOf Try.f51) (cuts_of _ _ _ _ _ _ _ _ (bodyOf Try.f51) (l := []) (by kernel_rfl) trivial)]
    kernel_rfl
noncomputable def s51 (k : Nat) (a : List PV) (r : List RowS) (K : List PV → List RowS → Option R) : Option R :=
  onShape [.val [(0, 0)] zT2, .val [(0, 0)] zT2] [] (fun v => f51 k v.1.1 v.1.2.1 (fun z0 => K [.val [] .bool z0] [])) (callC T F k 51 a r K) a r
theorem s51_eq (k : Nat) (a : List PV) (r : List RowS) (K : List PV → List RowS → Option R) : s51 k a r K = callC T F k 51 a r K := by
  unfold s51
  exact onShape_eq (a := [.val [(0, 0)] zT2, .val [(0, 0)] zT2]) (b := []) (G := fun a r => callC T F k 51 a r K) (fun x y => Eq.trans (by kernel_rfl) (Eq.trans (e51 k x.1 x.2.1 K).symm (by kernel_rfl))) a r
end
section
variable {R : Type}
noncomputable def S15 (k g : Nat) (a : List PV) (r : List RowS) (K : List PV → List RowS → Option R) : Option R := bif g == 24 then s24 k a r K else bif g == 51 then s51 k a r K else bif g == 59 then s59 k a r K else callC T F k g a r K
theorem S15_eq (k : Nat) : S15 (R := R) k = callC T F k := by
  funext g a r K
  exact pick_eq (fun e => by subst e; exact s24_eq k a r K) (pick_eq (fun e => by subst e; exact s51_eq k a r K) (pick_eq (fun e => by subst e; exact s59_eq k a r K) (rfl)))
theorem e15 (k : Nat) (a0 : Int) (a1 : Int) (a2 : Int) (a3 : Int) (a4 : Int) (a5 : Int) (a6 : ByteArray) (a7 : List Int) (a8 : List Bool) (a9 : List Bool) (a10 : Int) (K : List PV → List RowS → Option R) : callC T F k 15 [.agg [zi a0, zi a1, zi a2, zi a3, zi a4], zi a5, .val [] .str a6, .val [(0, 0)] zT2 a7, .val [(0, 0)] zT3 a8, .val [(0, 0)] zT3 a9, zi a10] [] K = f15 k a0 a1 a2 a3 a4 a5 a6 a7 a8 a9 a10 (fun z0 => K [.val [] .bool z0] []) := by
  rw [f15_def]
  cases k with
  | zero => rfl
  | succ k =>
    refine Eq.trans (show _ = exec T an15 (modesOf F) 0 k 92 (callC T F k) (ending T Try.f15 an15 0 K) (bodyOf Try.f15) ⟨argEnv 0 [.agg [zi a0, zi a1, zi a2, zi a3, zi a4], zi a5, .val [] .str a6, .val [(0, 0)] zT2 a7, .val [(0, 0)] zT3 a8, .val [(0, 0)] zT3 a9, zi a10] (fun _ => none), rowsOf []⟩ (ending T Try.f15 an15 0 K) (fun _ _ => none) from by kernel_rfl) ?_
    rw [← S15_eq k, ← execS_eq T an15 (modesOf F) 0 k 92 (S15 k) (fun _ _ _ _ _ => none) (bodyOf Try.f15) (cuts_of _ _ _ _ _ _ _ _ (bodyOf Try.f15) (l := []) (by kernel_rfl) trivial)]
    kernel_rfl
noncomputable def s15 (k : Nat) (a : List PV) (r : List RowS) (K : List PV → List RowS → Option R) : Option R :=
  onShape [.agg [.val [] (.int .i64), .val [] (.int .i64), .val [] (.int .i64), .val [] (.int .i64), .val [] (.int .i64)], .val [] (.int .i64), .val [] .str, .val [(0, 0)] zT2, .val [(0, 0)] zT3, .val [(0, 0)] zT3, .val [] (.int .i64)] [] (fun v => f15 k v.1.1.1 v.1.1.2.1 v.1.1.2.2.1 v.1.1.2.2.2.1 v.1.1.2.2.2.2.1 v.1.2.1 v.1.2.2.1 v.1.2.2.2.1 v.1.2.2.2.2.1 v.1.2.2.2.2.2.1 v.1.2.2.2.2.2.2.1 (fun z0 => K [.val [] .bool z0] [])) (callC T F k 15 a r K) a r
theorem s15_eq (k : Nat) (a : List PV) (r : List RowS) (K : List PV → List RowS → Option R) : s15 k a r K = callC T F k 15 a r K := by
  unfold s15
  exact onShape_eq (a := [.agg [.val [] (.int .i64), .val [] (.int .i64), .val [] (.int .i64), .val [] (.int .i64), .val [] (.int .i64)], .val [] (.int .i64), .val [] .str, .val [(0, 0)] zT2, .val [(0, 0)] zT3, .val [(0, 0)] zT3, .val [] (.int .i64)]) (b := []) (G := fun a r => callC T F k 15 a r K) (fun x y => Eq.trans (by kernel_rfl) (Eq.trans (e15 k x.1.1 x.1.2.1 x.1.2.2.1 x.1.2.2.2.1 x.1.2.2.2.2.1 x.2.1 x.2.2.1 x.2.2.2.1 x.2.2.2.2.1 x.2.2.2.2.2.1 x.2.2.2.2.2.2.1 K).symm (by kernel_rfl))) a r
end
end Go.Proofs.Ytlcklflbhhnnhaa.PM
