/- The small machine's run is the typed form (printed by a program of this work). -/
import Derived.Test.YtahdmfboidjkoaaPW0
set_option linter.unusedVariables false
set_option linter.unusedSimpArgs false
set_option maxRecDepth 100000
namespace Go.Proofs.Ytahdmfboidjkoaa.PM
open Go
section
variable {R : Type}
noncomputable def S76 (k g : Nat) (a : List PV) (r : List RowS) (K : List PV → List RowS → Option R) : Option R := bif g == 69 then s69 k a r K else callC T F k g a r K
theorem S76_eq (k : Nat) : S76 (R := R) k = callC T F k := by
  funext g a r K
  exact pick_eq (fun e => by subst e; exact s69_eq k a r K) (rfl)
theorem q76 (k : Nat) (a0 : Int) (K : List PV → List RowS → Option R) :
    execS T an76 (modesOf F) 0 k 6 (S76 k) (fun _ _ _ _ _ => none) (ending T Try.f76 an76 0 K) (bodyOf Try.f76) ⟨argEnv 0 [.val [] (.int .i64) a0] (fun _ => none), rowsOf []⟩ (ending T Try.f76 an76 0 K) (fun _ _ => none) = f76d (k + 1) a0 (fun z0 => K [.val [] (.int .i64) z0] []) := by kernel_rfl
theorem e76 (k : Nat) (a0 : Int) (K : List PV → List RowS → Option R) : callC T F k 76 [.val [] (.int .i64) a0] [] K = f76 k a0 (fun z0 => K [.val [] (.int .i64) z0] []) := by
  rw [f76_def]
  cases k with
  | zero => rfl
  | succ k =>
    refine Eq.trans (show _ = exec T an76 (modesOf F) 0 k 6 (callC T F k) (ending T Try.f76 an76 0 K) (bodyOf Try.f76) ⟨argEnv 0 [.val [] (.int .i64) a0] (fun _ => none), rowsOf []⟩ (ending T Try.f76 an76 0 K) (fun _ _ => none) from by kernel_rfl) ?_
    rw [← S76_eq k, ← execS_eq T an76 (modesOf F) 0 k 6 (S76 k) (fun _ _ _ _ _ => none) (bodyOf Try.f76) (cuts_of _ _ _ _ _ _ _ _ (bodyOf Try.f76) (l := []) (by kernel_rfl) trivial)]
    exact q76 k a0 K
noncomputable def s76 (k : Nat) (a : List PV) (r : List RowS) (K : List PV → List RowS → Option R) : Option R := match a, r with
  | [.val [] (.int .i64) a0], [] => f76 k a0 (fun z0 => K [.val [] (.int .i64) z0] [])
  | a, r => callC T F k 76 a r K
theorem s76_eq (k : Nat) (a : List PV) (r : List RowS) (K : List PV → List RowS → Option R) : s76 k a r K = callC T F k 76 a r K := by
  unfold s76
  split
  · exact (e76 k _ K).symm
  · rfl
end
section
variable {R : Type}
noncomputable def S77 (k g : Nat) (a : List PV) (r : List RowS) (K : List PV → List RowS → Option R) : Option R := bif g == 69 then s69 k a r K else callC T F k g a r K
theorem S77_eq (k : Nat) : S77 (R := R) k = callC T F k := by
  funext g a r K
  exact pick_eq (fun e => by subst e; exact s69_eq k a r K) (rfl)
theorem q77 (k : Nat) (a0 : Int) (a1 : Int) (a2 : Int) (K : List PV → List RowS → Option R) :
    execS T an77 (modesOf F) 0 k 20 (S77 k) (fun _ _ _ _ _ => none) (ending T Try.f77 an77 0 K) (bodyOf Try.f77) ⟨argEnv 0 [.val [] (.int .i64) a0, .val [] (.int .i64) a1, .val [] (.int .i64) a2] (fun _ => none), rowsOf []⟩ (ending T Try.f77 an77 0 K) (fun _ _ => none) = f77d (k + 1) a0 a1 a2 (fun z0 => K [.val [] (.int .i64) z0] []) := by kernel_rfl
theorem e77 (k : Nat) (a0 : Int) (a1 : Int) (a2 : Int) (K : List PV → List RowS → Option R) : callC T F k 77 [.val [] (.int .i64) a0, .val [] (.int .i64) a1, .val [] (.int .i64) a2] [] K = f77 k a0 a1 a2 (fun z0 => K [.val [] (.int .i64) z0] []) := by
  rw [f77_def]
  cases k with
  | zero => rfl
  | succ k =>
    refine Eq.trans (show _ = exec T an77 (modesOf F) 0 k 20 (callC T F k) (ending T Try.f77 an77 0 K) (bodyOf Try.f77) ⟨argEnv 0 [.val [] (.int .i64) a0, .val [] (.int .i64) a1, .val [] (.int .i64) a2] (fun _ => none), rowsOf []⟩ (ending T Try.f77 an77 0 K) (fun _ _ => none) from by kernel_rfl) ?_
    rw [← S77_eq k, ← execS_eq T an77 (modesOf F) 0 k 20 (S77 k) (fun _ _ _ _ _ => none) (bodyOf Try.f77) (cuts_of _ _ _ _ _ _ _ _ (bodyOf Try.f77) (l := []) (by kernel_rfl) trivial)]
    exact q77 k a0 a1 a2 K
noncomputable def s77 (k : Nat) (a : List PV) (r : List RowS) (K : List PV → List RowS → Option R) : Option R := match a, r with
  | [.val [] (.int .i64) a0, .val [] (.int .i64) a1, .val [] (.int .i64) a2], [] => f77 k a0 a1 a2 (fun z0 => K [.val [] (.int .i64) z0] [])
  | a, r => callC T F k 77 a r K
theorem s77_eq (k : Nat) (a : List PV) (r : List RowS) (K : List PV → List RowS → Option R) : s77 k a r K = callC T F k 77 a r K := by
  unfold s77
  split
  · exact (e77 k _ _ _ K).symm
  · rfl
end
section
variable {R : Type}
noncomputable def S36 (k g : Nat) (a : List PV) (r : List RowS) (K : List PV → List RowS → Option R) : Option R := bif g == 69 then s69 k a r K else bif g == 76 then s76 k a r K else bif g == 77 then s77 k a r K else callC T F k g a r K
theorem S36_eq (k : Nat) : S36 (R := R) k = callC T F k := by
  funext g a r K
  exact pick_eq (fun e => by subst e; exact s69_eq k a r K) (pick_eq (fun e => by subst e; exact s76_eq k a r K) (pick_eq (fun e => by subst e; exact s77_eq k a r K) (rfl)))
theorem q36 (k : Nat) (a0 : Int) (a1 : Int) (a2 : Int) (a3 : Int) (a4 : List Int) (a5 : Int) (K : List PV → List RowS → Option R) :
    execS T an36 (modesOf F) 0 k 41 (S36 k) (fun _ _ _ _ _ => none) (ending T Try.f36 an36 0 K) (bodyOf Try.f36) ⟨argEnv 0 [.agg [.val [] (.int .i64) a0, .val [] (.int .i64) a1, .val [] (.int .i64) a2, .val [] (.int .i64) a3, .val [(0, 0)] (.slice (.int .u8)) a4], .val [] (.int .i64) a5] (fun _ => none), rowsOf []⟩ (ending T Try.f36 an36 0 K) (fun _ _ => none) = f36d (k + 1) a0 a1 a2 a3 a4 a5 (fun z0 => K [.val [] (.int .i64) z0] []) := by kernel_rfl
theorem e36 (k : Nat) (a0 : Int) (a1 : Int) (a2 : Int) (a3 : Int) (a4 : List Int) (a5 : Int) (K : List PV → List RowS → Option R) : callC T F k 36 [.agg [.val [] (.int .i64) a0, .val [] (.int .i64) a1, .val [] (.int .i64) a2, .val [] (.int .i64) a3, .val [(0, 0)] (.slice (.int .u8)) a4], .val [] (.int .i64) a5] [] K = f36 k a0 a1 a2 a3 a4 a5 (fun z0 => K [.val [] (.int .i64) z0] []) := by
  rw [f36_def]
  cases k with
  | zero => rfl
  | succ k =>
    refine Eq.trans (show _ = exec T an36 (modesOf F) 0 k 41 (callC T F k) (ending T Try.f36 an36 0 K) (bodyOf Try.f36) ⟨argEnv 0 [.agg [.val [] (.int .i64) a0, .val [] (.int .i64) a1, .val [] (.int .i64) a2, .val [] (.int .i64) a3, .val [(0, 0)] (.slice (.int .u8)) a4], .val [] (.int .i64) a5] (fun _ => none), rowsOf []⟩ (ending T Try.f36 an36 0 K) (fun _ _ => none) from by kernel_rfl) ?_
    rw [← S36_eq k, ← execS_eq T an36 (modesOf F) 0 k 41 (S36 k) (fun _ _ _ _ _ => none) (bodyOf Try.f36) (cuts_of _ _ _ _ _ _ _ _ (bodyOf Try.f36) (l := []) (by kernel_rfl) trivial)]
    exact q36 k a0 a1 a2 a3 a4 a5 K
noncomputable def s36 (k : Nat) (a : List PV) (r : List RowS) (K : List PV → List RowS → Option R) : Option R := match a, r with
  | [.agg [.val [] (.int .i64) a0, .val [] (.int .i64) a1, .val [] (.int .i64) a2, .val [] (.int .i64) a3, .val [(0, 0)] (.slice (.int .u8)) a4], .val [] (.int .i64) a5], [] => f36 k a0 a1 a2 a3 a4 a5 (fun z0 => K [.val [] (.int .i64) z0] [])
  | a, r => callC T F k 36 a r K
theorem s36_eq (k : Nat) (a : List PV) (r : List RowS) (K : List PV → List RowS → Option R) : s36 k a r K = callC T F k 36 a r K := by
  unfold s36
  split
  · exact (e36 k _ _ _ _ _ _ K).symm
  · rfl
end
section
variable {R : Type}
noncomputable def S74 (k g : Nat) (a : List PV) (r : List RowS) (K : List PV → List RowS → Option R) : Option R := bif g == 20 then s20 k a r K else bif g == 40 then s40 k a r K else bif g == 95 then s95 k a r K else callC T F k g a r K
theorem S74_eq (k : Nat) : S74 (R := R) k = callC T F k := by
  funext g a r K
  exact pick_eq (fun e => by subst e; exact s20_eq k a r K) (pick_eq (fun e => by subst e; exact s40_eq k a r K) (pick_eq (fun e => by subst e; exact s95_eq k a r K) (rfl)))
theorem q74 (k : Nat) (a0 : Int) (a1 : Int) (a2 : Int) (a3 : Int) (a4 : List Int) (K : List PV → List RowS → Option R) :
    execS T an74 (modesOf F) 0 k 26 (S74 k) (fun _ _ _ _ _ => none) (ending T Try.f74 an74 0 K) (bodyOf Try.f74) ⟨argEnv 0 [.agg [.val [] (.int .i64) a0, .val [] (.int .i64) a1, .val [] (.int .i64) a2, .val [] (.int .i64) a3, .val [(0, 0)] (.slice (.int .u8)) a4]] (fun _ => none), rowsOf []⟩ (ending T Try.f74 an74 0 K) (fun _ _ => none) = f74d (k + 1) a0 a1 a2 a3 a4 (fun z0 => K [.rw 1] [⟨0, .arr [] (.int .u8) z0⟩]) := by kernel_rfl
theorem e74 (k : Nat) (a0 : Int) (a1 : Int) (a2 : Int) (a3 : Int) (a4 : List Int) (K : List PV → List RowS → Option R) : callC T F k 74 [.agg [.val [] (.int .i64) a0, .val [] (.int .i64) a1, .val [] (.int .i64) a2, .val [] (.int .i64) a3, .val [(0, 0)] (.slice (.int .u8)) a4]] [] K = f74 k a0 a1 a2 a3 a4 (fun z0 => K [.rw 1] [⟨0, .arr [] (.int .u8) z0⟩]) := by
  rw [f74_def]
  cases k with
  | zero => rfl
  | succ k =>
    refine Eq.trans (show _ = exec T an74 (modesOf F) 0 k 26 (callC T F k) (ending T Try.f74 an74 0 K) (bodyOf Try.f74) ⟨argEnv 0 [.agg [.val [] (.int .i64) a0, .val [] (.int .i64) a1, .val [] (.int .i64) a2, .val [] (.int .i64) a3, .val [(0, 0)] (.slice (.int .u8)) a4]] (fun _ => none), rowsOf []⟩ (ending T Try.f74 an74 0 K) (fun _ _ => none) from by kernel_rfl) ?_
    rw [← S74_eq k, ← execS_eq T an74 (modesOf F) 0 k 26 (S74 k) (fun _ _ _ _ _ => none) (bodyOf Try.f74) (cuts_of _ _ _ _ _ _ _ _ (bodyOf Try.f74) (l := []) (by kernel_rfl) trivial)]
    exact q74 k a0 a1 a2 a3 a4 K
noncomputable def s74 (k : Nat) (a : List PV) (r : List RowS) (K : List PV → List RowS → Option R) : Option R := match a, r with
  | [.agg [.val [] (.int .i64) a0, .val [] (.int .i64) a1, .val [] (.int .i64) a2, .val [] (.int .i64) a3, .val [(0, 0)] (.slice (.int .u8)) a4]], [] => f74 k a0 a1 a2 a3 a4 (fun z0 => K [.rw 1] [⟨0, .arr [] (.int .u8) z0⟩])
  | a, r => callC T F k 74 a r K
theorem s74_eq (k : Nat) (a : List PV) (r : List RowS) (K : List PV → List RowS → Option R) : s74 k a r K = callC T F k 74 a r K := by
  unfold s74
  split
  · exact (e74 k _ _ _ _ _ K).symm
  · rfl
end
section
variable {R : Type}
noncomputable def S34 (k g : Nat) (a : List PV) (r : List RowS) (K : List PV → List RowS → Option R) : Option R := bif g == 36 then s36 k a r K else bif g == 74 then s74 k a r K else callC T F k g a r K
theorem S34_eq (k : Nat) : S34 (R := R) k = callC T F k := by
  funext g a r K
  exact pick_eq (fun e => by subst e; exact s36_eq k a r K) (pick_eq (fun e => by subst e; exact s74_eq k a r K) (rfl))
theorem q34 (k : Nat) (a0 : Int) (a1 : Int) (a2 : Int) (a3 : Int) (a4 : List Int) (a5 : Int) (K : List PV → List RowS → Option R) :
    execS T an34 (modesOf F) 0 k 15 (S34 k) (fun _ _ _ _ _ => none) (ending T Try.f34 an34 0 K) (bodyOf Try.f34) ⟨argEnv 0 [.agg [.val [] (.int .i64) a0, .val [] (.int .i64) a1, .val [] (.int .i64) a2, .val [] (.int .i64) a3, .val [(0, 0)] (.slice (.int .u8)) a4], .val [] (.int .i64) a5] (fun _ => none), rowsOf []⟩ (ending T Try.f34 an34 0 K) (fun _ _ => none) = f34d (k + 1) a0 a1 a2 a3 a4 a5 (fun z0 z1 => K [.rw 1, .val [] (.int .i64) z0] [⟨0, .arr [] (.int .u8) z1⟩]) := by kernel_rfl
theorem e34 (k : Nat) (a0 : Int) (a1 : Int) (a2 : Int) (a3 : Int) (a4 : List Int) (a5 : Int) (K : List PV → List RowS → Option R) : callC T F k 34 [.agg [.val [] (.int .i64) a0, .val [] (.int .i64) a1, .val [] (.int .i64) a2, .val [] (.int .i64) a3, .val [(0, 0)] (.slice (.int .u8)) a4], .val [] (.int .i64) a5] [] K = f34 k a0 a1 a2 a3 a4 a5 (fun z0 z1 => K [.rw 1, .val [] (.int .i64) z0] [⟨0, .arr [] (.int .u8) z1⟩]) := by
  rw [f34_def]
  cases k with
  | zero => rfl
  | succ k =>
    refine Eq.trans (show _ = exec T an34 (modesOf F) 0 k 15 (callC T F k) (ending T Try.f34 an34 0 K) (bodyOf Try.f34) ⟨argEnv 0 [.agg [.val [] (.int .i64) a0, .val [] (.int .i64) a1, .val [] (.int .i64) a2, .val [] (.int .i64) a3, .val [(0, 0)] (.slice (.int .u8)) a4], .val [] (.int .i64) a5] (fun _ => none), rowsOf []⟩ (ending T Try.f34 an34 0 K) (fun _ _ => none) from by kernel_rfl) ?_
    rw [← S34_eq k, ← execS_eq T an34 (modesOf F) 0 k 15 (S34 k) (fun _ _ _ _ _ => none) (bodyOf Try.f34) (cuts_of _ _ _ _ _ _ _ _ (bodyOf Try.f34) (l := []) (by kernel_rfl) trivial)]
    exact q34 k a0 a1 a2 a3 a4 a5 K
noncomputable def s34 (k : Nat) (a : List PV) (r : List RowS) (K : List PV → List RowS → Option R) : Option R := match a, r with
  | [.agg [.val [] (.int .i64) a0, .val [] (.int .i64) a1, .val [] (.int .i64) a2, .val [] (.int .i64) a3, .val [(0, 0)] (.slice (.int .u8)) a4], .val [] (.int .i64) a5], [] => f34 k a0 a1 a2 a3 a4 a5 (fun z0 z1 => K [.rw 1, .val [] (.int .i64) z0] [⟨0, .arr [] (.int .u8) z1⟩])
  | a, r => callC T F k 34 a r K
theorem s34_eq (k : Nat) (a : List PV) (r : List RowS) (K : List PV → List RowS → Option R) : s34 k a r K = callC T F k 34 a r K := by
  unfold s34
  split
  · exact (e34 k _ _ _ _ _ _ K).symm
  · rfl
end
section
variable {R : Type}
noncomputable def S37 (k g : Nat) (a : List PV) (r : List RowS) (K : List PV → List RowS → Option R) : Option R := bif g == 35 then s35 k a r K else bif g == 41 then s41 k a r K else bif g == 65 then s65 k a r K else bif g == 67 then s67 k a r K else bif g == 75 then s75 k a r K else callC T F k g a r K
theorem S37_eq (k : Nat) : S37 (R := R) k = callC T F k := by
  funext g a r K
  exact pick_eq (fun e => by subst e; exact s35_eq k a r K) (pick_eq (fun e => by subst e; exact s41_eq k a r K) (pick_eq (fun e => by subst e; exact s65_eq k a r K) (pick_eq (fun e => by subst e; exact s67_eq k a r K) (pick_eq (fun e => by subst e; exact s75_eq k a r K) (rfl)))))
theorem q37 (k : Nat) (a0 : List Int) (a1 : Int) (K : List PV → List RowS → Option R) :
    execS T an37 (modesOf F) 0 k 51 (S37 k) (fun _ _ _ _ _ => none) (ending T Try.f37 an37 0 K) (bodyOf Try.f37) ⟨argEnv 0 [.val [(0, 0)] (.slice (.int .u8)) a0, .val [] (.int .i64) a1] (fun _ => none), rowsOf []⟩ (ending T Try.f37 an37 0 K) (fun _ _ => none) = f37d (k + 1) a0 a1 (fun z0 z1 z2 z3 z4 z5 => K [.agg [.val [] (.int .i64) z0, .val [] (.int .i64) z1, .val [] (.int .i64) z2, .val [] (.int .i64) z3, .rw 1], .val [] (.int .i64) z4] [⟨0, .arr [] (.int .u8) z5⟩]) := by kernel_rfl
theorem e37 (k : Nat) (a0 : List Int) (a1 : Int) (K : List PV → List RowS → Option R) : callC T F k 37 [.val [(0, 0)] (.slice (.int .u8)) a0, .val [] (.int .i64) a1] [] K = f37 k a0 a1 (fun z0 z1 z2 z3 z4 z5 => K [.agg [.val [] (.int .i64) z0, .val [] (.int .i64) z1, .val [] (.int .i64) z2, .val [] (.int .i64) z3, .rw 1], .val [] (.int .i64) z4] [⟨0, .arr [] (.int .u8) z5⟩]) := by
  rw [f37_def]
  cases k with
  | zero => rfl
  | succ k =>
    refine Eq.trans (show _ = exec T an37 (modesOf F) 0 k 51 (callC T F k) (ending T Try.f37 an37 0 K) (bodyOf Try.f37) ⟨argEnv 0 [.val [(0, 0)] (.slice (.int .u8)) a0, .val [] (.int .i64) a1] (fun _ => none), rowsOf []⟩ (ending T Try.f37 an37 0 K) (fun _ _ => none) from by kernel_rfl) ?_
    rw [← S37_eq k, ← execS_eq T an37 (modesOf F) 0 k 51 (S37 k) (fun _ _ _ _ _ => none) (bodyOf Try.f37) (cuts_of _ _ _ _ _ _ _ _ (bodyOf Try.f37) (l := []) (by kernel_rfl) trivial)]
    exact q37 k a0 a1 K
noncomputable def s37 (k : Nat) (a : List PV) (r : List RowS) (K : List PV → List RowS → Option R) : Option R := match a, r with
  | [.val [(0, 0)] (.slice (.int .u8)) a0, .val [] (.int .i64) a1], [] => f37 k a0 a1 (fun z0 z1 z2 z3 z4 z5 => K [.agg [.val [] (.int .i64) z0, .val [] (.int .i64) z1, .val [] (.int .i64) z2, .val [] (.int .i64) z3, .rw 1], .val [] (.int .i64) z4] [⟨0, .arr [] (.int .u8) z5⟩])
  | a, r => callC T F k 37 a r K
theorem s37_eq (k : Nat) (a : List PV) (r : List RowS) (K : List PV → List RowS → Option R) : s37 k a r K = callC T F k 37 a r K := by
  unfold s37
  split
  · exact (e37 k _ _ K).symm
  · rfl
end
section
variable {R : Type}
noncomputable def S38 (k g : Nat) (a : List PV) (r : List RowS) (K : List PV → List RowS → Option R) : Option R := bif g == 20 then s20 k a r K else bif g == 36 then s36 k a r K else bif g == 41 then s41 k a r K else bif g == 68 then s68 k a r K else bif g == 76 then s76 k a r K else callC T F k g a r K
theorem S38_eq (k : Nat) : S38 (R := R) k = callC T F k := by
  funext g a r K
  exact pick_eq (fun e => by subst e; exact s20_eq k a r K) (pick_eq (fun e => by subst e; exact s36_eq k a r K) (pick_eq (fun e => by subst e; exact s41_eq k a r K) (pick_eq (fun e => by subst e; exact s68_eq k a r K) (pick_eq (fun e => by subst e; exact s76_eq k a r K) (rfl)))))
theorem q38 (k : Nat) (a0 : List Int) (a1 : Int) (K : List PV → List RowS → Option R) :
    execS T an38 (modesOf F) 0 k 59 (S38 k) (fun _ _ _ _ _ => none) (ending T Try.f38 an38 0 K) (bodyOf Try.f38) ⟨argEnv 0 [.val [(0, 0)] (.slice (.int .u8)) a0, .val [] (.int .i64) a1] (fun _ => none), rowsOf []⟩ (ending T Try.f38 an38 0 K) (fun _ _ => none) = f38d (k + 1) a0 a1 (fun z0 z1 z2 z3 z4 z5 => K [.agg [.val [] (.int .i64) z0, .val [] (.int .i64) z1, .val [] (.int .i64) z2, .val [] (.int .i64) z3, .rw 1], .val [] (.int .i64) z4] [⟨0, .arr [] (.int .u8) z5⟩]) := by kernel_rfl
theorem e38 (k : Nat) (a0 : List Int) (a1 : Int) (K : List PV → List RowS → Option R) : callC T F k 38 [.val [(0, 0)] (.slice (.int .u8)) a0, .val [] (.int .i64) a1] [] K = f38 k a0 a1 (fun z0 z1 z2 z3 z4 z5 => K [.agg [.val [] (.int .i64) z0, .val [] (.int .i64) z1, .val [] (.int .i64) z2, .val [] (.int .i64) z3, .rw 1], .val [] (.int .i64) z4] [⟨0, .arr [] (.int .u8) z5⟩]) := by
  rw [f38_def]
  cases k with
  | zero => rfl
  | succ k =>
    refine Eq.trans (show _ = exec T an38 (modesOf F) 0 k 59 (callC T F k) (ending T Try.f38 an38 0 K) (bodyOf Try.f38) ⟨argEnv 0 [.val [(0, 0)] (.slice (.int .u8)) a0, .val [] (.int .i64) a1] (fun _ => none), rowsOf []⟩ (ending T Try.f38 an38 0 K) (fun _ _ => none) from by kernel_rfl) ?_
    rw [← S38_eq k, ← execS_eq T an38 (modesOf F) 0 k 59 (S38 k) (fun _ _ _ _ _ => none) (bodyOf Try.f38) (cuts_of _ _ _ _ _ _ _ _ (bodyOf Try.f38) (l := []) (by kernel_rfl) trivial)]
    exact q38 k a0 a1 K
noncomputable def s38 (k : Nat) (a : List PV) (r : List RowS) (K : List PV → List RowS → Option R) : Option R := match a, r with
  | [.val [(0, 0)] (.slice (.int .u8)) a0, .val [] (.int .i64) a1], [] => f38 k a0 a1 (fun z0 z1 z2 z3 z4 z5 => K [.agg [.val [] (.int .i64) z0, .val [] (.int .i64) z1, .val [] (.int .i64) z2, .val [] (.int .i64) z3, .rw 1], .val [] (.int .i64) z4] [⟨0, .arr [] (.int .u8) z5⟩])
  | a, r => callC T F k 38 a r K
theorem s38_eq (k : Nat) (a : List PV) (r : List RowS) (K : List PV → List RowS → Option R) : s38 k a r K = callC T F k 38 a r K := by
  unfold s38
  split
  · exact (e38 k _ _ K).symm
  · rfl
end
section
variable {R : Type}
noncomputable def S39 (k g : Nat) (a : List PV) (r : List RowS) (K : List PV → List RowS → Option R) : Option R := bif g == 32 then s32 k a r K else callC T F k g a r K
theorem S39_eq (k : Nat) : S39 (R := R) k = callC T F k := by
  funext g a r K
  exact pick_eq (fun e => by subst e; exact s32_eq k a r K) (rfl)
theorem q39 (k : Nat) (a0 : Int) (a1 : Int) (a2 : Int) (a3 : Int) (a4 : List Int) (a5 : Int) (a6 : Int) (a7 : Int) (a8 : Int) (a9 : List Int) (K : List PV → List RowS → Option R) :
    execS T an39 (modesOf F) 0 k 38 (S39 k) (fun _ _ _ _ _ => none) (ending T Try.f39 an39 0 K) (bodyOf Try.f39) ⟨argEnv 0 [.agg [.val [] (.int .i64) a0, .val [] (.int .i64) a1, .val [] (.int .i64) a2, .val [] (.int .i64) a3, .val [(0, 0)] (.slice (.int .u8)) a4], .agg [.val [] (.int .i64) a5, .val [] (.int .i64) a6, .val [] (.int .i64) a7, .val [] (.int .i64) a8, .val [(0, 0)] (.slice (.int .u8)) a9]] (fun _ => none), rowsOf []⟩ (ending T Try.f39 an39 0 K) (fun _ _ => none) = f39d (k + 1) a0 a1 a2 a3 a4 a5 a6 a7 a8 a9 (fun z0 => K [.val [] .bool z0] []) := by kernel_rfl
theorem e39 (k : Nat) (a0 : Int) (a1 : Int) (a2 : Int) (a3 : Int) (a4 : List Int) (a5 : Int) (a6 : Int) (a7 : Int) (a8 : Int) (a9 : List Int) (K : List PV → List RowS → Option R) : callC T F k 39 [.agg [.val [] (.int .i64) a0, .val [] (.int .i64) a1, .val [] (.int .i64) a2, .val [] (.int .i64) a3, .val [(0, 0)] (.slice (.int .u8)) a4], .agg [.val [] (.int .i64) a5, .val [] (.int .i64) a6, .val [] (.int .i64) a7, .val [] (.int .i64) a8, .val [(0, 0)] (.slice (.int .u8)) a9]] [] K = f39 k a0 a1 a2 a3 a4 a5 a6 a7 a8 a9 (fun z0 => K [.val [] .bool z0] []) := by
  rw [f39_def]
  cases k with
  | zero => rfl
  | succ k =>
    refine Eq.trans (show _ = exec T an39 (modesOf F) 0 k 38 (callC T F k) (ending T Try.f39 an39 0 K) (bodyOf Try.f39) ⟨argEnv 0 [.agg [.val [] (.int .i64) a0, .val [] (.int .i64) a1, .val [] (.int .i64) a2, .val [] (.int .i64) a3, .val [(0, 0)] (.slice (.int .u8)) a4], .agg [.val [] (.int .i64) a5, .val [] (.int .i64) a6, .val [] (.int .i64) a7, .val [] (.int .i64) a8, .val [(0, 0)] (.slice (.int .u8)) a9]] (fun _ => none), rowsOf []⟩ (ending T Try.f39 an39 0 K) (fun _ _ => none) from by kernel_rfl) ?_
    rw [← S39_eq k, ← execS_eq T an39 (modesOf F) 0 k 38 (S39 k) (fun _ _ _ _ _ => none) (bodyOf Try.f39) (cuts_of _ _ _ _ _ _ _ _ (bodyOf Try.f39) (l := []) (by kernel_rfl) trivial)]
    exact q39 k a0 a1 a2 a3 a4 a5 a6 a7 a8 a9 K
noncomputable def s39 (k : Nat) (a : List PV) (r : List RowS) (K : List PV → List RowS → Option R) : Option R := match a, r with
  | [.agg [.val [] (.int .i64) a0, .val [] (.int .i64) a1, .val [] (.int .i64) a2, .val [] (.int .i64) a3, .val [(0, 0)] (.slice (.int .u8)) a4], .agg [.val [] (.int .i64) a5, .val [] (.int .i64) a6, .val [] (.int .i64) a7, .val [] (.int .i64) a8, .val [(0, 0)] (.slice (.int .u8)) a9]], [] => f39 k a0 a1 a2 a3 a4 a5 a6 a7 a8 a9 (fun z0 => K [.val [] .bool z0] [])
  | a, r => callC T F k 39 a r K
theorem s39_eq (k : Nat) (a : List PV) (r : List RowS) (K : List PV → List RowS → Option R) : s39 k a r K = callC T F k 39 a r K := by
  unfold s39
  split
  · exact (e39 k _ _ _ _ _ _ _ _ _ _ K).symm
  · rfl
end
section
variable {R : Type}
noncomputable def S7 (k g : Nat) (a : List PV) (r : List RowS) (K : List PV → List RowS → Option R) : Option R := bif g == 21 then s21 k a r K else bif g == 32 then s32 k a r K else bif g == 33 then s33 k a r K else bif g == 34 then s34 k a r K else bif g == 35 then s35 k a r K else bif g == 36 then s36 k a r K else bif g == 37 then s37 k a r K else bif g == 38 then s38 k a r K else bif g == 39 then s39 k a r K else callC T F k g a r K
theorem S7_eq (k : Nat) : S7 (R := R) k = callC T F k := by
  funext g a r K
  exact pick_eq (fun e => by subst e; exact s21_eq k a r K) (pick_eq (fun e => by subst e; exact s32_eq k a r K) (pick_eq (fun e => by subst e; exact s33_eq k a r K) (pick_eq (fun e => by subst e; exact s34_eq k a r K) (pick_eq (fun e => by subst e; exact s35_eq k a r K) (pick_eq (fun e => by subst e; exact s36_eq k a r K) (pick_eq (fun e => by subst e; exact s37_eq k a r K) (pick_eq (fun e => by subst e; exact s38_eq k a r K) (pick_eq (fun e => by subst e; exact s39_eq k a r K) (rfl)))))))))
theorem q7 (k : Nat) (a0 : Int) (a1 : Int) (a2 : Int) (a3 : Int) (a4 : List Int) (a5 : Int) (a6 : List Int) (K : List PV → List RowS → Option R) :
    execS T an7 (modesOf F) 0 k 87 (S7 k) (fun _ _ _ _ _ => none) (ending T Try.f7 an7 0 K) (bodyOf Try.f7) ⟨argEnv 0 [.agg [.val [] (.int .i64) a0, .val [] (.int .i64) a1, .val [] (.int .i64) a2, .val [] (.int .i64) a3, .val [(0, 0)] (.slice (.int .u8)) a4], .val [] (.int .i64) a5, .val [(0, 0)] (.slice (.int .u8)) a6] (fun _ => none), rowsOf []⟩ (ending T Try.f7 an7 0 K) (fun _ _ => none) = f7d (k + 1) a0 a1 a2 a3 a4 a5 a6 (fun z0 => K [.val [] .bool z0] []) := by kernel_rfl
theorem e7 (k : Nat) (a0 : Int) (a1 : Int) (a2 : Int) (a3 : Int) (a4 : List Int) (a5 : Int) (a6 : List Int) (K : List PV → List RowS → Option R) : callC T F k 7 [.agg [.val [] (.int .i64) a0, .val [] (.int .i64) a1, .val [] (.int .i64) a2, .val [] (.int .i64) a3, .val [(0, 0)] (.slice (.int .u8)) a4], .val [] (.int .i64) a5, .val [(0, 0)] (.slice (.int .u8)) a6] [] K = f7 k a0 a1 a2 a3 a4 a5 a6 (fun z0 => K [.val [] .bool z0] []) := by
  rw [f7_def]
  cases k with
  | zero => rfl
  | succ k =>
    refine Eq.trans (show _ = exec T an7 (modesOf F) 0 k 87 (callC T F k) (ending T Try.f7 an7 0 K) (bodyOf Try.f7) ⟨argEnv 0 [.agg [.val [] (.int .i64) a0, .val [] (.int .i64) a1, .val [] (.int .i64) a2, .val [] (.int .i64) a3, .val [(0, 0)] (.slice (.int .u8)) a4], .val [] (.int .i64) a5, .val [(0, 0)] (.slice (.int .u8)) a6] (fun _ => none), rowsOf []⟩ (ending T Try.f7 an7 0 K) (fun _ _ => none) from by kernel_rfl) ?_
    rw [← S7_eq k, ← execS_eq T an7 (modesOf F) 0 k 87 (S7 k) (fun _ _ _ _ _ => none) (bodyOf Try.f7) (cuts_of _ _ _ _ _ _ _ _ (bodyOf Try.f7) (l := []) (by kernel_rfl) trivial)]
    exact q7 k a0 a1 a2 a3 a4 a5 a6 K
noncomputable def s7 (k : Nat) (a : List PV) (r : List RowS) (K : List PV → List RowS → Option R) : Option R := match a, r with
  | [.agg [.val [] (.int .i64) a0, .val [] (.int .i64) a1, .val [] (.int .i64) a2, .val [] (.int .i64) a3, .val [(0, 0)] (.slice (.int .u8)) a4], .val [] (.int .i64) a5, .val [(0, 0)] (.slice (.int .u8)) a6], [] => f7 k a0 a1 a2 a3 a4 a5 a6 (fun z0 => K [.val [] .bool z0] [])
  | a, r => callC T F k 7 a r K
theorem s7_eq (k : Nat) (a : List PV) (r : List RowS) (K : List PV → List RowS → Option R) : s7 k a r K = callC T F k 7 a r K := by
  unfold s7
  split
  · exact (e7 k _ _ _ _ _ _ _ K).symm
  · rfl
end
section
variable {R : Type}
noncomputable def S42 (k g : Nat) (a : List PV) (r : List RowS) (K : List PV → List RowS → Option R) : Option R := callC T F k g a r K
theorem S42_eq (k : Nat) : S42 (R := R) k = callC T F k := by
  funext g a r K
  exact rfl
section
variable {R : Type} (k : Nat) (K : List PV → List RowS → Option R)
noncomputable def L42_1000003 (ws : List PV) (rs : List RowS) (N : St → Option R) (X : Nat → St → Option R) : Option R := match ws, rs with
  | [.val [] (.int .i64) v3_0, .val [] (.int .i64) v3_1, .val [] .bool v3_2], [] => f42_1000003 k (fun yN_0 => N (sh fi42_3 [.val [] (.int .i64) yN_0] [])) v3_0 v3_1 v3_2
  | ws, rs => inner T an42 (modesOf F) 0 k 14 (S42 k) (ending T Try.f42 an42 0 K) cd42_1000003 (sh sp42_1000003 ws rs) N X
noncomputable def L42 (id : Nat) (ws : List PV) (rs : List RowS) (N : St → Option R) (X : Nat → St → Option R) : Option R := bif id == 1000003 then L42_1000003 k K ws rs N X else none
theorem b42_1000003 (N : St → Option R) (X : Nat → St → Option R) (v3_0 : Int) (v3_1 : Int) (v3_2 : Bool) :
    innerS T an42 (modesOf F) 0 k 14 (S42 k) (L42 k K) (ending T Try.f42 an42 0 K) cd42_1000003 (sh sp42_1000003 [.val [] (.int .i64) v3_0, .val [] (.int .i64) v3_1, .val [] .bool v3_2] []) N X = f42_1000003d k (fun yN_0 => N (sh fi42_3 [.val [] (.int .i64) yN_0] [])) v3_0 v3_1 v3_2 := by kernel_rfl
theorem l42_1000003 (ws : List PV) (rs : List RowS) (N : St → Option R) (X : Nat → St → Option R) : L42 k K 1000003 ws rs N X = inner T an42 (modesOf F) 0 k 14 (S42 k) (ending T Try.f42 an42 0 K) cd42_1000003 (sh sp42_1000003 ws rs) N X := by
  show L42_1000003 k K ws rs N X = _
  unfold L42_1000003
  split
  rotate_left
  · rfl
  rename_i v3_0 v3_1 v3_2
  rw [f42_1000003_def]
  exact ((innerS_eq T an42 (modesOf F) 0 k 14 (S42 k) (L42 k K) cd42_1000003 (l := []) (by kernel_rfl) trivial _ N X).symm.trans (b42_1000003 k K N X v3_0 v3_1 v3_2)).symm
end
theorem q42 (k : Nat) (a0 : Int) (a1 : Int) (K : List PV → List RowS → Option R) :
    execS T an42 (modesOf F) 0 k 14 (S42 k) (L42 k K) (ending T Try.f42 an42 0 K) (bodyOf Try.f42) ⟨argEnv 0 [.val [] (.int .i64) a0, .val [] (.int .i64) a1] (fun _ => none), rowsOf []⟩ (ending T Try.f42 an42 0 K) (fun _ _ => none) = f42d (k + 1) a0 a1 (fun z0 => K [.val [] (.int .i64) z0] []) := by kernel_rfl
theorem e42 (k : Nat) (a0 : Int) (a1 : Int) (K : List PV → List RowS → Option R) : callC T F k 42 [.val [] (.int .i64) a0, .val [] (.int .i64) a1] [] K = f42 k a0 a1 (fun z0 => K [.val [] (.int .i64) z0] []) := by
  rw [f42_def]
  cases k with
  | zero => rfl
  | succ k =>
    refine Eq.trans (show _ = exec T an42 (modesOf F) 0 k 14 (callC T F k) (ending T Try.f42 an42 0 K) (bodyOf Try.f42) ⟨argEnv 0 [.val [] (.int .i64) a0, .val [] (.int .i64) a1] (fun _ => none), rowsOf []⟩ (ending T Try.f42 an42 0 K) (fun _ _ => none) from by kernel_rfl) ?_
    rw [← S42_eq k, ← execS_eq T an42 (modesOf F) 0 k 14 (S42 k) (L42 k K) (bodyOf Try.f42) (cuts_of _ _ _ _ _ _ _ _ (bodyOf Try.f42) (l := [(1000003, sp42_1000003, cd42_1000003)]) (by kernel_rfl) ⟨l42_1000003 k K, trivial⟩)]
    exact q42 k a0 a1 K
noncomputable def s42 (k : Nat) (a : List PV) (r : List RowS) (K : List PV → List RowS → Option R) : Option R := match a, r with
  | [.val [] (.int .i64) a0, .val [] (.int .i64) a1], [] => f42 k a0 a1 (fun z0 => K [.val [] (.int .i64) z0] [])
  | a, r => callC T F k 42 a r K
theorem s42_eq (k : Nat) (a : List PV) (r : List RowS) (K : List PV → List RowS → Option R) : s42 k a r K = callC T F k 42 a r K := by
  unfold s42
  split
  · exact (e42 k _ _ K).symm
  · rfl
end
section
variable {R : Type}
noncomputable def S8 (k g : Nat) (a : List PV) (r : List RowS) (K : List PV → List RowS → Option R) : Option R := bif g == 21 then s21 k a r K else bif g == 22 then s22 k a r K else bif g == 24 then s24 k a r K else bif g == 28 then s28 k a r K else bif g == 40 then s40 k a r K else bif g == 41 then s41 k a r K else bif g == 42 then s42 k a r K else callC T F k g a r K
theorem S8_eq (k : Nat) : S8 (R := R) k = callC T F k := by
  funext g a r K
  exact pick_eq (fun e => by subst e; exact s21_eq k a r K) (pick_eq (fun e => by subst e; exact s22_eq k a r K) (pick_eq (fun e => by subst e; exact s24_eq k a r K) (pick_eq (fun e => by subst e; exact s28_eq k a r K) (pick_eq (fun e => by subst e; exact s40_eq k a r K) (pick_eq (fun e => by subst e; exact s41_eq k a r K) (pick_eq (fun e => by subst e; exact s42_eq k a r K) (rfl)))))))
theorem q8 (k : Nat) (a0 : Int) (a1 : Bool) (a2 : Int) (a3 : Int) (a4 : List Int) (a5 : List Int) (a6 : Int) (K : List PV → List RowS → Option R) :
    execS T an8 (modesOf F) 0 k 78 (S8 k) (fun _ _ _ _ _ => none) (ending T Try.f8 an8 0 K) (bodyOf Try.f8) ⟨argEnv 0 [.agg [.val [] (.int .i64) a0, .val [] .bool a1, .val [] (.int .i64) a2, .val [] (.int .i64) a3, .val [(0, 0)] (.slice (.int .u8)) a4], .val [(0, 0)] (.slice (.int .u8)) a5, .val [] (.int .i64) a6] (fun _ => none), rowsOf []⟩ (ending T Try.f8 an8 0 K) (fun _ _ => none) = f8d (k + 1) a0 a1 a2 a3 a4 a5 a6 (fun z0 => K [.val [] .bool z0] []) := by kernel_rfl
theorem e8 (k : Nat) (a0 : Int) (a1 : Bool) (a2 : Int) (a3 : Int) (a4 : List Int) (a5 : List Int) (a6 : Int) (K : List PV → List RowS → Option R) : callC T F k 8 [.agg [.val [] (.int .i64) a0, .val [] .bool a1, .val [] (.int .i64) a2, .val [] (.int .i64) a3, .val [(0, 0)] (.slice (.int .u8)) a4], .val [(0, 0)] (.slice (.int .u8)) a5, .val [] (.int .i64) a6] [] K = f8 k a0 a1 a2 a3 a4 a5 a6 (fun z0 => K [.val [] .bool z0] []) := by
  rw [f8_def]
  cases k with
  | zero => rfl
  | succ k =>
    refine Eq.trans (show _ = exec T an8 (modesOf F) 0 k 78 (callC T F k) (ending T Try.f8 an8 0 K) (bodyOf Try.f8) ⟨argEnv 0 [.agg [.val [] (.int .i64) a0, .val [] .bool a1, .val [] (.int .i64) a2, .val [] (.int .i64) a3, .val [(0, 0)] (.slice (.int .u8)) a4], .val [(0, 0)] (.slice (.int .u8)) a5, .val [] (.int .i64) a6] (fun _ => none), rowsOf []⟩ (ending T Try.f8 an8 0 K) (fun _ _ => none) from by kernel_rfl) ?_
    rw [← S8_eq k, ← execS_eq T an8 (modesOf F) 0 k 78 (S8 k) (fun _ _ _ _ _ => none) (bodyOf Try.f8) (cuts_of _ _ _ _ _ _ _ _ (bodyOf Try.f8) (l := []) (by kernel_rfl) trivial)]
    exact q8 k a0 a1 a2 a3 a4 a5 a6 K
noncomputable def s8 (k : Nat) (a : List PV) (r : List RowS) (K : List PV → List RowS → Option R) : Option R := match a, r with
  | [.agg [.val [] (.int .i64) a0, .val [] .bool a1, .val [] (.int .i64) a2, .val [] (.int .i64) a3, .val [(0, 0)] (.slice (.int .u8)) a4], .val [(0, 0)] (.slice (.int .u8)) a5, .val [] (.int .i64) a6], [] => f8 k a0 a1 a2 a3 a4 a5 a6 (fun z0 => K [.val [] .bool z0] [])
  | a, r => callC T F k 8 a r K
theorem s8_eq (k : Nat) (a : List PV) (r : List RowS) (K : List PV → List RowS → Option R) : s8 k a r K = callC T F k 8 a r K := by
  unfold s8
  split
  · exact (e8 k _ _ _ _ _ _ _ K).symm
  · rfl
end
section
variable {R : Type}
noncomputable def S79 (k g : Nat) (a : List PV) (r : List RowS) (K : List PV → List RowS → Option R) : Option R := callC T F k g a r K
theorem S79_eq (k : Nat) : S79 (R := R) k = callC T F k := by
  funext g a r K
  exact rfl
theorem q79 (k : Nat) (K : List PV → List RowS → Option R) :
    execS T an79 (modesOf F) 0 k 2 (S79 k) (fun _ _ _ _ _ => none) (ending T Try.f79 an79 0 K) (bodyOf Try.f79) ⟨argEnv 0 [] (fun _ => none), rowsOf []⟩ (ending T Try.f79 an79 0 K) (fun _ _ => none) = f79d (k + 1) (fun z0 => K [.rw 1] [⟨0, .arr [] (.int .u8) z0⟩]) := by kernel_rfl
theorem e79 (k : Nat) (K : List PV → List RowS → Option R) : callC T F k 79 [] [] K = f79 k (fun z0 => K [.rw 1] [⟨0, .arr [] (.int .u8) z0⟩]) := by
  rw [f79_def]
  cases k with
  | zero => rfl
  | succ k =>
    refine Eq.trans (show _ = exec T an79 (modesOf F) 0 k 2 (callC T F k) (ending T Try.f79 an79 0 K) (bodyOf Try.f79) ⟨argEnv 0 [] (fun _ => none), rowsOf []⟩ (ending T Try.f79 an79 0 K) (fun _ _ => none) from by kernel_rfl) ?_
    rw [← S79_eq k, ← execS_eq T an79 (modesOf F) 0 k 2 (S79 k) (fun _ _ _ _ _ => none) (bodyOf Try.f79) (cuts_of _ _ _ _ _ _ _ _ (bodyOf Try.f79) (l := []) (by kernel_rfl) trivial)]
    exact q79 k K
noncomputable def s79 (k : Nat) (a : List PV) (r : List RowS) (K : List PV → List RowS → Option R) : Option R := match a, r with
  | [], [] => f79 k (fun z0 => K [.rw 1] [⟨0, .arr [] (.int .u8) z0⟩])
  | a, r => callC T F k 79 a r K
theorem s79_eq (k : Nat) (a : List PV) (r : List RowS) (K : List PV → List RowS → Option R) : s79 k a r K = callC T F k 79 a r K := by
  unfold s79
  split
  · exact (e79 k K).symm
  · rfl
end
section
variable {R : Type}
noncomputable def S97 (k g : Nat) (a : List PV) (r : List RowS) (K : List PV → List RowS → Option R) : Option R := bif g == 32 then s32 k a r K else bif g == 79 then s79 k a r K else callC T F k g a r K
theorem S97_eq (k : Nat) : S97 (R := R) k = callC T F k := by
  funext g a r K
  exact pick_eq (fun e => by subst e; exact s32_eq k a r K) (pick_eq (fun e => by subst e; exact s79_eq k a r K) (rfl))
theorem q97 (k : Nat) (a0 : List Int) (K : List PV → List RowS → Option R) :
    execS T an97 (modesOf F) 0 k 18 (S97 k) (fun _ _ _ _ _ => none) (ending T Try.f97 an97 0 K) (bodyOf Try.f97) ⟨argEnv 0 [.val [(0, 0)] (.slice (.int .u8)) a0] (fun _ => none), rowsOf []⟩ (ending T Try.f97 an97 0 K) (fun _ _ => none) = f97d (k + 1) a0 (fun z0 => K [.val [] .bool z0] []) := by kernel_rfl
theorem e97 (k : Nat) (a0 : List Int) (K : List PV → List RowS → Option R) : callC T F k 97 [.val [(0, 0)] (.slice (.int .u8)) a0] [] K = f97 k a0 (fun z0 => K [.val [] .bool z0] []) := by
  rw [f97_def]
  cases k with
  | zero => rfl
  | succ k =>
    refine Eq.trans (show _ = exec T an97 (modesOf F) 0 k 18 (callC T F k) (ending T Try.f97 an97 0 K) (bodyOf Try.f97) ⟨argEnv 0 [.val [(0, 0)] (.slice (.int .u8)) a0] (fun _ => none), rowsOf []⟩ (ending T Try.f97 an97 0 K) (fun _ _ => none) from by kernel_rfl) ?_
    rw [← S97_eq k, ← execS_eq T an97 (modesOf F) 0 k 18 (S97 k) (fun _ _ _ _ _ => none) (bodyOf Try.f97) (cuts_of _ _ _ _ _ _ _ _ (bodyOf Try.f97) (l := []) (by kernel_rfl) trivial)]
    exact q97 k a0 K
noncomputable def s97 (k : Nat) (a : List PV) (r : List RowS) (K : List PV → List RowS → Option R) : Option R := match a, r with
  | [.val [(0, 0)] (.slice (.int .u8)) a0], [] => f97 k a0 (fun z0 => K [.val [] .bool z0] [])
  | a, r => callC T F k 97 a r K
theorem s97_eq (k : Nat) (a : List PV) (r : List RowS) (K : List PV → List RowS → Option R) : s97 k a r K = callC T F k 97 a r K := by
  unfold s97
  split
  · exact (e97 k _ K).symm
  · rfl
end
section
variable {R : Type}
noncomputable def S80 (k g : Nat) (a : List PV) (r : List RowS) (K : List PV → List RowS → Option R) : Option R := bif g == 37 then s37 k a r K else bif g == 79 then s79 k a r K else bif g == 97 then s97 k a r K else callC T F k g a r K
theorem S80_eq (k : Nat) : S80 (R := R) k = callC T F k := by
  funext g a r K
  exact pick_eq (fun e => by subst e; exact s37_eq k a r K) (pick_eq (fun e => by subst e; exact s79_eq k a r K) (pick_eq (fun e => by subst e; exact s97_eq k a r K) (rfl)))
section
variable {R : Type} (k : Nat) (K : List PV → List RowS → Option R)
noncomputable def L80_1000011 (ws : List PV) (rs : List RowS) (N : St → Option R) (X : Nat → St → Option R) : Option R := match ws, rs with
  | [.val [(0, 0)] (.slice (.int .u8)) v11_0, .val [] (.int .i64) v11_1, .rw 1, .rw 2, .val [] (.int .i64) v11_2, .val [] (.int .i64) v11_3, .val [(0, 0)] (.slice (.int .u8)) v11_4, .val [] .bool v11_5], [⟨0, .arr [] (.prod (.int .i64) (.prod (.int .i64) (.prod (.int .i64) (.prod (.int .i64) (.prod (.slice (.int .u8)) .unit))))) v11_6⟩, ⟨0, .arr [] (.int .i64) v11_7⟩] => f80_1000011 k (fun y1_3 y1_4 y1_5 => X 1 (sh jn80_1 [.val [(0, 0)] (.slice (.int .u8)) v11_0, .val [] (.int .i64) v11_1, .rw 1, .rw 2, .val [] (.int .i64) v11_2, .val [] (.int .i64) y1_3] [⟨0, .arr [] (.prod (.int .i64) (.prod (.int .i64) (.prod (.int .i64) (.prod (.int .i64) (.prod (.slice (.int .u8)) .unit))))) y1_4⟩, ⟨0, .arr [] (.int .i64) y1_5⟩])) (N (sh fi80_11 [.val [(0, 0)] (.slice (.int .u8)) v11_0, .val [] (.int .i64) v11_1, .rw 1, .rw 2, .val [] (.int .i64) v11_2, .val [] (.int .i64) v11_3] [⟨0, .arr [] (.prod (.int .i64) (.prod (.int .i64) (.prod (.int .i64) (.prod (.int .i64) (.prod (.slice (.int .u8)) .unit))))) v11_6⟩, ⟨0, .arr [] (.int .i64) v11_7⟩])) v11_0 v11_1 v11_2 v11_3 v11_4 v11_5 v11_6 v11_7
  | ws, rs => inner T an80 (modesOf F) 0 k 63 (S80 k) (ending T Try.f80 an80 0 K) cd80_1000011 (sh sp80_1000011 ws rs) N X
noncomputable def L80_1 (ws : List PV) (rs : List RowS) (N : St → Option R) (X : Nat → St → Option R) : Option R := match ws, rs with
  | [.val [(0, 0)] (.slice (.int .u8)) v1_0, .val [] (.int .i64) v1_1, .rw 1, .rw 2, .val [] (.int .i64) v1_2, .val [] (.int .i64) v1_3], [⟨0, .arr [] (.prod (.int .i64) (.prod (.int .i64) (.prod (.int .i64) (.prod (.int .i64) (.prod (.slice (.int .u8)) .unit))))) v1_4⟩, ⟨0, .arr [] (.int .i64) v1_5⟩] => f80_1 k (X 0 (sh jn80_0 [.rw 1, .rw 2, .val [] (.int .i64) v1_3] [⟨0, .arr [] (.prod (.int .i64) (.prod (.int .i64) (.prod (.int .i64) (.prod (.int .i64) (.prod (.slice (.int .u8)) .unit))))) v1_4⟩, ⟨0, .arr [] (.int .i64) v1_5⟩])) (fun y1_3 y1_4 y1_5 => N (sh jn80_1 [.val [(0, 0)] (.slice (.int .u8)) v1_0, .val [] (.int .i64) v1_1, .rw 1, .rw 2, .val [] (.int .i64) v1_2, .val [] (.int .i64) y1_3] [⟨0, .arr [] (.prod (.int .i64) (.prod (.int .i64) (.prod (.int .i64) (.prod (.int .i64) (.prod (.slice (.int .u8)) .unit))))) y1_4⟩, ⟨0, .arr [] (.int .i64) y1_5⟩])) v1_0 v1_1 v1_2 v1_3 v1_4 v1_5
  | ws, rs => inner T an80 (modesOf F) 0 k 63 (S80 k) (ending T Try.f80 an80 0 K) cd80_1 (sh sp80_1 ws rs) N X
noncomputable def L80_0 (ws : List PV) (rs : List RowS) (N : St → Option R) (X : Nat → St → Option R) : Option R := match ws, rs with
  | [.val [(0, 0)] (.slice (.int .u8)) v0_0, .val [] (.int .i64) v0_1, .rw 1, .rw 2, .val [] (.int .i64) v0_2, .val [] (.int .i64) v0_3], [⟨0, .arr [] (.prod (.int .i64) (.prod (.int .i64) (.prod (.int .i64) (.prod (.int .i64) (.prod (.slice (.int .u8)) .unit))))) v0_4⟩, ⟨0, .arr [] (.int .i64) v0_5⟩] => f80_0 k (fun y0_0 y0_1 y0_2 => N (sh jn80_0 [.rw 1, .rw 2, .val [] (.int .i64) y0_0] [⟨0, .arr [] (.prod (.int .i64) (.prod (.int .i64) (.prod (.int .i64) (.prod (.int .i64) (.prod (.slice (.int .u8)) .unit))))) y0_1⟩, ⟨0, .arr [] (.int .i64) y0_2⟩])) v0_0 v0_1 v0_2 k v0_3 v0_4 v0_5
  | ws, rs => inner T an80 (modesOf F) 0 k 63 (S80 k) (ending T Try.f80 an80 0 K) cd80_0 (sh sp80_0 ws rs) N X
noncomputable def L80 (id : Nat) (ws : List PV) (rs : List RowS) (N : St → Option R) (X : Nat → St → Option R) : Option R := bif id == 1000011 then L80_1000011 k K ws rs N X else bif id == 1 then L80_1 k K ws rs N X else bif id == 0 then L80_0 k K ws rs N X else none
theorem b80_1000011 (N : St → Option R) (X : Nat → St → Option R) (v11_0 : List Int) (v11_1 : Int) (v11_2 : Int) (v11_3 : Int) (v11_4 : List Int) (v11_5 : Bool) (v11_6 : List (Int × (Int × (Int × (Int × (List Int × Unit)))))) (v11_7 : List Int) :
    innerS T an80 (modesOf F) 0 k 63 (S80 k) (L80 k K) (ending T Try.f80 an80 0 K) cd80_1000011 (sh sp80_1000011 [.val [(0, 0)] (.slice (.int .u8)) v11_0, .val [] (.int .i64) v11_1, .rw 1, .rw 2, .val [] (.int .i64) v11_2, .val [] (.int .i64) v11_3, .val [(0, 0)] (.slice (.int .u8)) v11_4, .val [] .bool v11_5] [⟨0, .arr [] (.prod (.int .i64) (.prod (.int .i64) (.prod (.int .i64) (.prod (.int .i64) (.prod (.slice (.int .u8)) .unit))))) v11_6⟩, ⟨0, .arr [] (.int .i64) v11_7⟩]) N X = f80_1000011d k (fun y1_3 y1_4 y1_5 => X 1 (sh jn80_1 [.val [(0, 0)] (.slice (.int .u8)) v11_0, .val [] (.int .i64) v11_1, .rw 1, .rw 2, .val [] (.int .i64) v11_2, .val [] (.int .i64) y1_3] [⟨0, .arr [] (.prod (.int .i64) (.prod (.int .i64) (.prod (.int .i64) (.prod (.int .i64) (.prod (.slice (.int .u8)) .unit))))) y1_4⟩, ⟨0, .arr [] (.int .i64) y1_5⟩])) (N (sh fi80_11 [.val [(0, 0)] (.slice (.int .u8)) v11_0, .val [] (.int .i64) v11_1, .rw 1, .rw 2, .val [] (.int .i64) v11_2, .val [] (.int .i64) v11_3] [⟨0, .arr [] (.prod (.int .i64) (.prod (.int .i64) (.prod (.int .i64) (.prod (.int .i64) (.prod (.slice (.int .u8)) .unit))))) v11_6⟩, ⟨0, .arr [] (.int .i64) v11_7⟩])) v11_0 v11_1 v11_2 v11_3 v11_4 v11_5 v11_6 v11_7 := by kernel_rfl
theorem l80_1000011 (ws : List PV) (rs : List RowS) (N : St → Option R) (X : Nat → St → Option R) : L80 k K 1000011 ws rs N X = inner T an80 (modesOf F) 0 k 63 (S80 k) (ending T Try.f80 an80 0 K) cd80_1000011 (sh sp80_1000011 ws rs) N X := by
  show L80_1000011 k K ws rs N X = _
  unfold L80_1000011
  split
  rotate_left
  · rfl
  rename_i v11_0 v11_1 v11_2 v11_3 v11_4 v11_5 v11_6 v11_7
  rw [f80_1000011_def]
  exact ((innerS_eq T an80 (modesOf F) 0 k 63 (S80 k) (L80 k K) cd80_1000011 (l := []) (by kernel_rfl) trivial _ N X).symm.trans (b80_1000011 k K N X v11_0 v11_1 v11_2 v11_3 v11_4 v11_5 v11_6 v11_7)).symm
theorem b80_1 (N : St → Option R) (X : Nat → St → Option R) (v1_0 : List Int) (v1_1 : Int) (v1_2 : Int) (v1_3 : Int) (v1_4 : List (Int × (Int × (Int × (Int × (List Int × Unit)))))) (v1_5 : List Int) :
    innerS T an80 (modesOf F) 0 k 63 (S80 k) (L80 k K) (ending T Try.f80 an80 0 K) cd80_1 (sh sp80_1 [.val [(0, 0)] (.slice (.int .u8)) v1_0, .val [] (.int .i64) v1_1, .rw 1, .rw 2, .val [] (.int .i64) v1_2, .val [] (.int .i64) v1_3] [⟨0, .arr [] (.prod (.int .i64) (.prod (.int .i64) (.prod (.int .i64) (.prod (.int .i64) (.prod (.slice (.int .u8)) .unit))))) v1_4⟩, ⟨0, .arr [] (.int .i64) v1_5⟩]) N X = f80_1d k (X 0 (sh jn80_0 [.rw 1, .rw 2, .val [] (.int .i64) v1_3] [⟨0, .arr [] (.prod (.int .i64) (.prod (.int .i64) (.prod (.int .i64) (.prod (.int .i64) (.prod (.slice (.int .u8)) .unit))))) v1_4⟩, ⟨0, .arr [] (.int .i64) v1_5⟩])) (fun y1_3 y1_4 y1_5 => N (sh jn80_1 [.val [(0, 0)] (.slice (.int .u8)) v1_0, .val [] (.int .i64) v1_1, .rw 1, .rw 2, .val [] (.int .i64) v1_2, .val [] (.int .i64) y1_3] [⟨0, .arr [] (.prod (.int .i64) (.prod (.int .i64) (.prod (.int .i64) (.prod (.int .i64) (.prod (.slice (.int .u8)) .unit))))) y1_4⟩, ⟨0, .arr [] (.int .i64) y1_5⟩])) v1_0 v1_1 v1_2 v1_3 v1_4 v1_5 := by kernel_rfl
theorem l80_1 (ws : List PV) (rs : List RowS) (N : St → Option R) (X : Nat → St → Option R) : L80 k K 1 ws rs N X = inner T an80 (modesOf F) 0 k 63 (S80 k) (ending T Try.f80 an80 0 K) cd80_1 (sh sp80_1 ws rs) N X := by
  show L80_1 k K ws rs N X = _
  unfold L80_1
  split
  rotate_left
  · rfl
  rename_i v1_0 v1_1 v1_2 v1_3 v1_4 v1_5
  rw [f80_1_def]
  exact ((innerS_eq T an80 (modesOf F) 0 k 63 (S80 k) (L80 k K) cd80_1 (l := [(1000011, sp80_1000011, cd80_1000011)]) (by kernel_rfl) ⟨l80_1000011 k K, trivial⟩ _ N X).symm.trans (b80_1 k K N X v1_0 v1_1 v1_2 v1_3 v1_4 v1_5)).symm
theorem b80_0 (rec : St → Option R) (N : St → Option R) (X : Nat → St → Option R) (v0_0 : List Int) (v0_1 : Int) (v0_2 : Int) (v0_3 : Int) (v0_4 : List (Int × (Int × (Int × (Int × (List Int × Unit)))))) (v0_5 : List Int) :
    execS T an80 (modesOf F) 0 k 63 (S80 k) (L80 k K) (ending T Try.f80 an80 0 K) bd80_0 (sh sp80_0 [.val [(0, 0)] (.slice (.int .u8)) v0_0, .val [] (.int .i64) v0_1, .rw 1, .rw 2, .val [] (.int .i64) v0_2, .val [] (.int .i64) v0_3] [⟨0, .arr [] (.prod (.int .i64) (.prod (.int .i64) (.prod (.int .i64) (.prod (.int .i64) (.prod (.slice (.int .u8)) .unit))))) v0_4⟩, ⟨0, .arr [] (.int .i64) v0_5⟩]) (fun st => atHead an80 0 bd80_0 st rec) (outX an80 0 0 N X) =
      f80_0b k (fun v0_3 v0_4 v0_5 => rec (sh sp80_0 [.val [(0, 0)] (.slice (.int .u8)) v0_0, .val [] (.int .i64) v0_1, .rw 1, .rw 2, .val [] (.int .i64) v0_2, .val [] (.int .i64) v0_3] [⟨0, .arr [] (.prod (.int .i64) (.prod (.int .i64) (.prod (.int .i64) (.prod (.int .i64) (.prod (.slice (.int .u8)) .unit))))) v0_4⟩, ⟨0, .arr [] (.int .i64) v0_5⟩])) (fun y0_0 y0_1 y0_2 => N (sh jn80_0 [.rw 1, .rw 2, .val [] (.int .i64) y0_0] [⟨0, .arr [] (.prod (.int .i64) (.prod (.int .i64) (.prod (.int .i64) (.prod (.int .i64) (.prod (.slice (.int .u8)) .unit))))) y0_1⟩, ⟨0, .arr [] (.int .i64) y0_2⟩])) v0_0 v0_1 v0_2 v0_3 v0_4 v0_5 := by kernel_rfl
theorem i80_0 (N : St → Option R) (X : Nat → St → Option R) (v0_0 : List Int) (v0_1 : Int) (v0_2 : Int) (m : Nat) : ∀ (v0_3 : Int) (v0_4 : List (Int × (Int × (Int × (Int × (List Int × Unit)))))) (v0_5 : List Int),
    iter (atHead an80 0 bd80_0) m (fun st N' => exec T an80 (modesOf F) 0 k 63 (S80 k) (ending T Try.f80 an80 0 K) bd80_0 st N' (outX an80 0 0 N X)) (sh sp80_0 [.val [(0, 0)] (.slice (.int .u8)) v0_0, .val [] (.int .i64) v0_1, .rw 1, .rw 2, .val [] (.int .i64) v0_2, .val [] (.int .i64) v0_3] [⟨0, .arr [] (.prod (.int .i64) (.prod (.int .i64) (.prod (.int .i64) (.prod (.int .i64) (.prod (.slice (.int .u8)) .unit))))) v0_4⟩, ⟨0, .arr [] (.int .i64) v0_5⟩]) = f80_0d k (fun y0_0 y0_1 y0_2 => N (sh jn80_0 [.rw 1, .rw 2, .val [] (.int .i64) y0_0] [⟨0, .arr [] (.prod (.int .i64) (.prod (.int .i64) (.prod (.int .i64) (.prod (.int .i64) (.prod (.slice (.int .u8)) .unit))))) y0_1⟩, ⟨0, .arr [] (.int .i64) y0_2⟩])) v0_0 v0_1 v0_2 m v0_3 v0_4 v0_5 := by
  induction m with
  | zero => intros; rfl
  | succ m ih =>
    intro v0_3 v0_4 v0_5
    simp only [iter]
    rw [← execS_eq T an80 (modesOf F) 0 k 63 (S80 k) (L80 k K) bd80_0 (cuts_of _ _ _ _ _ _ _ _ bd80_0 (l := [(1, sp80_1, cd80_1)]) (by kernel_rfl) ⟨l80_1 k K, trivial⟩)]
    refine (b80_0 k K _ N X v0_0 v0_1 v0_2 v0_3 v0_4 v0_5).trans ?_
    simp only [f80_0d, ih]
theorem l80_0 (ws : List PV) (rs : List RowS) (N : St → Option R) (X : Nat → St → Option R) : L80 k K 0 ws rs N X = inner T an80 (modesOf F) 0 k 63 (S80 k) (ending T Try.f80 an80 0 K) cd80_0 (sh sp80_0 ws rs) N X := by
  show L80_0 k K ws rs N X = _
  unfold L80_0
  split
  rotate_left
  · rfl
  rename_i v0_0 v0_1 v0_2 v0_3 v0_4 v0_5
  rw [f80_0_def]
  refine Eq.trans ?_ (show iter (atHead an80 0 bd80_0) k (fun st N' => exec T an80 (modesOf F) 0 k 63 (S80 k) (ending T Try.f80 an80 0 K) bd80_0 st N' (outX an80 0 0 N X)) (sh sp80_0 [.val [(0, 0)] (.slice (.int .u8)) v0_0, .val [] (.int .i64) v0_1, .rw 1, .rw 2, .val [] (.int .i64) v0_2, .val [] (.int .i64) v0_3] [⟨0, .arr [] (.prod (.int .i64) (.prod (.int .i64) (.prod (.int .i64) (.prod (.int .i64) (.prod (.slice (.int .u8)) .unit))))) v0_4⟩, ⟨0, .arr [] (.int .i64) v0_5⟩]) = _ from by kernel_rfl)
  exact (i80_0 k K N X v0_0 v0_1 v0_2 k v0_3 v0_4 v0_5).symm
end
theorem q80 (k : Nat) (a0 : List Int) (a1 : Int) (K : List PV → List RowS → Option R) :
    execS T an80 (modesOf F) 0 k 63 (S80 k) (L80 k K) (ending T Try.f80 an80 0 K) (bodyOf Try.f80) ⟨argEnv 0 [.val [(0, 0)] (.slice (.int .u8)) a0, .val [] (.int .i64) a1] (fun _ => none), rowsOf []⟩ (ending T Try.f80 an80 0 K) (fun _ _ => none) = f80d (k + 1) a0 a1 (fun z0 z1 z2 => K [.rw 1, .rw 2, .val [] (.int .i64) z0] [⟨0, .arr [] (.prod (.int .i64) (.prod (.int .i64) (.prod (.int .i64) (.prod (.int .i64) (.prod (.slice (.int .u8)) .unit))))) z1⟩, ⟨0, .arr [] (.int .i64) z2⟩]) := by kernel_rfl
theorem e80 (k : Nat) (a0 : List Int) (a1 : Int) (K : List PV → List RowS → Option R) : callC T F k 80 [.val [(0, 0)] (.slice (.int .u8)) a0, .val [] (.int .i64) a1] [] K = f80 k a0 a1 (fun z0 z1 z2 => K [.rw 1, .rw 2, .val [] (.int .i64) z0] [⟨0, .arr [] (.prod (.int .i64) (.prod (.int .i64) (.prod (.int .i64) (.prod (.int .i64) (.prod (.slice (.int .u8)) .unit))))) z1⟩, ⟨0, .arr [] (.int .i64) z2⟩]) := by
  rw [f80_def]
  cases k with
  | zero => rfl
  | succ k =>
    refine Eq.trans (show _ = exec T an80 (modesOf F) 0 k 63 (callC T F k) (ending T Try.f80 an80 0 K) (bodyOf Try.f80) ⟨argEnv 0 [.val [(0, 0)] (.slice (.int .u8)) a0, .val [] (.int .i64) a1] (fun _ => none), rowsOf []⟩ (ending T Try.f80 an80 0 K) (fun _ _ => none) from by kernel_rfl) ?_
    rw [← S80_eq k, ← execS_eq T an80 (modesOf F) 0 k 63 (S80 k) (L80 k K) (bodyOf Try.f80) (cuts_of _ _ _ _ _ _ _ _ (bodyOf Try.f80) (l := [(0, sp80_0, cd80_0)]) (by kernel_rfl) ⟨l80_0 k K, trivial⟩)]
    exact q80 k a0 a1 K
noncomputable def s80 (k : Nat) (a : List PV) (r : List RowS) (K : List PV → List RowS → Option R) : Option R := match a, r with
  | [.val [(0, 0)] (.slice (.int .u8)) a0, .val [] (.int .i64) a1], [] => f80 k a0 a1 (fun z0 z1 z2 => K [.rw 1, .rw 2, .val [] (.int .i64) z0] [⟨0, .arr [] (.prod (.int .i64) (.prod (.int .i64) (.prod (.int .i64) (.prod (.int .i64) (.prod (.slice (.int .u8)) .unit))))) z1⟩, ⟨0, .arr [] (.int .i64) z2⟩])
  | a, r => callC T F k 80 a r K
theorem s80_eq (k : Nat) (a : List PV) (r : List RowS) (K : List PV → List RowS → Option R) : s80 k a r K = callC T F k 80 a r K := by
  unfold s80
  split
  · exact (e80 k _ _ K).symm
  · rfl
end
section
variable {R : Type}
noncomputable def S43 (k g : Nat) (a : List PV) (r : List RowS) (K : List PV → List RowS → Option R) : Option R := bif g == 40 then s40 k a r K else bif g == 41 then s41 k a r K else bif g == 75 then s75 k a r K else bif g == 79 then s79 k a r K else bif g == 80 then s80 k a r K else callC T F k g a r K
theorem S43_eq (k : Nat) : S43 (R := R) k = callC T F k := by
  funext g a r K
  exact pick_eq (fun e => by subst e; exact s40_eq k a r K) (pick_eq (fun e => by subst e; exact s41_eq k a r K) (pick_eq (fun e => by subst e; exact s75_eq k a r K) (pick_eq (fun e => by subst e; exact s79_eq k a r K) (pick_eq (fun e => by subst e; exact s80_eq k a r K) (rfl)))))
theorem q43 (k : Nat) (a0 : List Int) (a1 : List Int) (a2 : Int) (K : List PV → List RowS → Option R) :
    execS T an43 (modesOf F) 0 k 48 (S43 k) (fun _ _ _ _ _ => none) (ending T Try.f43 an43 0 K) (bodyOf Try.f43) ⟨argEnv 0 [.val [(0, 0)] (.slice (.int .u8)) a0, .val [(0, 0)] (.slice (.int .u8)) a1, .val [] (.int .i64) a2] (fun _ => none), rowsOf []⟩ (ending T Try.f43 an43 0 K) (fun _ _ => none) = f43d (k + 1) a0 a1 a2 (fun z0 z1 z2 => K [.rw 1, .rw 2, .val [] (.int .i64) z0] [⟨0, .arr [] (.prod (.int .i64) (.prod (.int .i64) (.prod (.int .i64) (.prod (.int .i64) (.prod (.slice (.int .u8)) .unit))))) z1⟩, ⟨0, .arr [] (.int .u8) z2⟩]) := by kernel_rfl
theorem e43 (k : Nat) (a0 : List Int) (a1 : List Int) (a2 : Int) (K : List PV → List RowS → Option R) : callC T F k 43 [.val [(0, 0)] (.slice (.int .u8)) a0, .val [(0, 0)] (.slice (.int .u8)) a1, .val [] (.int .i64) a2] [] K = f43 k a0 a1 a2 (fun z0 z1 z2 => K [.rw 1, .rw 2, .val [] (.int .i64) z0] [⟨0, .arr [] (.prod (.int .i64) (.prod (.int .i64) (.prod (.int .i64) (.prod (.int .i64) (.prod (.slice (.int .u8)) .unit))))) z1⟩, ⟨0, .arr [] (.int .u8) z2⟩]) := by
  rw [f43_def]
  cases k with
  | zero => rfl
  | succ k =>
    refine Eq.trans (show _ = exec T an43 (modesOf F) 0 k 48 (callC T F k) (ending T Try.f43 an43 0 K) (bodyOf Try.f43) ⟨argEnv 0 [.val [(0, 0)] (.slice (.int .u8)) a0, .val [(0, 0)] (.slice (.int .u8)) a1, .val [] (.int .i64) a2] (fun _ => none), rowsOf []⟩ (ending T Try.f43 an43 0 K) (fun _ _ => none) from by kernel_rfl) ?_
    rw [← S43_eq k, ← execS_eq T an43 (modesOf F) 0 k 48 (S43 k) (fun _ _ _ _ _ => none) (bodyOf Try.f43) (cuts_of _ _ _ _ _ _ _ _ (bodyOf Try.f43) (l := []) (by kernel_rfl) trivial)]
    exact q43 k a0 a1 a2 K
noncomputable def s43 (k : Nat) (a : List PV) (r : List RowS) (K : List PV → List RowS → Option R) : Option R := match a, r with
  | [.val [(0, 0)] (.slice (.int .u8)) a0, .val [(0, 0)] (.slice (.int .u8)) a1, .val [] (.int .i64) a2], [] => f43 k a0 a1 a2 (fun z0 z1 z2 => K [.rw 1, .rw 2, .val [] (.int .i64) z0] [⟨0, .arr [] (.prod (.int .i64) (.prod (.int .i64) (.prod (.int .i64) (.prod (.int .i64) (.prod (.slice (.int .u8)) .unit))))) z1⟩, ⟨0, .arr [] (.int .u8) z2⟩])
  | a, r => callC T F k 43 a r K
theorem s43_eq (k : Nat) (a : List PV) (r : List RowS) (K : List PV → List RowS → Option R) : s43 k a r K = callC T F k 43 a r K := by
  unfold s43
  split
  · exact (e43 k _ _ _ K).symm
  · rfl
end
section
variable {R : Type}
noncomputable def S105 (k g : Nat) (a : List PV) (r : List RowS) (K : List PV → List RowS → Option R) : Option R := callC T F k g a r K
theorem S105_eq (k : Nat) : S105 (R := R) k = callC T F k := by
  funext g a r K
  exact rfl
theorem q105 (k : Nat) (a0 : List Int) (a1 : List Int) (K : List PV → List RowS → Option R) :
    execS T an105 (modesOf F) 0 k 10 (S105 k) (fun _ _ _ _ _ => none) (ending T Try.f105 an105 0 K) (bodyOf Try.f105) ⟨argEnv 0 [.val [(0, 0)] (.slice (.int .u8)) a0, .val [(0, 0)] (.slice (.int .u8)) a1] (fun _ => none), rowsOf []⟩ (ending T Try.f105 an105 0 K) (fun _ _ => none) = f105d (k + 1) a0 a1 (fun z0 => K [.val [] .bool z0] []) := by kernel_rfl
theorem e105 (k : Nat) (a0 : List Int) (a1 : List Int) (K : List PV → List RowS → Option R) : callC T F k 105 [.val [(0, 0)] (.slice (.int .u8)) a0, .val [(0, 0)] (.slice (.int .u8)) a1] [] K = f105 k a0 a1 (fun z0 => K [.val [] .bool z0] []) := by
  rw [f105_def]
  cases k with
  | zero => rfl
  | succ k =>
    refine Eq.trans (show _ = exec T an105 (modesOf F) 0 k 10 (callC T F k) (ending T Try.f105 an105 0 K) (bodyOf Try.f105) ⟨argEnv 0 [.val [(0, 0)] (.slice (.int .u8)) a0, .val [(0, 0)] (.slice (.int .u8)) a1] (fun _ => none), rowsOf []⟩ (ending T Try.f105 an105 0 K) (fun _ _ => none) from by kernel_rfl) ?_
    rw [← S105_eq k, ← execS_eq T an105 (modesOf F) 0 k 10 (S105 k) (fun _ _ _ _ _ => none) (bodyOf Try.f105) (cuts_of _ _ _ _ _ _ _ _ (bodyOf Try.f105) (l := []) (by kernel_rfl) trivial)]
    exact q105 k a0 a1 K
noncomputable def s105 (k : Nat) (a : List PV) (r : List RowS) (K : List PV → List RowS → Option R) : Option R := match a, r with
  | [.val [(0, 0)] (.slice (.int .u8)) a0, .val [(0, 0)] (.slice (.int .u8)) a1], [] => f105 k a0 a1 (fun z0 => K [.val [] .bool z0] [])
  | a, r => callC T F k 105 a r K
theorem s105_eq (k : Nat) (a : List PV) (r : List RowS) (K : List PV → List RowS → Option R) : s105 k a r K = callC T F k 105 a r K := by
  unfold s105
  split
  · exact (e105 k _ _ K).symm
  · rfl
end
section
variable {R : Type}
noncomputable def S98 (k g : Nat) (a : List PV) (r : List RowS) (K : List PV → List RowS → Option R) : Option R := bif g == 105 then s105 k a r K else callC T F k g a r K
theorem S98_eq (k : Nat) : S98 (R := R) k = callC T F k := by
  funext g a r K
  exact pick_eq (fun e => by subst e; exact s105_eq k a r K) (rfl)
theorem q98 (k : Nat) (a0 : List Int) (a1 : List Int) (K : List PV → List RowS → Option R) :
    execS T an98 (modesOf F) 0 k 18 (S98 k) (fun _ _ _ _ _ => none) (ending T Try.f98 an98 0 K) (bodyOf Try.f98) ⟨argEnv 0 [.val [(0, 0)] (.slice (.int .u8)) a0, .val [(0, 0)] (.slice (.int .u8)) a1] (fun _ => none), rowsOf []⟩ (ending T Try.f98 an98 0 K) (fun _ _ => none) = f98d (k + 1) a0 a1 (fun z0 => K [.val [] .bool z0] []) := by kernel_rfl
theorem e98 (k : Nat) (a0 : List Int) (a1 : List Int) (K : List PV → List RowS → Option R) : callC T F k 98 [.val [(0, 0)] (.slice (.int .u8)) a0, .val [(0, 0)] (.slice (.int .u8)) a1] [] K = f98 k a0 a1 (fun z0 => K [.val [] .bool z0] []) := by
  rw [f98_def]
  cases k with
  | zero => rfl
  | succ k =>
    refine Eq.trans (show _ = exec T an98 (modesOf F) 0 k 18 (callC T F k) (ending T Try.f98 an98 0 K) (bodyOf Try.f98) ⟨argEnv 0 [.val [(0, 0)] (.slice (.int .u8)) a0, .val [(0, 0)] (.slice (.int .u8)) a1] (fun _ => none), rowsOf []⟩ (ending T Try.f98 an98 0 K) (fun _ _ => none) from by kernel_rfl) ?_
    rw [← S98_eq k, ← execS_eq T an98 (modesOf F) 0 k 18 (S98 k) (fun _ _ _ _ _ => none) (bodyOf Try.f98) (cuts_of _ _ _ _ _ _ _ _ (bodyOf Try.f98) (l := []) (by kernel_rfl) trivial)]
    exact q98 k a0 a1 K
noncomputable def s98 (k : Nat) (a : List PV) (r : List RowS) (K : List PV → List RowS → Option R) : Option R := match a, r with
  | [.val [(0, 0)] (.slice (.int .u8)) a0, .val [(0, 0)] (.slice (.int .u8)) a1], [] => f98 k a0 a1 (fun z0 => K [.val [] .bool z0] [])
  | a, r => callC T F k 98 a r K
theorem s98_eq (k : Nat) (a : List PV) (r : List RowS) (K : List PV → List RowS → Option R) : s98 k a r K = callC T F k 98 a r K := by
  unfold s98
  split
  · exact (e98 k _ _ K).symm
  · rfl
end
section
variable {R : Type}
noncomputable def S81 (k g : Nat) (a : List PV) (r : List RowS) (K : List PV → List RowS → Option R) : Option R := bif g == 98 then s98 k a r K else callC T F k g a r K
theorem S81_eq (k : Nat) : S81 (R := R) k = callC T F k := by
  funext g a r K
  exact pick_eq (fun e => by subst e; exact s98_eq k a r K) (rfl)
theorem q81 (k : Nat) (a0 : List Int) (a1 : Int) (K : List PV → List RowS → Option R) :
    execS T an81 (modesOf F) 0 k 22 (S81 k) (fun _ _ _ _ _ => none) (ending T Try.f81 an81 0 K) (bodyOf Try.f81) ⟨argEnv 0 [.val [(0, 0)] (.slice (.int .u8)) a0, .val [] (.int .i64) a1] (fun _ => none), rowsOf []⟩ (ending T Try.f81 an81 0 K) (fun _ _ => none) = f81d (k + 1) a0 a1 (fun z0 => K [.val [] .bool z0] []) := by kernel_rfl
theorem e81 (k : Nat) (a0 : List Int) (a1 : Int) (K : List PV → List RowS → Option R) : callC T F k 81 [.val [(0, 0)] (.slice (.int .u8)) a0, .val [] (.int .i64) a1] [] K = f81 k a0 a1 (fun z0 => K [.val [] .bool z0] []) := by
  rw [f81_def]
  cases k with
  | zero => rfl
  | succ k =>
    refine Eq.trans (show _ = exec T an81 (modesOf F) 0 k 22 (callC T F k) (ending T Try.f81 an81 0 K) (bodyOf Try.f81) ⟨argEnv 0 [.val [(0, 0)] (.slice (.int .u8)) a0, .val [] (.int .i64) a1] (fun _ => none), rowsOf []⟩ (ending T Try.f81 an81 0 K) (fun _ _ => none) from by kernel_rfl) ?_
    rw [← S81_eq k, ← execS_eq T an81 (modesOf F) 0 k 22 (S81 k) (fun _ _ _ _ _ => none) (bodyOf Try.f81) (cuts_of _ _ _ _ _ _ _ _ (bodyOf Try.f81) (l := []) (by kernel_rfl) trivial)]
    exact q81 k a0 a1 K
noncomputable def s81 (k : Nat) (a : List PV) (r : List RowS) (K : List PV → List RowS → Option R) : Option R := match a, r with
  | [.val [(0, 0)] (.slice (.int .u8)) a0, .val [] (.int .i64) a1], [] => f81 k a0 a1 (fun z0 => K [.val [] .bool z0] [])
  | a, r => callC T F k 81 a r K
theorem s81_eq (k : Nat) (a : List PV) (r : List RowS) (K : List PV → List RowS → Option R) : s81 k a r K = callC T F k 81 a r K := by
  unfold s81
  split
  · exact (e81 k _ _ K).symm
  · rfl
end
section
variable {R : Type}
noncomputable def S82 (k g : Nat) (a : List PV) (r : List RowS) (K : List PV → List RowS → Option R) : Option R := bif g == 38 then s38 k a r K else callC T F k g a r K
theorem S82_eq (k : Nat) : S82 (R := R) k = callC T F k := by
  funext g a r K
  exact pick_eq (fun e => by subst e; exact s38_eq k a r K) (rfl)
theorem q82 (k : Nat) (a0 : List Int) (a1 : Int) (a2 : Int) (K : List PV → List RowS → Option R) :
    execS T an82 (modesOf F) 0 k 43 (S82 k) (fun _ _ _ _ _ => none) (ending T Try.f82 an82 0 K) (bodyOf Try.f82) ⟨argEnv 0 [.val [(0, 0)] (.slice (.int .u8)) a0, .val [] (.int .i64) a1, .val [] (.int .i64) a2] (fun _ => none), rowsOf []⟩ (ending T Try.f82 an82 0 K) (fun _ _ => none) = f82d (k + 1) a0 a1 a2 (fun z0 z1 z2 z3 z4 z5 => K [.agg [.val [] (.int .i64) z0, .val [] (.int .i64) z1, .val [] (.int .i64) z2, .val [] (.int .i64) z3, .rw 1], .val [] .bool z4] [⟨0, .arr [] (.int .u8) z5⟩]) := by kernel_rfl
theorem e82 (k : Nat) (a0 : List Int) (a1 : Int) (a2 : Int) (K : List PV → List RowS → Option R) : callC T F k 82 [.val [(0, 0)] (.slice (.int .u8)) a0, .val [] (.int .i64) a1, .val [] (.int .i64) a2] [] K = f82 k a0 a1 a2 (fun z0 z1 z2 z3 z4 z5 => K [.agg [.val [] (.int .i64) z0, .val [] (.int .i64) z1, .val [] (.int .i64) z2, .val [] (.int .i64) z3, .rw 1], .val [] .bool z4] [⟨0, .arr [] (.int .u8) z5⟩]) := by
  rw [f82_def]
  cases k with
  | zero => rfl
  | succ k =>
    refine Eq.trans (show _ = exec T an82 (modesOf F) 0 k 43 (callC T F k) (ending T Try.f82 an82 0 K) (bodyOf Try.f82) ⟨argEnv 0 [.val [(0, 0)] (.slice (.int .u8)) a0, .val [] (.int .i64) a1, .val [] (.int .i64) a2] (fun _ => none), rowsOf []⟩ (ending T Try.f82 an82 0 K) (fun _ _ => none) from by kernel_rfl) ?_
    rw [← S82_eq k, ← execS_eq T an82 (modesOf F) 0 k 43 (S82 k) (fun _ _ _ _ _ => none) (bodyOf Try.f82) (cuts_of _ _ _ _ _ _ _ _ (bodyOf Try.f82) (l := []) (by kernel_rfl) trivial)]
    exact q82 k a0 a1 a2 K
noncomputable def s82 (k : Nat) (a : List PV) (r : List RowS) (K : List PV → List RowS → Option R) : Option R := match a, r with
  | [.val [(0, 0)] (.slice (.int .u8)) a0, .val [] (.int .i64) a1, .val [] (.int .i64) a2], [] => f82 k a0 a1 a2 (fun z0 z1 z2 z3 z4 z5 => K [.agg [.val [] (.int .i64) z0, .val [] (.int .i64) z1, .val [] (.int .i64) z2, .val [] (.int .i64) z3, .rw 1], .val [] .bool z4] [⟨0, .arr [] (.int .u8) z5⟩])
  | a, r => callC T F k 82 a r K
theorem s82_eq (k : Nat) (a : List PV) (r : List RowS) (K : List PV → List RowS → Option R) : s82 k a r K = callC T F k 82 a r K := by
  unfold s82
  split
  · exact (e82 k _ _ _ K).symm
  · rfl
end
section
variable {R : Type}
noncomputable def S44 (k g : Nat) (a : List PV) (r : List RowS) (K : List PV → List RowS → Option R) : Option R := bif g == 40 then s40 k a r K else bif g == 41 then s41 k a r K else bif g == 76 then s76 k a r K else bif g == 81 then s81 k a r K else bif g == 82 then s82 k a r K else callC T F k g a r K
theorem S44_eq (k : Nat) : S44 (R := R) k = callC T F k := by
  funext g a r K
  exact pick_eq (fun e => by subst e; exact s40_eq k a r K) (pick_eq (fun e => by subst e; exact s41_eq k a r K) (pick_eq (fun e => by subst e; exact s76_eq k a r K) (pick_eq (fun e => by subst e; exact s81_eq k a r K) (pick_eq (fun e => by subst e; exact s82_eq k a r K) (rfl)))))
section
variable {R : Type} (k : Nat) (K : List PV → List RowS → Option R)
noncomputable def L44_1 (ws : List PV) (rs : List RowS) (N : St → Option R) (X : Nat → St → Option R) : Option R := match ws, rs with
  | [.val [] (.int .i64) v1_0, .rw 1, .rw 2, .val [] (.int .i64) v1_1], [⟨0, .arr [] (.int .u8) v1_2⟩, ⟨0, .arr [] (.prod (.int .i64) (.prod (.int .i64) (.prod (.int .i64) (.prod (.int .i64) (.prod (.slice (.int .u8)) .unit))))) v1_3⟩] => f44_1 k (fun y1_1 y1_3 => N (sh jn44_1 [.val [] (.int .i64) v1_0, .rw 1, .rw 2, .val [] (.int .i64) y1_1] [⟨0, .arr [] (.int .u8) v1_2⟩, ⟨0, .arr [] (.prod (.int .i64) (.prod (.int .i64) (.prod (.int .i64) (.prod (.int .i64) (.prod (.slice (.int .u8)) .unit))))) y1_3⟩])) v1_0 v1_1 v1_2 v1_3
  | ws, rs => inner T an44 (modesOf F) 0 k 71 (S44 k) (ending T Try.f44 an44 0 K) cd44_1 (sh sp44_1 ws rs) N X
noncomputable def L44_0 (ws : List PV) (rs : List RowS) (N : St → Option R) (X : Nat → St → Option R) : Option R := match ws, rs with
  | [.val [] (.int .i64) v0_0, .rw 1, .rw 2, .val [] (.int .i64) v0_1], [⟨0, .arr [] (.int .u8) v0_2⟩, ⟨0, .arr [] (.prod (.int .i64) (.prod (.int .i64) (.prod (.int .i64) (.prod (.int .i64) (.prod (.slice (.int .u8)) .unit))))) v0_3⟩] => f44_0 k (fun y0_0 y0_2 => N (sh jn44_0 [.rw 1, .rw 2, .val [] (.int .i64) y0_0] [⟨0, .arr [] (.int .u8) v0_2⟩, ⟨0, .arr [] (.prod (.int .i64) (.prod (.int .i64) (.prod (.int .i64) (.prod (.int .i64) (.prod (.slice (.int .u8)) .unit))))) y0_2⟩])) v0_0 v0_2 k v0_1 v0_3
  | ws, rs => inner T an44 (modesOf F) 0 k 71 (S44 k) (ending T Try.f44 an44 0 K) cd44_0 (sh sp44_0 ws rs) N X
noncomputable def L44 (id : Nat) (ws : List PV) (rs : List RowS) (N : St → Option R) (X : Nat → St → Option R) : Option R := bif id == 1 then L44_1 k K ws rs N X else bif id == 0 then L44_0 k K ws rs N X else none
theorem b44_1 (N : St → Option R) (X : Nat → St → Option R) (v1_0 : Int) (v1_1 : Int) (v1_2 : List Int) (v1_3 : List (Int × (Int × (Int × (Int × (List Int × Unit)))))) :
    innerS T an44 (modesOf F) 0 k 71 (S44 k) (L44 k K) (ending T Try.f44 an44 0 K) cd44_1 (sh sp44_1 [.val [] (.int .i64) v1_0, .rw 1, .rw 2, .val [] (.int .i64) v1_1] [⟨0, .arr [] (.int .u8) v1_2⟩, ⟨0, .arr [] (.prod (.int .i64) (.prod (.int .i64) (.prod (.int .i64) (.prod (.int .i64) (.prod (.slice (.int .u8)) .unit))))) v1_3⟩]) N X = f44_1d k (fun y1_1 y1_3 => N (sh jn44_1 [.val [] (.int .i64) v1_0, .rw 1, .rw 2, .val [] (.int .i64) y1_1] [⟨0, .arr [] (.int .u8) v1_2⟩, ⟨0, .arr [] (.prod (.int .i64) (.prod (.int .i64) (.prod (.int .i64) (.prod (.int .i64) (.prod (.slice (.int .u8)) .unit))))) y1_3⟩])) v1_0 v1_1 v1_2 v1_3 := by kernel_rfl
theorem l44_1 (ws : List PV) (rs : List RowS) (N : St → Option R) (X : Nat → St → Option R) : L44 k K 1 ws rs N X = inner T an44 (modesOf F) 0 k 71 (S44 k) (ending T Try.f44 an44 0 K) cd44_1 (sh sp44_1 ws rs) N X := by
  show L44_1 k K ws rs N X = _
  unfold L44_1
  split
  rotate_left
  · rfl
  rename_i v1_0 v1_1 v1_2 v1_3
  rw [f44_1_def]
  exact ((innerS_eq T an44 (modesOf F) 0 k 71 (S44 k) (L44 k K) cd44_1 (l := []) (by kernel_rfl) trivial _ N X).symm.trans (b44_1 k K N X v1_0 v1_1 v1_2 v1_3)).symm
theorem b44_0 (rec : St → Option R) (N : St → Option R) (X : Nat → St → Option R) (v0_0 : Int) (v0_2 : List Int) (v0_1 : Int) (v0_3 : List (Int × (Int × (Int × (Int × (List Int × Unit)))))) :
    execS T an44 (modesOf F) 0 k 71 (S44 k) (L44 k K) (ending T Try.f44 an44 0 K) bd44_0 (sh sp44_0 [.val [] (.int .i64) v0_0, .rw 1, .rw 2, .val [] (.int .i64) v0_1] [⟨0, .arr [] (.int .u8) v0_2⟩, ⟨0, .arr [] (.prod (.int .i64) (.prod (.int .i64) (.prod (.int .i64) (.prod (.int .i64) (.prod (.slice (.int .u8)) .unit))))) v0_3⟩]) (fun st => atHead an44 0 bd44_0 st rec) (outX an44 0 0 N X) =
      f44_0b k (fun v0_1 v0_3 => rec (sh sp44_0 [.val [] (.int .i64) v0_0, .rw 1, .rw 2, .val [] (.int .i64) v0_1] [⟨0, .arr [] (.int .u8) v0_2⟩, ⟨0, .arr [] (.prod (.int .i64) (.prod (.int .i64) (.prod (.int .i64) (.prod (.int .i64) (.prod (.slice (.int .u8)) .unit))))) v0_3⟩])) (fun y0_0 y0_2 => N (sh jn44_0 [.rw 1, .rw 2, .val [] (.int .i64) y0_0] [⟨0, .arr [] (.int .u8) v0_2⟩, ⟨0, .arr [] (.prod (.int .i64) (.prod (.int .i64) (.prod (.int .i64) (.prod (.int .i64) (.prod (.slice (.int .u8)) .unit))))) y0_2⟩])) v0_0 v0_2 v0_1 v0_3 := by kernel_rfl
theorem i44_0 (N : St → Option R) (X : Nat → St → Option R) (v0_0 : Int) (v0_2 : List Int) (m : Nat) : ∀ (v0_1 : Int) (v0_3 : List (Int × (Int × (Int × (Int × (List Int × Unit)))))),
    iter (atHead an44 0 bd44_0) m (fun st N' => exec T an44 (modesOf F) 0 k 71 (S44 k) (ending T Try.f44 an44 0 K) bd44_0 st N' (outX an44 0 0 N X)) (sh sp44_0 [.val [] (.int .i64) v0_0, .rw 1, .rw 2, .val [] (.int .i64) v0_1] [⟨0, .arr [] (.int .u8) v0_2⟩, ⟨0, .arr [] (.prod (.int .i64) (.prod (.int .i64) (.prod (.int .i64) (.prod (.int .i64) (.prod (.slice (.int .u8)) .unit))))) v0_3⟩]) = f44_0d k (fun y0_0 y0_2 => N (sh jn44_0 [.rw 1, .rw 2, .val [] (.int .i64) y0_0] [⟨0, .arr [] (.int .u8) v0_2⟩, ⟨0, .arr [] (.prod (.int .i64) (.prod (.int .i64) (.prod (.int .i64) (.prod (.int .i64) (.prod (.slice (.int .u8)) .unit))))) y0_2⟩])) v0_0 v0_2 m v0_1 v0_3 := by
  induction m with
  | zero => intros; rfl
  | succ m ih =>
    intro v0_1 v0_3
    simp only [iter]
    rw [← execS_eq T an44 (modesOf F) 0 k 71 (S44 k) (L44 k K) bd44_0 (cuts_of _ _ _ _ _ _ _ _ bd44_0 (l := [(1, sp44_1, cd44_1)]) (by kernel_rfl) ⟨l44_1 k K, trivial⟩)]
    refine (b44_0 k K _ N X v0_0 v0_2 v0_1 v0_3).trans ?_
    simp only [f44_0d, ih]
theorem l44_0 (ws : List PV) (rs : List RowS) (N : St → Option R) (X : Nat → St → Option R) : L44 k K 0 ws rs N X = inner T an44 (modesOf F) 0 k 71 (S44 k) (ending T Try.f44 an44 0 K) cd44_0 (sh sp44_0 ws rs) N X := by
  show L44_0 k K ws rs N X = _
  unfold L44_0
  split
  rotate_left
  · rfl
  rename_i v0_0 v0_1 v0_2 v0_3
  rw [f44_0_def]
  refine Eq.trans ?_ (show iter (atHead an44 0 bd44_0) k (fun st N' => exec T an44 (modesOf F) 0 k 71 (S44 k) (ending T Try.f44 an44 0 K) bd44_0 st N' (outX an44 0 0 N X)) (sh sp44_0 [.val [] (.int .i64) v0_0, .rw 1, .rw 2, .val [] (.int .i64) v0_1] [⟨0, .arr [] (.int .u8) v0_2⟩, ⟨0, .arr [] (.prod (.int .i64) (.prod (.int .i64) (.prod (.int .i64) (.prod (.int .i64) (.prod (.slice (.int .u8)) .unit))))) v0_3⟩]) = _ from by kernel_rfl)
  exact (i44_0 k K N X v0_0 v0_2 k v0_1 v0_3).symm
end
theorem q44 (k : Nat) (a0 : List Int) (a1 : List Int) (a2 : Int) (K : List PV → List RowS → Option R) :
    execS T an44 (modesOf F) 0 k 71 (S44 k) (L44 k K) (ending T Try.f44 an44 0 K) (bodyOf Try.f44) ⟨argEnv 0 [.val [(0, 0)] (.slice (.int .u8)) a0, .val [(0, 0)] (.slice (.int .u8)) a1, .val [] (.int .i64) a2] (fun _ => none), rowsOf []⟩ (ending T Try.f44 an44 0 K) (fun _ _ => none) = f44d (k + 1) a0 a1 a2 (fun z0 z1 z2 => K [.rw 1, .rw 2, .val [] (.int .i64) z0] [⟨0, .arr [] (.prod (.int .i64) (.prod (.int .i64) (.prod (.int .i64) (.prod (.int .i64) (.prod (.slice (.int .u8)) .unit))))) z1⟩, ⟨0, .arr [] (.int .u8) z2⟩]) := by kernel_rfl
theorem e44 (k : Nat) (a0 : List Int) (a1 : List Int) (a2 : Int) (K : List PV → List RowS → Option R) : callC T F k 44 [.val [(0, 0)] (.slice (.int .u8)) a0, .val [(0, 0)] (.slice (.int .u8)) a1, .val [] (.int .i64) a2] [] K = f44 k a0 a1 a2 (fun z0 z1 z2 => K [.rw 1, .rw 2, .val [] (.int .i64) z0] [⟨0, .arr [] (.prod (.int .i64) (.prod (.int .i64) (.prod (.int .i64) (.prod (.int .i64) (.prod (.slice (.int .u8)) .unit))))) z1⟩, ⟨0, .arr [] (.int .u8) z2⟩]) := by
  rw [f44_def]
  cases k with
  | zero => rfl
  | succ k =>
    refine Eq.trans (show _ = exec T an44 (modesOf F) 0 k 71 (callC T F k) (ending T Try.f44 an44 0 K) (bodyOf Try.f44) ⟨argEnv 0 [.val [(0, 0)] (.slice (.int .u8)) a0, .val [(0, 0)] (.slice (.int .u8)) a1, .val [] (.int .i64) a2] (fun _ => none), rowsOf []⟩ (ending T Try.f44 an44 0 K) (fun _ _ => none) from by kernel_rfl) ?_
    rw [← S44_eq k, ← execS_eq T an44 (modesOf F) 0 k 71 (S44 k) (L44 k K) (bodyOf Try.f44) (cuts_of _ _ _ _ _ _ _ _ (bodyOf Try.f44) (l := [(0, sp44_0, cd44_0)]) (by kernel_rfl) ⟨l44_0 k K, trivial⟩)]
    exact q44 k a0 a1 a2 K
noncomputable def s44 (k : Nat) (a : List PV) (r : List RowS) (K : List PV → List RowS → Option R) : Option R := match a, r with
  | [.val [(0, 0)] (.slice (.int .u8)) a0, .val [(0, 0)] (.slice (.int .u8)) a1, .val [] (.int .i64) a2], [] => f44 k a0 a1 a2 (fun z0 z1 z2 => K [.rw 1, .rw 2, .val [] (.int .i64) z0] [⟨0, .arr [] (.prod (.int .i64) (.prod (.int .i64) (.prod (.int .i64) (.prod (.int .i64) (.prod (.slice (.int .u8)) .unit))))) z1⟩, ⟨0, .arr [] (.int .u8) z2⟩])
  | a, r => callC T F k 44 a r K
theorem s44_eq (k : Nat) (a : List PV) (r : List RowS) (K : List PV → List RowS → Option R) : s44 k a r K = callC T F k 44 a r K := by
  unfold s44
  split
  · exact (e44 k _ _ _ K).symm
  · rfl
end
section
variable {R : Type}
noncomputable def S45 (k g : Nat) (a : List PV) (r : List RowS) (K : List PV → List RowS → Option R) : Option R := bif g == 39 then s39 k a r K else callC T F k g a r K
theorem S45_eq (k : Nat) : S45 (R := R) k = callC T F k := by
  funext g a r K
  exact pick_eq (fun e => by subst e; exact s39_eq k a r K) (rfl)
section
variable {R : Type} (k : Nat) (K : List PV → List RowS → Option R)
noncomputable def L45_0 (ws : List PV) (rs : List RowS) (N : St → Option R) (X : Nat → St → Option R) : Option R := match ws, rs with
  | [.val [(0, 0)] (.slice (.prod (.int .i64) (.prod (.int .i64) (.prod (.int .i64) (.prod (.int .i64) (.prod (.slice (.int .u8)) .unit)))))) v0_0, .val [(0, 0)] (.slice (.prod (.int .i64) (.prod (.int .i64) (.prod (.int .i64) (.prod (.int .i64) (.prod (.slice (.int .u8)) .unit)))))) v0_1, .val [] (.int .i64) v0_2, .val [] (.int .i64) v0_3], [] => f45_0 k (fun z0 => K [.val [] .bool z0] []) (N (sh jn45_0 [] [])) v0_0 v0_1 v0_2 k v0_3
  | ws, rs => inner T an45 (modesOf F) 0 k 27 (S45 k) (ending T Try.f45 an45 0 K) cd45_0 (sh sp45_0 ws rs) N X
noncomputable def L45 (id : Nat) (ws : List PV) (rs : List RowS) (N : St → Option R) (X : Nat → St → Option R) : Option R := bif id == 0 then L45_0 k K ws rs N X else none
theorem b45_0 (rec : St → Option R) (N : St → Option R) (X : Nat → St → Option R) (v0_0 : List ((Int × (Int × (Int × (Int × (List Int × Unit))))))) (v0_1 : List ((Int × (Int × (Int × (Int × (List Int × Unit))))))) (v0_2 : Int) (v0_3 : Int) :
    execS T an45 (modesOf F) 0 k 27 (S45 k) (L45 k K) (ending T Try.f45 an45 0 K) bd45_0 (sh sp45_0 [.val [(0, 0)] (.slice (.prod (.int .i64) (.prod (.int .i64) (.prod (.int .i64) (.prod (.int .i64) (.prod (.slice (.int .u8)) .unit)))))) v0_0, .val [(0, 0)] (.slice (.prod (.int .i64) (.prod (.int .i64) (.prod (.int .i64) (.prod (.int .i64) (.prod (.slice (.int .u8)) .unit)))))) v0_1, .val [] (.int .i64) v0_2, .val [] (.int .i64) v0_3] []) (fun st => atHead an45 0 bd45_0 st rec) (outX an45 0 0 N X) =
      f45_0b k (fun v0_3 => rec (sh sp45_0 [.val [(0, 0)] (.slice (.prod (.int .i64) (.prod (.int .i64) (.prod (.int .i64) (.prod (.int .i64) (.prod (.slice (.int .u8)) .unit)))))) v0_0, .val [(0, 0)] (.slice (.prod (.int .i64) (.prod (.int .i64) (.prod (.int .i64) (.prod (.int .i64) (.prod (.slice (.int .u8)) .unit)))))) v0_1, .val [] (.int .i64) v0_2, .val [] (.int .i64) v0_3] [])) (fun z0 => K [.val [] .bool z0] []) (N (sh jn45_0 [] [])) v0_0 v0_1 v0_2 v0_3 := by kernel_rfl
theorem i45_0 (N : St → Option R) (X : Nat → St → Option R) (v0_0 : List ((Int × (Int × (Int × (Int × (List Int × Unit))))))) (v0_1 : List ((Int × (Int × (Int × (Int × (List Int × Unit))))))) (v0_2 : Int) (m : Nat) : ∀ (v0_3 : Int),
    iter (atHead an45 0 bd45_0) m (fun st N' => exec T an45 (modesOf F) 0 k 27 (S45 k) (ending T Try.f45 an45 0 K) bd45_0 st N' (outX an45 0 0 N X)) (sh sp45_0 [.val [(0, 0)] (.slice (.prod (.int .i64) (.prod (.int .i64) (.prod (.int .i64) (.prod (.int .i64) (.prod (.slice (.int .u8)) .unit)))))) v0_0, .val [(0, 0)] (.slice (.prod (.int .i64) (.prod (.int .i64) (.prod (.int .i64) (.prod (.int .i64) (.prod (.slice (.int .u8)) .unit)))))) v0_1, .val [] (.int .i64) v0_2, .val [] (.int .i64) v0_3] []) = f45_0d k (fun z0 => K [.val [] .bool z0] []) (N (sh jn45_0 [] [])) v0_0 v0_1 v0_2 m v0_3 := by
  induction m with
  | zero => intros; rfl
  | succ m ih =>
    intro v0_3
    simp only [iter]
    rw [← execS_eq T an45 (modesOf F) 0 k 27 (S45 k) (L45 k K) bd45_0 (cuts_of _ _ _ _ _ _ _ _ bd45_0 (l := []) (by kernel_rfl) trivial)]
    refine (b45_0 k K _ N X v0_0 v0_1 v0_2 v0_3).trans ?_
    simp only [f45_0d, ih]
theorem l45_0 (ws : List PV) (rs : List RowS) (N : St → Option R) (X : Nat → St → Option R) : L45 k K 0 ws rs N X = inner T an45 (modesOf F) 0 k 27 (S45 k) (ending T Try.f45 an45 0 K) cd45_0 (sh sp45_0 ws rs) N X := by
  show L45_0 k K ws rs N X = _
  unfold L45_0
  split
  rotate_left
  · rfl
  rename_i v0_0 v0_1 v0_2 v0_3
  rw [f45_0_def]
  refine Eq.trans ?_ (show iter (atHead an45 0 bd45_0) k (fun st N' => exec T an45 (modesOf F) 0 k 27 (S45 k) (ending T Try.f45 an45 0 K) bd45_0 st N' (outX an45 0 0 N X)) (sh sp45_0 [.val [(0, 0)] (.slice (.prod (.int .i64) (.prod (.int .i64) (.prod (.int .i64) (.prod (.int .i64) (.prod (.slice (.int .u8)) .unit)))))) v0_0, .val [(0, 0)] (.slice (.prod (.int .i64) (.prod (.int .i64) (.prod (.int .i64) (.prod (.int .i64) (.prod (.slice (.int .u8)) .unit)))))) v0_1, .val [] (.int .i64) v0_2, .val [] (.int .i64) v0_3] []) = _ from by kernel_rfl)
  exact (i45_0 k K N X v0_0 v0_1 v0_2 k v0_3).symm
end
theorem q45 (k : Nat) (a0 : List ((Int × (Int × (Int × (Int × (List Int × Unit))))))) (a1 : List ((Int × (Int × (Int × (Int × (List Int × Unit))))))) (K : List PV → List RowS → Option R) :
    execS T an45 (modesOf F) 0 k 27 (S45 k) (L45 k K) (ending T Try.f45 an45 0 K) (bodyOf Try.f45) ⟨argEnv 0 [.val [(0, 0)] (.slice (.prod (.int .i64) (.prod (.int .i64) (.prod (.int .i64) (.prod (.int .i64) (.prod (.slice (.int .u8)) .unit)))))) a0, .val [(0, 0)] (.slice (.prod (.int .i64) (.prod (.int .i64) (.prod (.int .i64) (.prod (.int .i64) (.prod (.slice (.int .u8)) .unit)))))) a1] (fun _ => none), rowsOf []⟩ (ending T Try.f45 an45 0 K) (fun _ _ => none) = f45d (k + 1) a0 a1 (fun z0 => K [.val [] .bool z0] []) := by kernel_rfl
theorem e45 (k : Nat) (a0 : List ((Int × (Int × (Int × (Int × (List Int × Unit))))))) (a1 : List ((Int × (Int × (Int × (Int × (List Int × Unit))))))) (K : List PV → List RowS → Option R) : callC T F k 45 [.val [(0, 0)] (.slice (.prod (.int .i64) (.prod (.int .i64) (.prod (.int .i64) (.prod (.int .i64) (.prod (.slice (.int .u8)) .unit)))))) a0, .val [(0, 0)] (.slice (.prod (.int .i64) (.prod (.int .i64) (.prod (.int .i64) (.prod (.int .i64) (.prod (.slice (.int .u8)) .unit)))))) a1] [] K = f45 k a0 a1 (fun z0 => K [.val [] .bool z0] []) := by
  rw [f45_def]
  cases k with
  | zero => rfl
  | succ k =>
    refine Eq.trans (show _ = exec T an45 (modesOf F) 0 k 27 (callC T F k) (ending T Try.f45 an45 0 K) (bodyOf Try.f45) ⟨argEnv 0 [.val [(0, 0)] (.slice (.prod (.int .i64) (.prod (.int .i64) (.prod (.int .i64) (.prod (.int .i64) (.prod (.slice (.int .u8)) .unit)))))) a0, .val [(0, 0)] (.slice (.prod (.int .i64) (.prod (.int .i64) (.prod (.int .i64) (.prod (.int .i64) (.prod (.slice (.int .u8)) .unit)))))) a1] (fun _ => none), rowsOf []⟩ (ending T Try.f45 an45 0 K) (fun _ _ => none) from by kernel_rfl) ?_
    rw [← S45_eq k, ← execS_eq T an45 (modesOf F) 0 k 27 (S45 k) (L45 k K) (bodyOf Try.f45) (cuts_of _ _ _ _ _ _ _ _ (bodyOf Try.f45) (l := [(0, sp45_0, cd45_0)]) (by kernel_rfl) ⟨l45_0 k K, trivial⟩)]
    exact q45 k a0 a1 K
noncomputable def s45 (k : Nat) (a : List PV) (r : List RowS) (K : List PV → List RowS → Option R) : Option R := match a, r with
  | [.val [(0, 0)] (.slice (.prod (.int .i64) (.prod (.int .i64) (.prod (.int .i64) (.prod (.int .i64) (.prod (.slice (.int .u8)) .unit)))))) a0, .val [(0, 0)] (.slice (.prod (.int .i64) (.prod (.int .i64) (.prod (.int .i64) (.prod (.int .i64) (.prod (.slice (.int .u8)) .unit)))))) a1], [] => f45 k a0 a1 (fun z0 => K [.val [] .bool z0] [])
  | a, r => callC T F k 45 a r K
theorem s45_eq (k : Nat) (a : List PV) (r : List RowS) (K : List PV → List RowS → Option R) : s45 k a r K = callC T F k 45 a r K := by
  unfold s45
  split
  · exact (e45 k _ _ K).symm
  · rfl
end
section
variable {R : Type}
noncomputable def S9 (k g : Nat) (a : List PV) (r : List RowS) (K : List PV → List RowS → Option R) : Option R := bif g == 21 then s21 k a r K else bif g == 32 then s32 k a r K else bif g == 43 then s43 k a r K else bif g == 44 then s44 k a r K else bif g == 45 then s45 k a r K else callC T F k g a r K
theorem S9_eq (k : Nat) : S9 (R := R) k = callC T F k := by
  funext g a r K
  exact pick_eq (fun e => by subst e; exact s21_eq k a r K) (pick_eq (fun e => by subst e; exact s32_eq k a r K) (pick_eq (fun e => by subst e; exact s43_eq k a r K) (pick_eq (fun e => by subst e; exact s44_eq k a r K) (pick_eq (fun e => by subst e; exact s45_eq k a r K) (rfl)))))
theorem q9 (k : Nat) (a0 : List Int) (a1 : List Int) (a2 : Int) (K : List PV → List RowS → Option R) :
    execS T an9 (modesOf F) 0 k 45 (S9 k) (fun _ _ _ _ _ => none) (ending T Try.f9 an9 0 K) (bodyOf Try.f9) ⟨argEnv 0 [.val [(0, 0)] (.slice (.int .u8)) a0, .val [(0, 0)] (.slice (.int .u8)) a1, .val [] (.int .i64) a2] (fun _ => none), rowsOf []⟩ (ending T Try.f9 an9 0 K) (fun _ _ => none) = f9d (k + 1) a0 a1 a2 (fun z0 => K [.val [] .bool z0] []) := by kernel_rfl
theorem e9 (k : Nat) (a0 : List Int) (a1 : List Int) (a2 : Int) (K : List PV → List RowS → Option R) : callC T F k 9 [.val [(0, 0)] (.slice (.int .u8)) a0, .val [(0, 0)] (.slice (.int .u8)) a1, .val [] (.int .i64) a2] [] K = f9 k a0 a1 a2 (fun z0 => K [.val [] .bool z0] []) := by
  rw [f9_def]
  cases k with
  | zero => rfl
  | succ k =>
    refine Eq.trans (show _ = exec T an9 (modesOf F) 0 k 45 (callC T F k) (ending T Try.f9 an9 0 K) (bodyOf Try.f9) ⟨argEnv 0 [.val [(0, 0)] (.slice (.int .u8)) a0, .val [(0, 0)] (.slice (.int .u8)) a1, .val [] (.int .i64) a2] (fun _ => none), rowsOf []⟩ (ending T Try.f9 an9 0 K) (fun _ _ => none) from by kernel_rfl) ?_
    rw [← S9_eq k, ← execS_eq T an9 (modesOf F) 0 k 45 (S9 k) (fun _ _ _ _ _ => none) (bodyOf Try.f9) (cuts_of _ _ _ _ _ _ _ _ (bodyOf Try.f9) (l := []) (by kernel_rfl) trivial)]
    exact q9 k a0 a1 a2 K
noncomputable def s9 (k : Nat) (a : List PV) (r : List RowS) (K : List PV → List RowS → Option R) : Option R := match a, r with
  | [.val [(0, 0)] (.slice (.int .u8)) a0, .val [(0, 0)] (.slice (.int .u8)) a1, .val [] (.int .i64) a2], [] => f9 k a0 a1 a2 (fun z0 => K [.val [] .bool z0] [])
  | a, r => callC T F k 9 a r K
theorem s9_eq (k : Nat) (a : List PV) (r : List RowS) (K : List PV → List RowS → Option R) : s9 k a r K = callC T F k 9 a r K := by
  unfold s9
  split
  · exact (e9 k _ _ _ K).symm
  · rfl
end
section
variable {R : Type}
noncomputable def S46 (k g : Nat) (a : List PV) (r : List RowS) (K : List PV → List RowS → Option R) : Option R := bif g == 75 then s75 k a r K else bif g == 80 then s80 k a r K else callC T F k g a r K
theorem S46_eq (k : Nat) : S46 (R := R) k = callC T F k := by
  funext g a r K
  exact pick_eq (fun e => by subst e; exact s75_eq k a r K) (pick_eq (fun e => by subst e; exact s80_eq k a r K) (rfl))
theorem q46 (k : Nat) (a0 : List Int) (a1 : Int) (K : List PV → List RowS → Option R) :
    execS T an46 (modesOf F) 0 k 27 (S46 k) (fun _ _ _ _ _ => none) (ending T Try.f46 an46 0 K) (bodyOf Try.f46) ⟨argEnv 0 [.val [(0, 0)] (.slice (.int .u8)) a0, .val [] (.int .i64) a1] (fun _ => none), rowsOf []⟩ (ending T Try.f46 an46 0 K) (fun _ _ => none) = f46d (k + 1) a0 a1 (fun z0 z1 z2 => K [.rw 1, .rw 2, .val [] (.int .i64) z0] [⟨0, .arr [] (.prod (.int .i64) (.prod (.int .i64) (.prod (.int .i64) (.prod (.int .i64) (.prod (.slice (.int .u8)) .unit))))) z1⟩, ⟨0, .arr [] (.int .i64) z2⟩]) := by kernel_rfl
theorem e46 (k : Nat) (a0 : List Int) (a1 : Int) (K : List PV → List RowS → Option R) : callC T F k 46 [.val [(0, 0)] (.slice (.int .u8)) a0, .val [] (.int .i64) a1] [] K = f46 k a0 a1 (fun z0 z1 z2 => K [.rw 1, .rw 2, .val [] (.int .i64) z0] [⟨0, .arr [] (.prod (.int .i64) (.prod (.int .i64) (.prod (.int .i64) (.prod (.int .i64) (.prod (.slice (.int .u8)) .unit))))) z1⟩, ⟨0, .arr [] (.int .i64) z2⟩]) := by
  rw [f46_def]
  cases k with
  | zero => rfl
  | succ k =>
    refine Eq.trans (show _ = exec T an46 (modesOf F) 0 k 27 (callC T F k) (ending T Try.f46 an46 0 K) (bodyOf Try.f46) ⟨argEnv 0 [.val [(0, 0)] (.slice (.int .u8)) a0, .val [] (.int .i64) a1] (fun _ => none), rowsOf []⟩ (ending T Try.f46 an46 0 K) (fun _ _ => none) from by kernel_rfl) ?_
    rw [← S46_eq k, ← execS_eq T an46 (modesOf F) 0 k 27 (S46 k) (fun _ _ _ _ _ => none) (bodyOf Try.f46) (cuts_of _ _ _ _ _ _ _ _ (bodyOf Try.f46) (l := []) (by kernel_rfl) trivial)]
    exact q46 k a0 a1 K
noncomputable def s46 (k : Nat) (a : List PV) (r : List RowS) (K : List PV → List RowS → Option R) : Option R := match a, r with
  | [.val [(0, 0)] (.slice (.int .u8)) a0, .val [] (.int .i64) a1], [] => f46 k a0 a1 (fun z0 z1 z2 => K [.rw 1, .rw 2, .val [] (.int .i64) z0] [⟨0, .arr [] (.prod (.int .i64) (.prod (.int .i64) (.prod (.int .i64) (.prod (.int .i64) (.prod (.slice (.int .u8)) .unit))))) z1⟩, ⟨0, .arr [] (.int .i64) z2⟩])
  | a, r => callC T F k 46 a r K
theorem s46_eq (k : Nat) (a : List PV) (r : List RowS) (K : List PV → List RowS → Option R) : s46 k a r K = callC T F k 46 a r K := by
  unfold s46
  split
  · exact (e46 k _ _ K).symm
  · rfl
end
section
variable {R : Type}
theorem e47 (k : Nat) (a0 : List Int) (K : List PV → List RowS → Option R) : callC T F k 47 [.val [(0, 0)] (.slice (.int .i64)) a0] [] K = f47 k a0 (fun z0 => K [.rw 1] [⟨0, .arr [] (.int .i64) z0⟩]) := by
  rw [f47_def]
  cases k with
  | zero => rfl
  | succ k => exact clone_call (m := [.lend (.int .i64)]) (ty := (.int .i64)) (bytes := 8) (by kernel_rfl) a0 K
noncomputable def s47 (k : Nat) (a : List PV) (r : List RowS) (K : List PV → List RowS → Option R) : Option R := match a, r with
  | [.val [(0, 0)] (.slice (.int .i64)) a0], [] => f47 k a0 (fun z0 => K [.rw 1] [⟨0, .arr [] (.int .i64) z0⟩])
  | a, r => callC T F k 47 a r K
theorem s47_eq (k : Nat) (a : List PV) (r : List RowS) (K : List PV → List RowS → Option R) : s47 k a r K = callC T F k 47 a r K := by
  unfold s47
  split
  · exact (e47 k _ K).symm
  · rfl
end
section
variable {R : Type}
noncomputable def S10 (k g : Nat) (a : List PV) (r : List RowS) (K : List PV → List RowS → Option R) : Option R := bif g == 21 then s21 k a r K else bif g == 42 then s42 k a r K else bif g == 43 then s43 k a r K else bif g == 45 then s45 k a r K else bif g == 46 then s46 k a r K else bif g == 47 then s47 k a r K else callC T F k g a r K
theorem S10_eq (k : Nat) : S10 (R := R) k = callC T F k := by
  funext g a r K
  exact pick_eq (fun e => by subst e; exact s21_eq k a r K) (pick_eq (fun e => by subst e; exact s42_eq k a r K) (pick_eq (fun e => by subst e; exact s43_eq k a r K) (pick_eq (fun e => by subst e; exact s45_eq k a r K) (pick_eq (fun e => by subst e; exact s46_eq k a r K) (pick_eq (fun e => by subst e; exact s47_eq k a r K) (rfl))))))
section
variable {R : Type} (k : Nat) (K : List PV → List RowS → Option R)
noncomputable def L10_1000012 (ws : List PV) (rs : List RowS) (N : St → Option R) (X : Nat → St → Option R) : Option R := match ws, rs with
  | [.val [(0, 0)] (.slice (.int .u8)) v12_0, .val [] (.int .i64) v12_1, .rw 1, .rw 2, .rw 3, .val [] (.int .i64) v12_2, .val [] (.int .i64) v12_3, .val [] (.int .i64) v12_4, .rw 4, .val [] (.int .i64) v12_5, .val [] (.int .i64) v12_6, .val [] .bool v12_7], [⟨0, .arr [] (.prod (.int .i64) (.prod (.int .i64) (.prod (.int .i64) (.prod (.int .i64) (.prod (.slice (.int .u8)) .unit))))) v12_8⟩, ⟨0, .arr [] (.prod (.int .i64) (.prod (.int .i64) (.prod (.int .i64) (.prod (.int .i64) (.prod (.slice (.int .u8)) .unit))))) v12_9⟩, ⟨0, .arr [] (.int .u8) v12_10⟩, ⟨0, .arr [] (.int .i64) v12_11⟩] => f10_1000012 k (fun yN_3 => N (sh fi10_12 [.val [(0, 0)] (.slice (.int .u8)) v12_0, .val [] (.int .i64) v12_1, .rw 1, .rw 2, .rw 3, .val [] (.int .i64) v12_2, .val [] (.int .i64) yN_3, .rw 4, .val [] (.int .i64) v12_5, .val [] (.int .i64) v12_6] [⟨0, .arr [] (.prod (.int .i64) (.prod (.int .i64) (.prod (.int .i64) (.prod (.int .i64) (.prod (.slice (.int .u8)) .unit))))) v12_8⟩, ⟨0, .arr [] (.prod (.int .i64) (.prod (.int .i64) (.prod (.int .i64) (.prod (.int .i64) (.prod (.slice (.int .u8)) .unit))))) v12_9⟩, ⟨0, .arr [] (.int .u8) v12_10⟩, ⟨0, .arr [] (.int .i64) v12_11⟩])) v12_0 v12_1 v12_2 v12_3 v12_4 v12_5 v12_6 v12_7 v12_8 v12_9 v12_10 v12_11
  | ws, rs => inner T an10 (modesOf F) 0 k 92 (S10 k) (ending T Try.f10 an10 0 K) cd10_1000012 (sh sp10_1000012 ws rs) N X
noncomputable def L10_0 (ws : List PV) (rs : List RowS) (N : St → Option R) (X : Nat → St → Option R) : Option R := match ws, rs with
  | [.val [(0, 0)] (.slice (.int .u8)) v0_0, .val [] (.int .i64) v0_1, .rw 1, .rw 2, .rw 3, .val [] (.int .i64) v0_2, .rw 4, .val [] (.int .i64) v0_3, .val [] (.int .i64) v0_4], [⟨0, .arr [] (.prod (.int .i64) (.prod (.int .i64) (.prod (.int .i64) (.prod (.int .i64) (.prod (.slice (.int .u8)) .unit))))) v0_5⟩, ⟨0, .arr [] (.prod (.int .i64) (.prod (.int .i64) (.prod (.int .i64) (.prod (.int .i64) (.prod (.slice (.int .u8)) .unit))))) v0_6⟩, ⟨0, .arr [] (.int .u8) v0_7⟩, ⟨0, .arr [] (.int .i64) v0_8⟩] => f10_0 k (fun z0 => K [.val [] .bool z0] []) (fun y0_1 => N (sh jn10_0 [.rw 1, .rw 2] [⟨0, .arr [] (.prod (.int .i64) (.prod (.int .i64) (.prod (.int .i64) (.prod (.int .i64) (.prod (.slice (.int .u8)) .unit))))) v0_5⟩, ⟨0, .arr [] (.prod (.int .i64) (.prod (.int .i64) (.prod (.int .i64) (.prod (.int .i64) (.prod (.slice (.int .u8)) .unit))))) y0_1⟩])) v0_0 v0_1 v0_3 v0_5 v0_8 k v0_2 v0_4 v0_6 v0_7
  | ws, rs => inner T an10 (modesOf F) 0 k 92 (S10 k) (ending T Try.f10 an10 0 K) cd10_0 (sh sp10_0 ws rs) N X
noncomputable def L10 (id : Nat) (ws : List PV) (rs : List RowS) (N : St → Option R) (X : Nat → St → Option R) : Option R := bif id == 1000012 then L10_1000012 k K ws rs N X else bif id == 0 then L10_0 k K ws rs N X else none
theorem b10_1000012 (N : St → Option R) (X : Nat → St → Option R) (v12_0 : List Int) (v12_1 : Int) (v12_2 : Int) (v12_3 : Int) (v12_4 : Int) (v12_5 : Int) (v12_6 : Int) (v12_7 : Bool) (v12_8 : List (Int × (Int × (Int × (Int × (List Int × Unit)))))) (v12_9 : List (Int × (Int × (Int × (Int × (List Int × Unit)))))) (v12_10 : List Int) (v12_11 : List Int) :
    innerS T an10 (modesOf F) 0 k 92 (S10 k) (L10 k K) (ending T Try.f10 an10 0 K) cd10_1000012 (sh sp10_1000012 [.val [(0, 0)] (.slice (.int .u8)) v12_0, .val [] (.int .i64) v12_1, .rw 1, .rw 2, .rw 3, .val [] (.int .i64) v12_2, .val [] (.int .i64) v12_3, .val [] (.int .i64) v12_4, .rw 4, .val [] (.int .i64) v12_5, .val [] (.int .i64) v12_6, .val [] .bool v12_7] [⟨0, .arr [] (.prod (.int .i64) (.prod (.int .i64) (.prod (.int .i64) (.prod (.int .i64) (.prod (.slice (.int .u8)) .unit))))) v12_8⟩, ⟨0, .arr [] (.prod (.int .i64) (.prod (.int .i64) (.prod (.int .i64) (.prod (.int .i64) (.prod (.slice (.int .u8)) .unit))))) v12_9⟩, ⟨0, .arr [] (.int .u8) v12_10⟩, ⟨0, .arr [] (.int .i64) v12_11⟩]) N X = f10_1000012d k (fun yN_3 => N (sh fi10_12 [.val [(0, 0)] (.slice (.int .u8)) v12_0, .val [] (.int .i64) v12_1, .rw 1, .rw 2, .rw 3, .val [] (.int .i64) v12_2, .val [] (.int .i64) yN_3, .rw 4, .val [] (.int .i64) v12_5, .val [] (.int .i64) v12_6] [⟨0, .arr [] (.prod (.int .i64) (.prod (.int .i64) (.prod (.int .i64) (.prod (.int .i64) (.prod (.slice (.int .u8)) .unit))))) v12_8⟩, ⟨0, .arr [] (.prod (.int .i64) (.prod (.int .i64) (.prod (.int .i64) (.prod (.int .i64) (.prod (.slice (.int .u8)) .unit))))) v12_9⟩, ⟨0, .arr [] (.int .u8) v12_10⟩, ⟨0, .arr [] (.int .i64) v12_11⟩])) v12_0 v12_1 v12_2 v12_3 v12_4 v12_5 v12_6 v12_7 v12_8 v12_9 v12_10 v12_11 := by kernel_rfl
theorem l10_1000012 (ws : List PV) (rs : List RowS) (N : St → Option R) (X : Nat → St → Option R) : L10 k K 1000012 ws rs N X = inner T an10 (modesOf F) 0 k 92 (S10 k) (ending T Try.f10 an10 0 K) cd10_1000012 (sh sp10_1000012 ws rs) N X := by
  show L10_1000012 k K ws rs N X = _
  unfold L10_1000012
  split
  rotate_left
  · rfl
  rename_i v12_0 v12_1 v12_2 v12_3 v12_4 v12_5 v12_6 v12_7 v12_8 v12_9 v12_10 v12_11
  rw [f10_1000012_def]
  exact ((innerS_eq T an10 (modesOf F) 0 k 92 (S10 k) (L10 k K) cd10_1000012 (l := []) (by kernel_rfl) trivial _ N X).symm.trans (b10_1000012 k K N X v12_0 v12_1 v12_2 v12_3 v12_4 v12_5 v12_6 v12_7 v12_8 v12_9 v12_10 v12_11)).symm
theorem b10_0 (rec : St → Option R) (N : St → Option R) (X : Nat → St → Option R) (v0_0 : List Int) (v0_1 : Int) (v0_3 : Int) (v0_5 : List (Int × (Int × (Int × (Int × (List Int × Unit)))))) (v0_8 : List Int) (v0_2 : Int) (v0_4 : Int) (v0_6 : List (Int × (Int × (Int × (Int × (List Int × Unit)))))) (v0_7 : List Int) :
    execS T an10 (modesOf F) 0 k 92 (S10 k) (L10 k K) (ending T Try.f10 an10 0 K) bd10_0 (sh sp10_0 [.val [(0, 0)] (.slice (.int .u8)) v0_0, .val [] (.int .i64) v0_1, .rw 1, .rw 2, .rw 3, .val [] (.int .i64) v0_2, .rw 4, .val [] (.int .i64) v0_3, .val [] (.int .i64) v0_4] [⟨0, .arr [] (.prod (.int .i64) (.prod (.int .i64) (.prod (.int .i64) (.prod (.int .i64) (.prod (.slice (.int .u8)) .unit))))) v0_5⟩, ⟨0, .arr [] (.prod (.int .i64) (.prod (.int .i64) (.prod (.int .i64) (.prod (.int .i64) (.prod (.slice (.int .u8)) .unit))))) v0_6⟩, ⟨0, .arr [] (.int .u8) v0_7⟩, ⟨0, .arr [] (.int .i64) v0_8⟩]) (fun st => atHead an10 0 bd10_0 st rec) (outX an10 0 0 N X) =
      f10_0b k (fun v0_2 v0_4 v0_6 v0_7 => rec (sh sp10_0 [.val [(0, 0)] (.slice (.int .u8)) v0_0, .val [] (.int .i64) v0_1, .rw 1, .rw 2, .rw 3, .val [] (.int .i64) v0_2, .rw 4, .val [] (.int .i64) v0_3, .val [] (.int .i64) v0_4] [⟨0, .arr [] (.prod (.int .i64) (.prod (.int .i64) (.prod (.int .i64) (.prod (.int .i64) (.prod (.slice (.int .u8)) .unit))))) v0_5⟩, ⟨0, .arr [] (.prod (.int .i64) (.prod (.int .i64) (.prod (.int .i64) (.prod (.int .i64) (.prod (.slice (.int .u8)) .unit))))) v0_6⟩, ⟨0, .arr [] (.int .u8) v0_7⟩, ⟨0, .arr [] (.int .i64) v0_8⟩])) (fun z0 => K [.val [] .bool z0] []) (fun y0_1 => N (sh jn10_0 [.rw 1, .rw 2] [⟨0, .arr [] (.prod (.int .i64) (.prod (.int .i64) (.prod (.int .i64) (.prod (.int .i64) (.prod (.slice (.int .u8)) .unit))))) v0_5⟩, ⟨0, .arr [] (.prod (.int .i64) (.prod (.int .i64) (.prod (.int .i64) (.prod (.int .i64) (.prod (.slice (.int .u8)) .unit))))) y0_1⟩])) v0_0 v0_1 v0_3 v0_5 v0_8 v0_2 v0_4 v0_6 v0_7 := by kernel_rfl
theorem i10_0 (N : St → Option R) (X : Nat → St → Option R) (v0_0 : List Int) (v0_1 : Int) (v0_3 : Int) (v0_5 : List (Int × (Int × (Int × (Int × (List Int × Unit)))))) (v0_8 : List Int) (m : Nat) : ∀ (v0_2 : Int) (v0_4 : Int) (v0_6 : List (Int × (Int × (Int × (Int × (List Int × Unit)))))) (v0_7 : List Int),
    iter (atHead an10 0 bd10_0) m (fun st N' => exec T an10 (modesOf F) 0 k 92 (S10 k) (ending T Try.f10 an10 0 K) bd10_0 st N' (outX an10 0 0 N X)) (sh sp10_0 [.val [(0, 0)] (.slice (.int .u8)) v0_0, .val [] (.int .i64) v0_1, .rw 1, .rw 2, .rw 3, .val [] (.int .i64) v0_2, .rw 4, .val [] (.int .i64) v0_3, .val [] (.int .i64) v0_4] [⟨0, .arr [] (.prod (.int .i64) (.prod (.int .i64) (.prod (.int .i64) (.prod (.int .i64) (.prod (.slice (.int .u8)) .unit))))) v0_5⟩, ⟨0, .arr [] (.prod (.int .i64) (.prod (.int .i64) (.prod (.int .i64) (.prod (.int .i64) (.prod (.slice (.int .u8)) .unit))))) v0_6⟩, ⟨0, .arr [] (.int .u8) v0_7⟩, ⟨0, .arr [] (.int .i64) v0_8⟩]) = f10_0d k (fun z0 => K [.val [] .bool z0] []) (fun y0_1 => N (sh jn10_0 [.rw 1, .rw 2] [⟨0, .arr [] (.prod (.int .i64) (.prod (.int .i64) (.prod (.int .i64) (.prod (.int .i64) (.prod (.slice (.int .u8)) .unit))))) v0_5⟩, ⟨0, .arr [] (.prod (.int .i64) (.prod (.int .i64) (.prod (.int .i64) (.prod (.int .i64) (.prod (.slice (.int .u8)) .unit))))) y0_1⟩])) v0_0 v0_1 v0_3 v0_5 v0_8 m v0_2 v0_4 v0_6 v0_7 := by
  induction m with
  | zero => intros; rfl
  | succ m ih =>
    intro v0_2 v0_4 v0_6 v0_7
    simp only [iter]
    rw [← execS_eq T an10 (modesOf F) 0 k 92 (S10 k) (L10 k K) bd10_0 (cuts_of _ _ _ _ _ _ _ _ bd10_0 (l := [(1000012, sp10_1000012, cd10_1000012)]) (by kernel_rfl) ⟨l10_1000012 k K, trivial⟩)]
    refine (b10_0 k K _ N X v0_0 v0_1 v0_3 v0_5 v0_8 v0_2 v0_4 v0_6 v0_7).trans ?_
    simp only [f10_0d, ih]
theorem l10_0 (ws : List PV) (rs : List RowS) (N : St → Option R) (X : Nat → St → Option R) : L10 k K 0 ws rs N X = inner T an10 (modesOf F) 0 k 92 (S10 k) (ending T Try.f10 an10 0 K) cd10_0 (sh sp10_0 ws rs) N X := by
  show L10_0 k K ws rs N X = _
  unfold L10_0
  split
  rotate_left
  · rfl
  rename_i v0_0 v0_1 v0_2 v0_3 v0_4 v0_5 v0_6 v0_7 v0_8
  rw [f10_0_def]
  refine Eq.trans ?_ (show iter (atHead an10 0 bd10_0) k (fun st N' => exec T an10 (modesOf F) 0 k 92 (S10 k) (ending T Try.f10 an10 0 K) bd10_0 st N' (outX an10 0 0 N X)) (sh sp10_0 [.val [(0, 0)] (.slice (.int .u8)) v0_0, .val [] (.int .i64) v0_1, .rw 1, .rw 2, .rw 3, .val [] (.int .i64) v0_2, .rw 4, .val [] (.int .i64) v0_3, .val [] (.int .i64) v0_4] [⟨0, .arr [] (.prod (.int .i64) (.prod (.int .i64) (.prod (.int .i64) (.prod (.int .i64) (.prod (.slice (.int .u8)) .unit))))) v0_5⟩, ⟨0, .arr [] (.prod (.int .i64) (.prod (.int .i64) (.prod (.int .i64) (.prod (.int .i64) (.prod (.slice (.int .u8)) .unit))))) v0_6⟩, ⟨0, .arr [] (.int .u8) v0_7⟩, ⟨0, .arr [] (.int .i64) v0_8⟩]) = _ from by kernel_rfl)
  exact (i10_0 k K N X v0_0 v0_1 v0_3 v0_5 v0_8 k v0_2 v0_4 v0_6 v0_7).symm
end
theorem q10 (k : Nat) (a0 : List Int) (a1 : Int) (a2 : List Int) (K : List PV → List RowS → Option R) :
    execS T an10 (modesOf F) 0 k 92 (S10 k) (L10 k K) (ending T Try.f10 an10 0 K) (bodyOf Try.f10) ⟨argEnv 0 [.val [(0, 0)] (.slice (.int .u8)) a0, .val [] (.int .i64) a1, .val [(0, 0)] (.slice (.int .i64)) a2] (fun _ => none), rowsOf []⟩ (ending T Try.f10 an10 0 K) (fun _ _ => none) = f10d (k + 1) a0 a1 a2 (fun z0 => K [.val [] .bool z0] []) := by kernel_rfl
theorem e10 (k : Nat) (a0 : List Int) (a1 : Int) (a2 : List Int) (K : List PV → List RowS → Option R) : callC T F k 10 [.val [(0, 0)] (.slice (.int .u8)) a0, .val [] (.int .i64) a1, .val [(0, 0)] (.slice (.int .i64)) a2] [] K = f10 k a0 a1 a2 (fun z0 => K [.val [] .bool z0] []) := by
  rw [f10_def]
  cases k with
  | zero => rfl
  | succ k =>
    refine Eq.trans (show _ = exec T an10 (modesOf F) 0 k 92 (callC T F k) (ending T Try.f10 an10 0 K) (bodyOf Try.f10) ⟨argEnv 0 [.val [(0, 0)] (.slice (.int .u8)) a0, .val [] (.int .i64) a1, .val [(0, 0)] (.slice (.int .i64)) a2] (fun _ => none), rowsOf []⟩ (ending T Try.f10 an10 0 K) (fun _ _ => none) from by kernel_rfl) ?_
    rw [← S10_eq k, ← execS_eq T an10 (modesOf F) 0 k 92 (S10 k) (L10 k K) (bodyOf Try.f10) (cuts_of _ _ _ _ _ _ _ _ (bodyOf Try.f10) (l := [(0, sp10_0, cd10_0)]) (by kernel_rfl) ⟨l10_0 k K, trivial⟩)]
    exact q10 k a0 a1 a2 K
noncomputable def s10 (k : Nat) (a : List PV) (r : List RowS) (K : List PV → List RowS → Option R) : Option R := match a, r with
  | [.val [(0, 0)] (.slice (.int .u8)) a0, .val [] (.int .i64) a1, .val [(0, 0)] (.slice (.int .i64)) a2], [] => f10 k a0 a1 a2 (fun z0 => K [.val [] .bool z0] [])
  | a, r => callC T F k 10 a r K
theorem s10_eq (k : Nat) (a : List PV) (r : List RowS) (K : List PV → List RowS → Option R) : s10 k a r K = callC T F k 10 a r K := by
  unfold s10
  split
  · exact (e10 k _ _ _ K).symm
  · rfl
end
section
variable {R : Type}
noncomputable def S83 (k g : Nat) (a : List PV) (r : List RowS) (K : List PV → List RowS → Option R) : Option R := bif g == 30 then s30 k a r K else callC T F k g a r K
theorem S83_eq (k : Nat) : S83 (R := R) k = callC T F k := by
  funext g a r K
  exact pick_eq (fun e => by subst e; exact s30_eq k a r K) (rfl)
section
variable {R : Type} (k : Nat) (K : List PV → List RowS → Option R)
noncomputable def L83_0 (ws : List PV) (rs : List RowS) (N : St → Option R) (X : Nat → St → Option R) : Option R := match ws, rs with
  | [.val [(0, 0)] (.slice (.prod (.int .i64) (.prod .bool (.prod (.int .i64) (.prod (.int .i64) (.prod (.slice (.int .u8)) .unit)))))) v0_0, .val [] (.int .i64) v0_1, .val [] (.int .i64) v0_2], [] => f83_0 k (fun z0 => K [.val [] (.int .i64) z0] []) (N (sh jn83_0 [] [])) v0_0 v0_1 k v0_2
  | ws, rs => inner T an83 (modesOf F) 0 k 21 (S83 k) (ending T Try.f83 an83 0 K) cd83_0 (sh sp83_0 ws rs) N X
noncomputable def L83 (id : Nat) (ws : List PV) (rs : List RowS) (N : St → Option R) (X : Nat → St → Option R) : Option R := bif id == 0 then L83_0 k K ws rs N X else none
theorem b83_0 (rec : St → Option R) (N : St → Option R) (X : Nat → St → Option R) (v0_0 : List ((Int × (Bool × (Int × (Int × (List Int × Unit))))))) (v0_1 : Int) (v0_2 : Int) :
    execS T an83 (modesOf F) 0 k 21 (S83 k) (L83 k K) (ending T Try.f83 an83 0 K) bd83_0 (sh sp83_0 [.val [(0, 0)] (.slice (.prod (.int .i64) (.prod .bool (.prod (.int .i64) (.prod (.int .i64) (.prod (.slice (.int .u8)) .unit)))))) v0_0, .val [] (.int .i64) v0_1, .val [] (.int .i64) v0_2] []) (fun st => atHead an83 0 bd83_0 st rec) (outX an83 0 0 N X) =
      f83_0b k (fun v0_2 => rec (sh sp83_0 [.val [(0, 0)] (.slice (.prod (.int .i64) (.prod .bool (.prod (.int .i64) (.prod (.int .i64) (.prod (.slice (.int .u8)) .unit)))))) v0_0, .val [] (.int .i64) v0_1, .val [] (.int .i64) v0_2] [])) (fun z0 => K [.val [] (.int .i64) z0] []) (N (sh jn83_0 [] [])) v0_0 v0_1 v0_2 := by kernel_rfl
theorem i83_0 (N : St → Option R) (X : Nat → St → Option R) (v0_0 : List ((Int × (Bool × (Int × (Int × (List Int × Unit))))))) (v0_1 : Int) (m : Nat) : ∀ (v0_2 : Int),
    iter (atHead an83 0 bd83_0) m (fun st N' => exec T an83 (modesOf F) 0 k 21 (S83 k) (ending T Try.f83 an83 0 K) bd83_0 st N' (outX an83 0 0 N X)) (sh sp83_0 [.val [(0, 0)] (.slice (.prod (.int .i64) (.prod .bool (.prod (.int .i64) (.prod (.int .i64) (.prod (.slice (.int .u8)) .unit)))))) v0_0, .val [] (.int .i64) v0_1, .val [] (.int .i64) v0_2] []) = f83_0d k (fun z0 => K [.val [] (.int .i64) z0] []) (N (sh jn83_0 [] [])) v0_0 v0_1 m v0_2 := by
  induction m with
  | zero => intros; rfl
  | succ m ih =>
    intro v0_2
    simp only [iter]
    rw [← execS_eq T an83 (modesOf F) 0 k 21 (S83 k) (L83 k K) bd83_0 (cuts_of _ _ _ _ _ _ _ _ bd83_0 (l := []) (by kernel_rfl) trivial)]
    refine (b83_0 k K _ N X v0_0 v0_1 v0_2).trans ?_
    simp only [f83_0d, ih]
theorem l83_0 (ws : List PV) (rs : List RowS) (N : St → Option R) (X : Nat → St → Option R) : L83 k K 0 ws rs N X = inner T an83 (modesOf F) 0 k 21 (S83 k) (ending T Try.f83 an83 0 K) cd83_0 (sh sp83_0 ws rs) N X := by
  show L83_0 k K ws rs N X = _
  unfold L83_0
  split
  rotate_left
  · rfl
  rename_i v0_0 v0_1 v0_2
  rw [f83_0_def]
  refine Eq.trans ?_ (show iter (atHead an83 0 bd83_0) k (fun st N' => exec T an83 (modesOf F) 0 k 21 (S83 k) (ending T Try.f83 an83 0 K) bd83_0 st N' (outX an83 0 0 N X)) (sh sp83_0 [.val [(0, 0)] (.slice (.prod (.int .i64) (.prod .bool (.prod (.int .i64) (.prod (.int .i64) (.prod (.slice (.int .u8)) .unit)))))) v0_0, .val [] (.int .i64) v0_1, .val [] (.int .i64) v0_2] []) = _ from by kernel_rfl)
  exact (i83_0 k K N X v0_0 v0_1 k v0_2).symm
end
theorem q83 (k : Nat) (a0 : List ((Int × (Bool × (Int × (Int × (List Int × Unit))))))) (K : List PV → List RowS → Option R) :
    execS T an83 (modesOf F) 0 k 21 (S83 k) (L83 k K) (ending T Try.f83 an83 0 K) (bodyOf Try.f83) ⟨argEnv 0 [.val [(0, 0)] (.slice (.prod (.int .i64) (.prod .bool (.prod (.int .i64) (.prod (.int .i64) (.prod (.slice (.int .u8)) .unit)))))) a0] (fun _ => none), rowsOf []⟩ (ending T Try.f83 an83 0 K) (fun _ _ => none) = f83d (k + 1) a0 (fun z0 => K [.val [] (.int .i64) z0] []) := by kernel_rfl
theorem e83 (k : Nat) (a0 : List ((Int × (Bool × (Int × (Int × (List Int × Unit))))))) (K : List PV → List RowS → Option R) : callC T F k 83 [.val [(0, 0)] (.slice (.prod (.int .i64) (.prod .bool (.prod (.int .i64) (.prod (.int .i64) (.prod (.slice (.int .u8)) .unit)))))) a0] [] K = f83 k a0 (fun z0 => K [.val [] (.int .i64) z0] []) := by
  rw [f83_def]
  cases k with
  | zero => rfl
  | succ k =>
    refine Eq.trans (show _ = exec T an83 (modesOf F) 0 k 21 (callC T F k) (ending T Try.f83 an83 0 K) (bodyOf Try.f83) ⟨argEnv 0 [.val [(0, 0)] (.slice (.prod (.int .i64) (.prod .bool (.prod (.int .i64) (.prod (.int .i64) (.prod (.slice (.int .u8)) .unit)))))) a0] (fun _ => none), rowsOf []⟩ (ending T Try.f83 an83 0 K) (fun _ _ => none) from by kernel_rfl) ?_
    rw [← S83_eq k, ← execS_eq T an83 (modesOf F) 0 k 21 (S83 k) (L83 k K) (bodyOf Try.f83) (cuts_of _ _ _ _ _ _ _ _ (bodyOf Try.f83) (l := [(0, sp83_0, cd83_0)]) (by kernel_rfl) ⟨l83_0 k K, trivial⟩)]
    exact q83 k a0 K
noncomputable def s83 (k : Nat) (a : List PV) (r : List RowS) (K : List PV → List RowS → Option R) : Option R := match a, r with
  | [.val [(0, 0)] (.slice (.prod (.int .i64) (.prod .bool (.prod (.int .i64) (.prod (.int .i64) (.prod (.slice (.int .u8)) .unit)))))) a0], [] => f83 k a0 (fun z0 => K [.val [] (.int .i64) z0] [])
  | a, r => callC T F k 83 a r K
theorem s83_eq (k : Nat) (a : List PV) (r : List RowS) (K : List PV → List RowS → Option R) : s83 k a r K = callC T F k 83 a r K := by
  unfold s83
  split
  · exact (e83 k _ K).symm
  · rfl
end
section
variable {R : Type}
noncomputable def S48 (k g : Nat) (a : List PV) (r : List RowS) (K : List PV → List RowS → Option R) : Option R := bif g == 35 then s35 k a r K else bif g == 41 then s41 k a r K else bif g == 70 then s70 k a r K else bif g == 75 then s75 k a r K else bif g == 83 then s83 k a r K else callC T F k g a r K
theorem S48_eq (k : Nat) : S48 (R := R) k = callC T F k := by
  funext g a r K
  exact pick_eq (fun e => by subst e; exact s35_eq k a r K) (pick_eq (fun e => by subst e; exact s41_eq k a r K) (pick_eq (fun e => by subst e; exact s70_eq k a r K) (pick_eq (fun e => by subst e; exact s75_eq k a r K) (pick_eq (fun e => by subst e; exact s83_eq k a r K) (rfl)))))
section
variable {R : Type} (k : Nat) (K : List PV → List RowS → Option R)
noncomputable def L48_0 (ws : List PV) (rs : List RowS) (N : St → Option R) (X : Nat → St → Option R) : Option R := match ws, rs with
  | [.val [] (.int .i64) v0_0, .val [] (.int .i64) v0_1, .val [] (.int .i64) v0_2, .val [] (.int .i64) v0_3, .rw 1, .rw 2, .val [(0, 0)] (.slice (.prod (.int .i64) (.prod .bool (.prod (.int .i64) (.prod (.int .i64) (.prod (.slice (.int .u8)) .unit)))))) v0_4, .val [] (.int .i64) v0_5, .val [] (.int .i64) v0_6], [⟨0, .arr [] (.int .u8) v0_7⟩, ⟨0, .arr [] (.int .i64) v0_8⟩] => f48_0 k (fun y0_4 y0_5 => N (sh jn48_0 [.val [] (.int .i64) v0_0, .val [] (.int .i64) v0_1, .val [] (.int .i64) v0_2, .val [] (.int .i64) v0_3, .rw 1, .rw 2] [⟨0, .arr [] (.int .u8) y0_4⟩, ⟨0, .arr [] (.int .i64) y0_5⟩])) v0_0 v0_1 v0_2 v0_3 v0_4 v0_5 k v0_6 v0_7 v0_8
  | ws, rs => inner T an48 (modesOf F) 0 k 152 (S48 k) (ending T Try.f48 an48 0 K) cd48_0 (sh sp48_0 ws rs) N X
noncomputable def L48_1000022 (ws : List PV) (rs : List RowS) (N : St → Option R) (X : Nat → St → Option R) : Option R := match ws, rs with
  | [.val [] (.int .i64) v22_0, .val [] (.int .i64) v22_1, .val [] (.int .i64) v22_2, .rw 1, .rw 2, .val [] (.int .i64) v22_3, .val [] (.int .i64) v22_4, .val [] .bool v22_5], [⟨0, .arr [] (.int .u8) v22_6⟩, ⟨0, .arr [] (.int .i64) v22_7⟩] => f48_1000022 k (fun yN_4 => N (sh fi48_22 [.val [] (.int .i64) v22_0, .val [] (.int .i64) v22_1, .val [] (.int .i64) v22_2, .rw 1, .rw 2, .val [] (.int .i64) v22_3, .val [] (.int .i64) yN_4] [⟨0, .arr [] (.int .u8) v22_6⟩, ⟨0, .arr [] (.int .i64) v22_7⟩])) v22_0 v22_1 v22_2 v22_3 v22_4 v22_5 v22_6 v22_7
  | ws, rs => inner T an48 (modesOf F) 0 k 152 (S48 k) (ending T Try.f48 an48 0 K) cd48_1000022 (sh sp48_1000022 ws rs) N X
noncomputable def L48_1000021 (ws : List PV) (rs : List RowS) (N : St → Option R) (X : Nat → St → Option R) : Option R := match ws, rs with
  | [.val [] (.int .i64) v21_0, .val [] (.int .i64) v21_1, .val [] (.int .i64) v21_2, .rw 1, .rw 2, .val [] (.int .i64) v21_3, .val [] (.int .i64) v21_4, .val [] .bool v21_5], [⟨0, .arr [] (.int .u8) v21_6⟩, ⟨0, .arr [] (.int .i64) v21_7⟩] => f48_1000021 k (fun yN_4 yN_5 => N (sh fi48_21 [.val [] (.int .i64) v21_0, .val [] (.int .i64) v21_1, .val [] (.int .i64) v21_2, .rw 1, .rw 2, .val [] (.int .i64) v21_3] [⟨0, .arr [] (.int .u8) yN_4⟩, ⟨0, .arr [] (.int .i64) yN_5⟩])) v21_0 v21_1 v21_2 v21_3 v21_4 v21_5 v21_6 v21_7
  | ws, rs => inner T an48 (modesOf F) 0 k 152 (S48 k) (ending T Try.f48 an48 0 K) cd48_1000021 (sh sp48_1000021 ws rs) N X
noncomputable def L48_1000035 (ws : List PV) (rs : List RowS) (N : St → Option R) (X : Nat → St → Option R) : Option R := match ws, rs with
  | [.val [] (.int .i64) v35_0, .val [] (.int .i64) v35_1, .val [] (.int .i64) v35_2, .rw 1, .rw 2, .val [] (.int .i64) v35_3, .rw 3, .val [] (.int .i64) v35_4, .ptr 4 0, .val [] (.int .i64) v35_5, .val [] (.int .i64) v35_6, .val [] .bool v35_7], [⟨0, .arr [] (.int .u8) v35_8⟩, ⟨0, .arr [] (.int .i64) v35_9⟩, ⟨0, .arr [] (.prod (.int .i64) (.prod (.int .i64) (.prod (.int .i64) (.prod (.int .i64) (.prod (.slice (.int .u8)) .unit))))) v35_10⟩, ⟨0, .vars [.val [] (.int .i64) v35_11, .val [] (.int .i64) v35_12, .val [] (.int .i64) v35_13, .val [] (.int .i64) v35_14, .rw 5]⟩, ⟨0, .arr [] (.int .u8) v35_15⟩] => f48_1000035 k (fun yN_13 => N (sh fi48_35 [.val [] (.int .i64) v35_0, .val [] (.int .i64) v35_1, .val [] (.int .i64) v35_2, .rw 1, .rw 2, .val [] (.int .i64) v35_3, .rw 3, .val [] (.int .i64) v35_4, .ptr 4 0, .val [] (.int .i64) v35_5, .val [] (.int .i64) v35_6] [⟨0, .arr [] (.int .u8) v35_8⟩, ⟨0, .arr [] (.int .i64) v35_9⟩, ⟨0, .arr [] (.prod (.int .i64) (.prod (.int .i64) (.prod (.int .i64) (.prod (.int .i64) (.prod (.slice (.int .u8)) .unit))))) v35_10⟩, ⟨0, .vars [.val [] (.int .i64) v35_11, .val [] (.int .i64) v35_12, .val [] (.int .i64) v35_13, .val [] (.int .i64) yN_13, .rw 5]⟩, ⟨0, .arr [] (.int .u8) v35_15⟩])) v35_0 v35_1 v35_2 v35_3 v35_4 v35_5 v35_6 v35_7 v35_8 v35_9 v35_10 v35_11 v35_12 v35_13 v35_14 v35_15
  | ws, rs => inner T an48 (modesOf F) 0 k 152 (S48 k) (ending T Try.f48 an48 0 K) cd48_1000035 (sh sp48_1000035 ws rs) N X
noncomputable def L48_4 (ws : List PV) (rs : List RowS) (N : St → Option R) (X : Nat → St → Option R) : Option R := match ws, rs with
  | [.val [] (.int .i64) v4_0, .val [] (.int .i64) v4_1, .val [] (.int .i64) v4_2, .rw 1, .rw 2, .val [] (.int .i64) v4_3, .rw 3, .val [] (.int .i64) v4_4, .ptr 4 0, .val [] (.int .i64) v4_5, .val [] (.int .i64) v4_6], [⟨0, .arr [] (.int .u8) v4_7⟩, ⟨0, .arr [] (.int .i64) v4_8⟩, ⟨0, .arr [] (.prod (.int .i64) (.prod (.int .i64) (.prod (.int .i64) (.prod (.int .i64) (.prod (.slice (.int .u8)) .unit))))) v4_9⟩, ⟨0, .vars [.val [] (.int .i64) v4_10, .val [] (.int .i64) v4_11, .val [] (.int .i64) v4_12, .val [] (.int .i64) v4_13, .rw 5]⟩, ⟨0, .arr [] (.int .u8) v4_14⟩] => f48_4 k (fun y4_7 y4_12 => N (sh jn48_4 [.val [] (.int .i64) v4_0, .val [] (.int .i64) v4_1, .val [] (.int .i64) v4_2, .rw 1, .rw 2, .val [] (.int .i64) v4_3, .rw 3, .ptr 4 0, .val [] (.int .i64) v4_5, .val [] (.int .i64) v4_6] [⟨0, .arr [] (.int .u8) v4_7⟩, ⟨0, .arr [] (.int .i64) y4_7⟩, ⟨0, .arr [] (.prod (.int .i64) (.prod (.int .i64) (.prod (.int .i64) (.prod (.int .i64) (.prod (.slice (.int .u8)) .unit))))) v4_9⟩, ⟨0, .vars [.val [] (.int .i64) v4_10, .val [] (.int .i64) v4_11, .val [] (.int .i64) v4_12, .val [] (.int .i64) y4_12, .rw 5]⟩, ⟨0, .arr [] (.int .u8) v4_14⟩])) v4_0 v4_1 v4_2 v4_3 v4_4 v4_5 v4_6 v4_7 v4_9 v4_10 v4_11 v4_12 v4_14 k v4_8 v4_13
  | ws, rs => inner T an48 (modesOf F) 0 k 152 (S48 k) (ending T Try.f48 an48 0 K) cd48_4 (sh sp48_4 ws rs) N X
noncomputable def L48_2 (ws : List PV) (rs : List RowS) (N : St → Option R) (X : Nat → St → Option R) : Option R := match ws, rs with
  | [.val [] (.int .i64) v2_0, .val [] (.int .i64) v2_1, .val [] (.int .i64) v2_2, .rw 1, .rw 2, .val [] (.int .i64) v2_3, .rw 3, .val [] (.int .i64) v2_4, .val [] (.int .i64) v2_5], [⟨0, .arr [] (.int .u8) v2_6⟩, ⟨0, .arr [] (.int .i64) v2_7⟩, ⟨0, .arr [] (.prod (.int .i64) (.prod (.int .i64) (.prod (.int .i64) (.prod (.int .i64) (.prod (.slice (.int .u8)) .unit))))) v2_8⟩] => f48_2 k (fun y2_0 => N (sh jn48_2 [.rw 1] [⟨0, .arr [] (.prod (.int .i64) (.prod (.int .i64) (.prod (.int .i64) (.prod (.int .i64) (.prod (.slice (.int .u8)) .unit))))) y2_0⟩])) v2_0 v2_1 v2_2 v2_3 v2_4 v2_6 k v2_5 v2_7 v2_8
  | ws, rs => inner T an48 (modesOf F) 0 k 152 (S48 k) (ending T Try.f48 an48 0 K) cd48_2 (sh sp48_2 ws rs) N X
noncomputable def L48 (id : Nat) (ws : List PV) (rs : List RowS) (N : St → Option R) (X : Nat → St → Option R) : Option R := bif id == 0 then L48_0 k K ws rs N X else bif id == 1000022 then L48_1000022 k K ws rs N X else bif id == 1000021 then L48_1000021 k K ws rs N X else bif id == 1000035 then L48_1000035 k K ws rs N X else bif id == 4 then L48_4 k K ws rs N X else bif id == 2 then L48_2 k K ws rs N X else none
theorem b48_0 (rec : St → Option R) (N : St → Option R) (X : Nat → St → Option R) (v0_0 : Int) (v0_1 : Int) (v0_2 : Int) (v0_3 : Int) (v0_4 : List ((Int × (Bool × (Int × (Int × (List Int × Unit))))))) (v0_5 : Int) (v0_6 : Int) (v0_7 : List Int) (v0_8 : List Int) :
    execS T an48 (modesOf F) 0 k 152 (S48 k) (L48 k K) (ending T Try.f48 an48 0 K) bd48_0 (sh sp48_0 [.val [] (.int .i64) v0_0, .val [] (.int .i64) v0_1, .val [] (.int .i64) v0_2, .val [] (.int .i64) v0_3, .rw 1, .rw 2, .val [(0, 0)] (.slice (.prod (.int .i64) (.prod .bool (.prod (.int .i64) (.prod (.int .i64) (.prod (.slice (.int .u8)) .unit)))))) v0_4, .val [] (.int .i64) v0_5, .val [] (.int .i64) v0_6] [⟨0, .arr [] (.int .u8) v0_7⟩, ⟨0, .arr [] (.int .i64) v0_8⟩]) (fun st => atHead an48 0 bd48_0 st rec) (outX an48 0 0 N X) =
      f48_0b k (fun v0_6 v0_7 v0_8 => rec (sh sp48_0 [.val [] (.int .i64) v0_0, .val [] (.int .i64) v0_1, .val [] (.int .i64) v0_2, .val [] (.int .i64) v0_3, .rw 1, .rw 2, .val [(0, 0)] (.slice (.prod (.int .i64) (.prod .bool (.prod (.int .i64) (.prod (.int .i64) (.prod (.slice (.int .u8)) .unit)))))) v0_4, .val [] (.int .i64) v0_5, .val [] (.int .i64) v0_6] [⟨0, .arr [] (.int .u8) v0_7⟩, ⟨0, .arr [] (.int .i64) v0_8⟩])) (fun y0_4 y0_5 => N (sh jn48_0 [.val [] (.int .i64) v0_0, .val [] (.int .i64) v0_1, .val [] (.int .i64) v0_2, .val [] (.int .i64) v0_3, .rw 1, .rw 2] [⟨0, .arr [] (.int .u8) y0_4⟩, ⟨0, .arr [] (.int .i64) y0_5⟩])) v0_0 v0_1 v0_2 v0_3 v0_4 v0_5 v0_6 v0_7 v0_8 := by kernel_rfl
theorem i48_0 (N : St → Option R) (X : Nat → St → Option R) (v0_0 : Int) (v0_1 : Int) (v0_2 : Int) (v0_3 : Int) (v0_4 : List ((Int × (Bool × (Int × (Int × (List Int × Unit))))))) (v0_5 : Int) (m : Nat) : ∀ (v0_6 : Int) (v0_7 : List Int) (v0_8 : List Int),
    iter (atHead an48 0 bd48_0) m (fun st N' => exec T an48 (modesOf F) 0 k 152 (S48 k) (ending T Try.f48 an48 0 K) bd48_0 st N' (outX an48 0 0 N X)) (sh sp48_0 [.val [] (.int .i64) v0_0, .val [] (.int .i64) v0_1, .val [] (.int .i64) v0_2, .val [] (.int .i64) v0_3, .rw 1, .rw 2, .val [(0, 0)] (.slice (.prod (.int .i64) (.prod .bool (.prod (.int .i64) (.prod (.int .i64) (.prod (.slice (.int .u8)) .unit)))))) v0_4, .val [] (.int .i64) v0_5, .val [] (.int .i64) v0_6] [⟨0, .arr [] (.int .u8) v0_7⟩, ⟨0, .arr [] (.int .i64) v0_8⟩]) = f48_0d k (fun y0_4 y0_5 => N (sh jn48_0 [.val [] (.int .i64) v0_0, .val [] (.int .i64) v0_1, .val [] (.int .i64) v0_2, .val [] (.int .i64) v0_3, .rw 1, .rw 2] [⟨0, .arr [] (.int .u8) y0_4⟩, ⟨0, .arr [] (.int .i64) y0_5⟩])) v0_0 v0_1 v0_2 v0_3 v0_4 v0_5 m v0_6 v0_7 v0_8 := by
  induction m with
  | zero => intros; rfl
  | succ m ih =>
    intro v0_6 v0_7 v0_8
    simp only [iter]
    rw [← execS_eq T an48 (modesOf F) 0 k 152 (S48 k) (L48 k K) bd48_0 (cuts_of _ _ _ _ _ _ _ _ bd48_0 (l := []) (by kernel_rfl) trivial)]
    refine (b48_0 k K _ N X v0_0 v0_1 v0_2 v0_3 v0_4 v0_5 v0_6 v0_7 v0_8).trans ?_
    simp only [f48_0d, ih]
theorem l48_0 (ws : List PV) (rs : List RowS) (N : St → Option R) (X : Nat → St → Option R) : L48 k K 0 ws rs N X = inner T an48 (modesOf F) 0 k 152 (S48 k) (ending T Try.f48 an48 0 K) cd48_0 (sh sp48_0 ws rs) N X := by
  show L48_0 k K ws rs N X = _
  unfold L48_0
  split
  rotate_left
  · rfl
  rename_i v0_0 v0_1 v0_2 v0_3 v0_4 v0_5 v0_6 v0_7 v0_8
  rw [f48_0_def]
  refine Eq.trans ?_ (show iter (atHead an48 0 bd48_0) k (fun st N' => exec T an48 (modesOf F) 0 k 152 (S48 k) (ending T Try.f48 an48 0 K) bd48_0 st N' (outX an48 0 0 N X)) (sh sp48_0 [.val [] (.int .i64) v0_0, .val [] (.int .i64) v0_1, .val [] (.int .i64) v0_2, .val [] (.int .i64) v0_3, .rw 1, .rw 2, .val [(0, 0)] (.slice (.prod (.int .i64) (.prod .bool (.prod (.int .i64) (.prod (.int .i64) (.prod (.slice (.int .u8)) .unit)))))) v0_4, .val [] (.int .i64) v0_5, .val [] (.int .i64) v0_6] [⟨0, .arr [] (.int .u8) v0_7⟩, ⟨0, .arr [] (.int .i64) v0_8⟩]) = _ from by kernel_rfl)
  exact (i48_0 k K N X v0_0 v0_1 v0_2 v0_3 v0_4 v0_5 k v0_6 v0_7 v0_8).symm
theorem b48_1000022 (N : St → Option R) (X : Nat → St → Option R) (v22_0 : Int) (v22_1 : Int) (v22_2 : Int) (v22_3 : Int) (v22_4 : Int) (v22_5 : Bool) (v22_6 : List Int) (v22_7 : List Int) :
    innerS T an48 (modesOf F) 0 k 152 (S48 k) (L48 k K) (ending T Try.f48 an48 0 K) cd48_1000022 (sh sp48_1000022 [.val [] (.int .i64) v22_0, .val [] (.int .i64) v22_1, .val [] (.int .i64) v22_2, .rw 1, .rw 2, .val [] (.int .i64) v22_3, .val [] (.int .i64) v22_4, .val [] .bool v22_5] [⟨0, .arr [] (.int .u8) v22_6⟩, ⟨0, .arr [] (.int .i64) v22_7⟩]) N X = f48_1000022d k (fun yN_4 => N (sh fi48_22 [.val [] (.int .i64) v22_0, .val [] (.int .i64) v22_1, .val [] (.int .i64) v22_2, .rw 1, .rw 2, .val [] (.int .i64) v22_3, .val [] (.int .i64) yN_4] [⟨0, .arr [] (.int .u8) v22_6⟩, ⟨0, .arr [] (.int .i64) v22_7⟩])) v22_0 v22_1 v22_2 v22_3 v22_4 v22_5 v22_6 v22_7 := by kernel_rfl
theorem l48_1000022 (ws : List PV) (rs : List RowS) (N : St → Option R) (X : Nat → St → Option R) : L48 k K 1000022 ws rs N X = inner T an48 (modesOf F) 0 k 152 (S48 k) (ending T Try.f48 an48 0 K) cd48_1000022 (sh sp48_1000022 ws rs) N X := by
  show L48_1000022 k K ws rs N X = _
  unfold L48_1000022
  split
  rotate_left
  · rfl
  rename_i v22_0 v22_1 v22_2 v22_3 v22_4 v22_5 v22_6 v22_7
  rw [f48_1000022_def]
  exact ((innerS_eq T an48 (modesOf F) 0 k 152 (S48 k) (L48 k K) cd48_1000022 (l := []) (by kernel_rfl) trivial _ N X).symm.trans (b48_1000022 k K N X v22_0 v22_1 v22_2 v22_3 v22_4 v22_5 v22_6 v22_7)).symm
theorem b48_1000021 (N : St → Option R) (X : Nat → St → Option R) (v21_0 : Int) (v21_1 : Int) (v21_2 : Int) (v21_3 : Int) (v21_4 : Int) (v21_5 : Bool) (v21_6 : List Int) (v21_7 : List Int) :
    innerS T an48 (modesOf F) 0 k 152 (S48 k) (L48 k K) (ending T Try.f48 an48 0 K) cd48_1000021 (sh sp48_1000021 [.val [] (.int .i64) v21_0, .val [] (.int .i64) v21_1, .val [] (.int .i64) v21_2, .rw 1, .rw 2, .val [] (.int .i64) v21_3, .val [] (.int .i64) v21_4, .val [] .bool v21_5] [⟨0, .arr [] (.int .u8) v21_6⟩, ⟨0, .arr [] (.int .i64) v21_7⟩]) N X = f48_1000021d k (fun yN_4 yN_5 => N (sh fi48_21 [.val [] (.int .i64) v21_0, .val [] (.int .i64) v21_1, .val [] (.int .i64) v21_2, .rw 1, .rw 2, .val [] (.int .i64) v21_3] [⟨0, .arr [] (.int .u8) yN_4⟩, ⟨0, .arr [] (.int .i64) yN_5⟩])) v21_0 v21_1 v21_2 v21_3 v21_4 v21_5 v21_6 v21_7 := by kernel_rfl
theorem l48_1000021 (ws : List PV) (rs : List RowS) (N : St → Option R) (X : Nat → St → Option R) : L48 k K 1000021 ws rs N X = inner T an48 (modesOf F) 0 k 152 (S48 k) (ending T Try.f48 an48 0 K) cd48_1000021 (sh sp48_1000021 ws rs) N X := by
  show L48_1000021 k K ws rs N X = _
  unfold L48_1000021
  split
  rotate_left
  · rfl
  rename_i v21_0 v21_1 v21_2 v21_3 v21_4 v21_5 v21_6 v21_7
  rw [f48_1000021_def]
  exact ((innerS_eq T an48 (modesOf F) 0 k 152 (S48 k) (L48 k K) cd48_1000021 (l := [(1000022, sp48_1000022, cd48_1000022)]) (by kernel_rfl) ⟨l48_1000022 k K, trivial⟩ _ N X).symm.trans (b48_1000021 k K N X v21_0 v21_1 v21_2 v21_3 v21_4 v21_5 v21_6 v21_7)).symm
theorem b48_1000035 (N : St → Option R) (X : Nat → St → Option R) (v35_0 : Int) (v35_1 : Int) (v35_2 : Int) (v35_3 : Int) (v35_4 : Int) (v35_5 : Int) (v35_6 : Int) (v35_7 : Bool) (v35_8 : List Int) (v35_9 : List Int) (v35_10 : List (Int × (Int × (Int × (Int × (List Int × Unit)))))) (v35_11 : Int) (v35_12 : Int) (v35_13 : Int) (v35_14 : Int) (v35_15 : List Int) :
    innerS T an48 (modesOf F) 0 k 152 (S48 k) (L48 k K) (ending T Try.f48 an48 0 K) cd48_1000035 (sh sp48_1000035 [.val [] (.int .i64) v35_0, .val [] (.int .i64) v35_1, .val [] (.int .i64) v35_2, .rw 1, .rw 2, .val [] (.int .i64) v35_3, .rw 3, .val [] (.int .i64) v35_4, .ptr 4 0, .val [] (.int .i64) v35_5, .val [] (.int .i64) v35_6, .val [] .bool v35_7] [⟨0, .arr [] (.int .u8) v35_8⟩, ⟨0, .arr [] (.int .i64) v35_9⟩, ⟨0, .arr [] (.prod (.int .i64) (.prod (.int .i64) (.prod (.int .i64) (.prod (.int .i64) (.prod (.slice (.int .u8)) .unit))))) v35_10⟩, ⟨0, .vars [.val [] (.int .i64) v35_11, .val [] (.int .i64) v35_12, .val [] (.int .i64) v35_13, .val [] (.int .i64) v35_14, .rw 5]⟩, ⟨0, .arr [] (.int .u8) v35_15⟩]) N X = f48_1000035d k (fun yN_13 => N (sh fi48_35 [.val [] (.int .i64) v35_0, .val [] (.int .i64) v35_1, .val [] (.int .i64) v35_2, .rw 1, .rw 2, .val [] (.int .i64) v35_3, .rw 3, .val [] (.int .i64) v35_4, .ptr 4 0, .val [] (.int .i64) v35_5, .val [] (.int .i64) v35_6] [⟨0, .arr [] (.int .u8) v35_8⟩, ⟨0, .arr [] (.int .i64) v35_9⟩, ⟨0, .arr [] (.prod (.int .i64) (.prod (.int .i64) (.prod (.int .i64) (.prod (.int .i64) (.prod (.slice (.int .u8)) .unit))))) v35_10⟩, ⟨0, .vars [.val [] (.int .i64) v35_11, .val [] (.int .i64) v35_12, .val [] (.int .i64) v35_13, .val [] (.int .i64) yN_13, .rw 5]⟩, ⟨0, .arr [] (.int .u8) v35_15⟩])) v35_0 v35_1 v35_2 v35_3 v35_4 v35_5 v35_6 v35_7 v35_8 v35_9 v35_10 v35_11 v35_12 v35_13 v35_14 v35_15 := by kernel_rfl
theorem l48_1000035 (ws : List PV) (rs : List RowS) (N : St → Option R) (X : Nat → St → Option R) : L48 k K 1000035 ws rs N X = inner T an48 (modesOf F) 0 k 152 (S48 k) (ending T Try.f48 an48 0 K) cd48_1000035 (sh sp48_1000035 ws rs) N X := by
  show L48_1000035 k K ws rs N X = _
  unfold L48_1000035
  split
  rotate_left
  · rfl
  rename_i v35_0 v35_1 v35_2 v35_3 v35_4 v35_5 v35_6 v35_7 v35_8 v35_9 v35_10 v35_11 v35_12 v35_13 v35_14 v35_15
  rw [f48_1000035_def]
  exact ((innerS_eq T an48 (modesOf F) 0 k 152 (S48 k) (L48 k K) cd48_1000035 (l := []) (by kernel_rfl) trivial _ N X).symm.trans (b48_1000035 k K N X v35_0 v35_1 v35_2 v35_3 v35_4 v35_5 v35_6 v35_7 v35_8 v35_9 v35_10 v35_11 v35_12 v35_13 v35_14 v35_15)).symm
theorem b48_4 (rec : St → Option R) (N : St → Option R) (X : Nat → St → Option R) (v4_0 : Int) (v4_1 : Int) (v4_2 : Int) (v4_3 : Int) (v4_4 : Int) (v4_5 : Int) (v4_6 : Int) (v4_7 : List Int) (v4_9 : List (Int × (Int × (Int × (Int × (List Int × Unit)))))) (v4_10 : Int) (v4_11 : Int) (v4_12 : Int) (v4_14 : List Int) (v4_8 : List Int) (v4_13 : Int) :
    execS T an48 (modesOf F) 0 k 152 (S48 k) (L48 k K) (ending T Try.f48 an48 0 K) bd48_4 (sh sp48_4 [.val [] (.int .i64) v4_0, .val [] (.int .i64) v4_1, .val [] (.int .i64) v4_2, .rw 1, .rw 2, .val [] (.int .i64) v4_3, .rw 3, .val [] (.int .i64) v4_4, .ptr 4 0, .val [] (.int .i64) v4_5, .val [] (.int .i64) v4_6] [⟨0, .arr [] (.int .u8) v4_7⟩, ⟨0, .arr [] (.int .i64) v4_8⟩, ⟨0, .arr [] (.prod (.int .i64) (.prod (.int .i64) (.prod (.int .i64) (.prod (.int .i64) (.prod (.slice (.int .u8)) .unit))))) v4_9⟩, ⟨0, .vars [.val [] (.int .i64) v4_10, .val [] (.int .i64) v4_11, .val [] (.int .i64) v4_12, .val [] (.int .i64) v4_13, .rw 5]⟩, ⟨0, .arr [] (.int .u8) v4_14⟩]) (fun st => atHead an48 0 bd48_4 st rec) (outX an48 0 4 N X) =
      f48_4b k (fun v4_8 v4_13 => rec (sh sp48_4 [.val [] (.int .i64) v4_0, .val [] (.int .i64) v4_1, .val [] (.int .i64) v4_2, .rw 1, .rw 2, .val [] (.int .i64) v4_3, .rw 3, .val [] (.int .i64) v4_4, .ptr 4 0, .val [] (.int .i64) v4_5, .val [] (.int .i64) v4_6] [⟨0, .arr [] (.int .u8) v4_7⟩, ⟨0, .arr [] (.int .i64) v4_8⟩, ⟨0, .arr [] (.prod (.int .i64) (.prod (.int .i64) (.prod (.int .i64) (.prod (.int .i64) (.prod (.slice (.int .u8)) .unit))))) v4_9⟩, ⟨0, .vars [.val [] (.int .i64) v4_10, .val [] (.int .i64) v4_11, .val [] (.int .i64) v4_12, .val [] (.int .i64) v4_13, .rw 5]⟩, ⟨0, .arr [] (.int .u8) v4_14⟩])) (fun y4_7 y4_12 => N (sh jn48_4 [.val [] (.int .i64) v4_0, .val [] (.int .i64) v4_1, .val [] (.int .i64) v4_2, .rw 1, .rw 2, .val [] (.int .i64) v4_3, .rw 3, .ptr 4 0, .val [] (.int .i64) v4_5, .val [] (.int .i64) v4_6] [⟨0, .arr [] (.int .u8) v4_7⟩, ⟨0, .arr [] (.int .i64) y4_7⟩, ⟨0, .arr [] (.prod (.int .i64) (.prod (.int .i64) (.prod (.int .i64) (.prod (.int .i64) (.prod (.slice (.int .u8)) .unit))))) v4_9⟩, ⟨0, .vars [.val [] (.int .i64) v4_10, .val [] (.int .i64) v4_11, .val [] (.int .i64) v4_12, .val [] (.int .i64) y4_12, .rw 5]⟩, ⟨0, .arr [] (.int .u8) v4_14⟩])) v4_0 v4_1 v4_2 v4_3 v4_4 v4_5 v4_6 v4_7 v4_9 v4_10 v4_11 v4_12 v4_14 v4_8 v4_13 := by kernel_rfl
theorem i48_4 (N : St → Option R) (X : Nat → St → Option R) (v4_0 : Int) (v4_1 : Int) (v4_2 : Int) (v4_3 : Int) (v4_4 : Int) (v4_5 : Int) (v4_6 : Int) (v4_7 : List Int) (v4_9 : List (Int × (Int × (Int × (Int × (List Int × Unit)))))) (v4_10 : Int) (v4_11 : Int) (v4_12 : Int) (v4_14 : List Int) (m : Nat) : ∀ (v4_8 : List Int) (v4_13 : Int),
    iter (atHead an48 0 bd48_4) m (fun st N' => exec T an48 (modesOf F) 0 k 152 (S48 k) (ending T Try.f48 an48 0 K) bd48_4 st N' (outX an48 0 4 N X)) (sh sp48_4 [.val [] (.int .i64) v4_0, .val [] (.int .i64) v4_1, .val [] (.int .i64) v4_2, .rw 1, .rw 2, .val [] (.int .i64) v4_3, .rw 3, .val [] (.int .i64) v4_4, .ptr 4 0, .val [] (.int .i64) v4_5, .val [] (.int .i64) v4_6] [⟨0, .arr [] (.int .u8) v4_7⟩, ⟨0, .arr [] (.int .i64) v4_8⟩, ⟨0, .arr [] (.prod (.int .i64) (.prod (.int .i64) (.prod (.int .i64) (.prod (.int .i64) (.prod (.slice (.int .u8)) .unit))))) v4_9⟩, ⟨0, .vars [.val [] (.int .i64) v4_10, .val [] (.int .i64) v4_11, .val [] (.int .i64) v4_12, .val [] (.int .i64) v4_13, .rw 5]⟩, ⟨0, .arr [] (.int .u8) v4_14⟩]) = f48_4d k (fun y4_7 y4_12 => N (sh jn48_4 [.val [] (.int .i64) v4_0, .val [] (.int .i64) v4_1, .val [] (.int .i64) v4_2, .rw 1, .rw 2, .val [] (.int .i64) v4_3, .rw 3, .ptr 4 0, .val [] (.int .i64) v4_5, .val [] (.int .i64) v4_6] [⟨0, .arr [] (.int .u8) v4_7⟩, ⟨0, .arr [] (.int .i64) y4_7⟩, ⟨0, .arr [] (.prod (.int .i64) (.prod (.int .i64) (.prod (.int .i64) (.prod (.int .i64) (.prod (.slice (.int .u8)) .unit))))) v4_9⟩, ⟨0, .vars [.val [] (.int .i64) v4_10, .val [] (.int .i64) v4_11, .val [] (.int .i64) v4_12, .val [] (.int .i64) y4_12, .rw 5]⟩, ⟨0, .arr [] (.int .u8) v4_14⟩])) v4_0 v4_1 v4_2 v4_3 v4_4 v4_5 v4_6 v4_7 v4_9 v4_10 v4_11 v4_12 v4_14 m v4_8 v4_13 := by
  induction m with
  | zero => intros; rfl
  | succ m ih =>
    intro v4_8 v4_13
    simp only [iter]
    rw [← execS_eq T an48 (modesOf F) 0 k 152 (S48 k) (L48 k K) bd48_4 (cuts_of _ _ _ _ _ _ _ _ bd48_4 (l := [(1000035, sp48_1000035, cd48_1000035)]) (by kernel_rfl) ⟨l48_1000035 k K, trivial⟩)]
    refine (b48_4 k K _ N X v4_0 v4_1 v4_2 v4_3 v4_4 v4_5 v4_6 v4_7 v4_9 v4_10 v4_11 v4_12 v4_14 v4_8 v4_13).trans ?_
    simp only [f48_4d, ih]
theorem l48_4 (ws : List PV) (rs : List RowS) (N : St → Option R) (X : Nat → St → Option R) : L48 k K 4 ws rs N X = inner T an48 (modesOf F) 0 k 152 (S48 k) (ending T Try.f48 an48 0 K) cd48_4 (sh sp48_4 ws rs) N X := by
  show L48_4 k K ws rs N X = _
  unfold L48_4
  split
  rotate_left
  · rfl
  rename_i v4_0 v4_1 v4_2 v4_3 v4_4 v4_5 v4_6 v4_7 v4_8 v4_9 v4_10 v4_11 v4_12 v4_13 v4_14
  rw [f48_4_def]
  refine Eq.trans ?_ (show iter (atHead an48 0 bd48_4) k (fun st N' => exec T an48 (modesOf F) 0 k 152 (S48 k) (ending T Try.f48 an48 0 K) bd48_4 st N' (outX an48 0 4 N X)) (sh sp48_4 [.val [] (.int .i64) v4_0, .val [] (.int .i64) v4_1, .val [] (.int .i64) v4_2, .rw 1, .rw 2, .val [] (.int .i64) v4_3, .rw 3, .val [] (.int .i64) v4_4, .ptr 4 0, .val [] (.int .i64) v4_5, .val [] (.int .i64) v4_6] [⟨0, .arr [] (.int .u8) v4_7⟩, ⟨0, .arr [] (.int .i64) v4_8⟩, ⟨0, .arr [] (.prod (.int .i64) (.prod (.int .i64) (.prod (.int .i64) (.prod (.int .i64) (.prod (.slice (.int .u8)) .unit))))) v4_9⟩, ⟨0, .vars [.val [] (.int .i64) v4_10, .val [] (.int .i64) v4_11, .val [] (.int .i64) v4_12, .val [] (.int .i64) v4_13, .rw 5]⟩, ⟨0, .arr [] (.int .u8) v4_14⟩]) = _ from by kernel_rfl)
  exact (i48_4 k K N X v4_0 v4_1 v4_2 v4_3 v4_4 v4_5 v4_6 v4_7 v4_9 v4_10 v4_11 v4_12 v4_14 k v4_8 v4_13).symm
theorem b48_2 (rec : St → Option R) (N : St → Option R) (X : Nat → St → Option R) (v2_0 : Int) (v2_1 : Int) (v2_2 : Int) (v2_3 : Int) (v2_4 : Int) (v2_6 : List Int) (v2_5 : Int) (v2_7 : List Int) (v2_8 : List (Int × (Int × (Int × (Int × (List Int × Unit)))))) :
    execS T an48 (modesOf F) 0 k 152 (S48 k) (L48 k K) (ending T Try.f48 an48 0 K) bd48_2 (sh sp48_2 [.val [] (.int .i64) v2_0, .val [] (.int .i64) v2_1, .val [] (.int .i64) v2_2, .rw 1, .rw 2, .val [] (.int .i64) v2_3, .rw 3, .val [] (.int .i64) v2_4, .val [] (.int .i64) v2_5] [⟨0, .arr [] (.int .u8) v2_6⟩, ⟨0, .arr [] (.int .i64) v2_7⟩, ⟨0, .arr [] (.prod (.int .i64) (.prod (.int .i64) (.prod (.int .i64) (.prod (.int .i64) (.prod (.slice (.int .u8)) .unit))))) v2_8⟩]) (fun st => atHead an48 0 bd48_2 st rec) (outX an48 0 2 N X) =
      f48_2b k (fun v2_5 v2_7 v2_8 => rec (sh sp48_2 [.val [] (.int .i64) v2_0, .val [] (.int .i64) v2_1, .val [] (.int .i64) v2_2, .rw 1, .rw 2, .val [] (.int .i64) v2_3, .rw 3, .val [] (.int .i64) v2_4, .val [] (.int .i64) v2_5] [⟨0, .arr [] (.int .u8) v2_6⟩, ⟨0, .arr [] (.int .i64) v2_7⟩, ⟨0, .arr [] (.prod (.int .i64) (.prod (.int .i64) (.prod (.int .i64) (.prod (.int .i64) (.prod (.slice (.int .u8)) .unit))))) v2_8⟩])) (fun y2_0 => N (sh jn48_2 [.rw 1] [⟨0, .arr [] (.prod (.int .i64) (.prod (.int .i64) (.prod (.int .i64) (.prod (.int .i64) (.prod (.slice (.int .u8)) .unit))))) y2_0⟩])) v2_0 v2_1 v2_2 v2_3 v2_4 v2_6 v2_5 v2_7 v2_8 := by kernel_rfl
theorem i48_2 (N : St → Option R) (X : Nat → St → Option R) (v2_0 : Int) (v2_1 : Int) (v2_2 : Int) (v2_3 : Int) (v2_4 : Int) (v2_6 : List Int) (m : Nat) : ∀ (v2_5 : Int) (v2_7 : List Int) (v2_8 : List (Int × (Int × (Int × (Int × (List Int × Unit)))))),
    iter (atHead an48 0 bd48_2) m (fun st N' => exec T an48 (modesOf F) 0 k 152 (S48 k) (ending T Try.f48 an48 0 K) bd48_2 st N' (outX an48 0 2 N X)) (sh sp48_2 [.val [] (.int .i64) v2_0, .val [] (.int .i64) v2_1, .val [] (.int .i64) v2_2, .rw 1, .rw 2, .val [] (.int .i64) v2_3, .rw 3, .val [] (.int .i64) v2_4, .val [] (.int .i64) v2_5] [⟨0, .arr [] (.int .u8) v2_6⟩, ⟨0, .arr [] (.int .i64) v2_7⟩, ⟨0, .arr [] (.prod (.int .i64) (.prod (.int .i64) (.prod (.int .i64) (.prod (.int .i64) (.prod (.slice (.int .u8)) .unit))))) v2_8⟩]) = f48_2d k (fun y2_0 => N (sh jn48_2 [.rw 1] [⟨0, .arr [] (.prod (.int .i64) (.prod (.int .i64) (.prod (.int .i64) (.prod (.int .i64) (.prod (.slice (.int .u8)) .unit))))) y2_0⟩])) v2_0 v2_1 v2_2 v2_3 v2_4 v2_6 m v2_5 v2_7 v2_8 := by
  induction m with
  | zero => intros; rfl
  | succ m ih =>
    intro v2_5 v2_7 v2_8
    simp only [iter]
    rw [← execS_eq T an48 (modesOf F) 0 k 152 (S48 k) (L48 k K) bd48_2 (cuts_of _ _ _ _ _ _ _ _ bd48_2 (l := [(4, sp48_4, cd48_4)]) (by kernel_rfl) ⟨l48_4 k K, trivial⟩)]
    refine (b48_2 k K _ N X v2_0 v2_1 v2_2 v2_3 v2_4 v2_6 v2_5 v2_7 v2_8).trans ?_
    simp only [f48_2d, ih]
theorem l48_2 (ws : List PV) (rs : List RowS) (N : St → Option R) (X : Nat → St → Option R) : L48 k K 2 ws rs N X = inner T an48 (modesOf F) 0 k 152 (S48 k) (ending T Try.f48 an48 0 K) cd48_2 (sh sp48_2 ws rs) N X := by
  show L48_2 k K ws rs N X = _
  unfold L48_2
  split
  rotate_left
  · rfl
  rename_i v2_0 v2_1 v2_2 v2_3 v2_4 v2_5 v2_6 v2_7 v2_8
  rw [f48_2_def]
  refine Eq.trans ?_ (show iter (atHead an48 0 bd48_2) k (fun st N' => exec T an48 (modesOf F) 0 k 152 (S48 k) (ending T Try.f48 an48 0 K) bd48_2 st N' (outX an48 0 2 N X)) (sh sp48_2 [.val [] (.int .i64) v2_0, .val [] (.int .i64) v2_1, .val [] (.int .i64) v2_2, .rw 1, .rw 2, .val [] (.int .i64) v2_3, .rw 3, .val [] (.int .i64) v2_4, .val [] (.int .i64) v2_5] [⟨0, .arr [] (.int .u8) v2_6⟩, ⟨0, .arr [] (.int .i64) v2_7⟩, ⟨0, .arr [] (.prod (.int .i64) (.prod (.int .i64) (.prod (.int .i64) (.prod (.int .i64) (.prod (.slice (.int .u8)) .unit))))) v2_8⟩]) = _ from by kernel_rfl)
  exact (i48_2 k K N X v2_0 v2_1 v2_2 v2_3 v2_4 v2_6 k v2_5 v2_7 v2_8).symm
end
theorem q48 (k : Nat) (a0 : Int) (a1 : Int) (a2 : Int) (a3 : Int) (a4 : List ((Int × (Bool × (Int × (Int × (List Int × Unit))))))) (K : List PV → List RowS → Option R) :
    execS T an48 (modesOf F) 0 k 152 (S48 k) (L48 k K) (ending T Try.f48 an48 0 K) (bodyOf Try.f48) ⟨argEnv 0 [.val [] (.int .i64) a0, .val [] (.int .i64) a1, .val [] (.int .i64) a2, .val [] (.int .i64) a3, .val [(0, 0)] (.slice (.prod (.int .i64) (.prod .bool (.prod (.int .i64) (.prod (.int .i64) (.prod (.slice (.int .u8)) .unit)))))) a4] (fun _ => none), rowsOf []⟩ (ending T Try.f48 an48 0 K) (fun _ _ => none) = f48d (k + 1) a0 a1 a2 a3 a4 (fun z0 z1 => K [.rw 1, .val [] (.int .i64) z0] [⟨0, .arr [] (.prod (.int .i64) (.prod (.int .i64) (.prod (.int .i64) (.prod (.int .i64) (.prod (.slice (.int .u8)) .unit))))) z1⟩]) := by kernel_rfl
theorem e48 (k : Nat) (a0 : Int) (a1 : Int) (a2 : Int) (a3 : Int) (a4 : List ((Int × (Bool × (Int × (Int × (List Int × Unit))))))) (K : List PV → List RowS → Option R) : callC T F k 48 [.val [] (.int .i64) a0, .val [] (.int .i64) a1, .val [] (.int .i64) a2, .val [] (.int .i64) a3, .val [(0, 0)] (.slice (.prod (.int .i64) (.prod .bool (.prod (.int .i64) (.prod (.int .i64) (.prod (.slice (.int .u8)) .unit)))))) a4] [] K = f48 k a0 a1 a2 a3 a4 (fun z0 z1 => K [.rw 1, .val [] (.int .i64) z0] [⟨0, .arr [] (.prod (.int .i64) (.prod (.int .i64) (.prod (.int .i64) (.prod (.int .i64) (.prod (.slice (.int .u8)) .unit))))) z1⟩]) := by
  rw [f48_def]
  cases k with
  | zero => rfl
  | succ k =>
    refine Eq.trans (show _ = exec T an48 (modesOf F) 0 k 152 (callC T F k) (ending T Try.f48 an48 0 K) (bodyOf Try.f48) ⟨argEnv 0 [.val [] (.int .i64) a0, .val [] (.int .i64) a1, .val [] (.int .i64) a2, .val [] (.int .i64) a3, .val [(0, 0)] (.slice (.prod (.int .i64) (.prod .bool (.prod (.int .i64) (.prod (.int .i64) (.prod (.slice (.int .u8)) .unit)))))) a4] (fun _ => none), rowsOf []⟩ (ending T Try.f48 an48 0 K) (fun _ _ => none) from by kernel_rfl) ?_
    rw [← S48_eq k, ← execS_eq T an48 (modesOf F) 0 k 152 (S48 k) (L48 k K) (bodyOf Try.f48) (cuts_of _ _ _ _ _ _ _ _ (bodyOf Try.f48) (l := [(0, sp48_0, cd48_0), (1000021, sp48_1000021, cd48_1000021), (2, sp48_2, cd48_2)]) (by kernel_rfl) ⟨l48_0 k K, l48_1000021 k K, l48_2 k K, trivial⟩)]
    exact q48 k a0 a1 a2 a3 a4 K
noncomputable def s48 (k : Nat) (a : List PV) (r : List RowS) (K : List PV → List RowS → Option R) : Option R := match a, r with
  | [.val [] (.int .i64) a0, .val [] (.int .i64) a1, .val [] (.int .i64) a2, .val [] (.int .i64) a3, .val [(0, 0)] (.slice (.prod (.int .i64) (.prod .bool (.prod (.int .i64) (.prod (.int .i64) (.prod (.slice (.int .u8)) .unit)))))) a4], [] => f48 k a0 a1 a2 a3 a4 (fun z0 z1 => K [.rw 1, .val [] (.int .i64) z0] [⟨0, .arr [] (.prod (.int .i64) (.prod (.int .i64) (.prod (.int .i64) (.prod (.int .i64) (.prod (.slice (.int .u8)) .unit))))) z1⟩])
  | a, r => callC T F k 48 a r K
theorem s48_eq (k : Nat) (a : List PV) (r : List RowS) (K : List PV → List RowS → Option R) : s48 k a r K = callC T F k 48 a r K := by
  unfold s48
  split
  · exact (e48 k _ _ _ _ _ K).symm
  · rfl
end
section
variable {R : Type}
noncomputable def S84 (k g : Nat) (a : List PV) (r : List RowS) (K : List PV → List RowS → Option R) : Option R := bif g == 31 then s31 k a r K else callC T F k g a r K
theorem S84_eq (k : Nat) : S84 (R := R) k = callC T F k := by
  funext g a r K
  exact pick_eq (fun e => by subst e; exact s31_eq k a r K) (rfl)
section
variable {R : Type} (k : Nat) (K : List PV → List RowS → Option R)
noncomputable def L84_0 (ws : List PV) (rs : List RowS) (N : St → Option R) (X : Nat → St → Option R) : Option R := match ws, rs with
  | [.val [(0, 0)] (.slice (.prod (.int .i64) (.prod .bool (.prod (.int .i64) (.prod (.int .i64) (.prod (.slice (.int .u8)) .unit)))))) v0_0, .val [] (.int .i64) v0_1, .val [] (.int .i64) v0_2], [] => f84_0 k (fun z0 => K [.val [] (.int .i64) z0] []) (N (sh jn84_0 [] [])) v0_0 v0_1 k v0_2
  | ws, rs => inner T an84 (modesOf F) 0 k 21 (S84 k) (ending T Try.f84 an84 0 K) cd84_0 (sh sp84_0 ws rs) N X
noncomputable def L84 (id : Nat) (ws : List PV) (rs : List RowS) (N : St → Option R) (X : Nat → St → Option R) : Option R := bif id == 0 then L84_0 k K ws rs N X else none
theorem b84_0 (rec : St → Option R) (N : St → Option R) (X : Nat → St → Option R) (v0_0 : List ((Int × (Bool × (Int × (Int × (List Int × Unit))))))) (v0_1 : Int) (v0_2 : Int) :
    execS T an84 (modesOf F) 0 k 21 (S84 k) (L84 k K) (ending T Try.f84 an84 0 K) bd84_0 (sh sp84_0 [.val [(0, 0)] (.slice (.prod (.int .i64) (.prod .bool (.prod (.int .i64) (.prod (.int .i64) (.prod (.slice (.int .u8)) .unit)))))) v0_0, .val [] (.int .i64) v0_1, .val [] (.int .i64) v0_2] []) (fun st => atHead an84 0 bd84_0 st rec) (outX an84 0 0 N X) =
      f84_0b k (fun v0_2 => rec (sh sp84_0 [.val [(0, 0)] (.slice (.prod (.int .i64) (.prod .bool (.prod (.int .i64) (.prod (.int .i64) (.prod (.slice (.int .u8)) .unit)))))) v0_0, .val [] (.int .i64) v0_1, .val [] (.int .i64) v0_2] [])) (fun z0 => K [.val [] (.int .i64) z0] []) (N (sh jn84_0 [] [])) v0_0 v0_1 v0_2 := by kernel_rfl
theorem i84_0 (N : St → Option R) (X : Nat → St → Option R) (v0_0 : List ((Int × (Bool × (Int × (Int × (List Int × Unit))))))) (v0_1 : Int) (m : Nat) : ∀ (v0_2 : Int),
    iter (atHead an84 0 bd84_0) m (fun st N' => exec T an84 (modesOf F) 0 k 21 (S84 k) (ending T Try.f84 an84 0 K) bd84_0 st N' (outX an84 0 0 N X)) (sh sp84_0 [.val [(0, 0)] (.slice (.prod (.int .i64) (.prod .bool (.prod (.int .i64) (.prod (.int .i64) (.prod (.slice (.int .u8)) .unit)))))) v0_0, .val [] (.int .i64) v0_1, .val [] (.int .i64) v0_2] []) = f84_0d k (fun z0 => K [.val [] (.int .i64) z0] []) (N (sh jn84_0 [] [])) v0_0 v0_1 m v0_2 := by
  induction m with
  | zero => intros; rfl
  | succ m ih =>
    intro v0_2
    simp only [iter]
    rw [← execS_eq T an84 (modesOf F) 0 k 21 (S84 k) (L84 k K) bd84_0 (cuts_of _ _ _ _ _ _ _ _ bd84_0 (l := []) (by kernel_rfl) trivial)]
    refine (b84_0 k K _ N X v0_0 v0_1 v0_2).trans ?_
    simp only [f84_0d, ih]
theorem l84_0 (ws : List PV) (rs : List RowS) (N : St → Option R) (X : Nat → St → Option R) : L84 k K 0 ws rs N X = inner T an84 (modesOf F) 0 k 21 (S84 k) (ending T Try.f84 an84 0 K) cd84_0 (sh sp84_0 ws rs) N X := by
  show L84_0 k K ws rs N X = _
  unfold L84_0
  split
  rotate_left
  · rfl
  rename_i v0_0 v0_1 v0_2
  rw [f84_0_def]
  refine Eq.trans ?_ (show iter (atHead an84 0 bd84_0) k (fun st N' => exec T an84 (modesOf F) 0 k 21 (S84 k) (ending T Try.f84 an84 0 K) bd84_0 st N' (outX an84 0 0 N X)) (sh sp84_0 [.val [(0, 0)] (.slice (.prod (.int .i64) (.prod .bool (.prod (.int .i64) (.prod (.int .i64) (.prod (.slice (.int .u8)) .unit)))))) v0_0, .val [] (.int .i64) v0_1, .val [] (.int .i64) v0_2] []) = _ from by kernel_rfl)
  exact (i84_0 k K N X v0_0 v0_1 k v0_2).symm
end
theorem q84 (k : Nat) (a0 : List ((Int × (Bool × (Int × (Int × (List Int × Unit))))))) (K : List PV → List RowS → Option R) :
    execS T an84 (modesOf F) 0 k 21 (S84 k) (L84 k K) (ending T Try.f84 an84 0 K) (bodyOf Try.f84) ⟨argEnv 0 [.val [(0, 0)] (.slice (.prod (.int .i64) (.prod .bool (.prod (.int .i64) (.prod (.int .i64) (.prod (.slice (.int .u8)) .unit)))))) a0] (fun _ => none), rowsOf []⟩ (ending T Try.f84 an84 0 K) (fun _ _ => none) = f84d (k + 1) a0 (fun z0 => K [.val [] (.int .i64) z0] []) := by kernel_rfl
theorem e84 (k : Nat) (a0 : List ((Int × (Bool × (Int × (Int × (List Int × Unit))))))) (K : List PV → List RowS → Option R) : callC T F k 84 [.val [(0, 0)] (.slice (.prod (.int .i64) (.prod .bool (.prod (.int .i64) (.prod (.int .i64) (.prod (.slice (.int .u8)) .unit)))))) a0] [] K = f84 k a0 (fun z0 => K [.val [] (.int .i64) z0] []) := by
  rw [f84_def]
  cases k with
  | zero => rfl
  | succ k =>
    refine Eq.trans (show _ = exec T an84 (modesOf F) 0 k 21 (callC T F k) (ending T Try.f84 an84 0 K) (bodyOf Try.f84) ⟨argEnv 0 [.val [(0, 0)] (.slice (.prod (.int .i64) (.prod .bool (.prod (.int .i64) (.prod (.int .i64) (.prod (.slice (.int .u8)) .unit)))))) a0] (fun _ => none), rowsOf []⟩ (ending T Try.f84 an84 0 K) (fun _ _ => none) from by kernel_rfl) ?_
    rw [← S84_eq k, ← execS_eq T an84 (modesOf F) 0 k 21 (S84 k) (L84 k K) (bodyOf Try.f84) (cuts_of _ _ _ _ _ _ _ _ (bodyOf Try.f84) (l := [(0, sp84_0, cd84_0)]) (by kernel_rfl) ⟨l84_0 k K, trivial⟩)]
    exact q84 k a0 K
noncomputable def s84 (k : Nat) (a : List PV) (r : List RowS) (K : List PV → List RowS → Option R) : Option R := match a, r with
  | [.val [(0, 0)] (.slice (.prod (.int .i64) (.prod .bool (.prod (.int .i64) (.prod (.int .i64) (.prod (.slice (.int .u8)) .unit)))))) a0], [] => f84 k a0 (fun z0 => K [.val [] (.int .i64) z0] [])
  | a, r => callC T F k 84 a r K
theorem s84_eq (k : Nat) (a : List PV) (r : List RowS) (K : List PV → List RowS → Option R) : s84 k a r K = callC T F k 84 a r K := by
  unfold s84
  split
  · exact (e84 k _ K).symm
  · rfl
end
end Go.Proofs.Ytahdmfboidjkoaa.PM
