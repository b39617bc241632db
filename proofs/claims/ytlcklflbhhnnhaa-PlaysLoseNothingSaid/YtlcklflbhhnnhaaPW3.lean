/- The small machine's run is the typed form (printed by a program of this work). -/
import Derived.Test.YtlcklflbhhnnhaaPW2
set_option linter.unusedVariables false
set_option linter.unusedSimpArgs false
set_option maxRecDepth 100000
namespace Go.Proofs.Ytlcklflbhhnnhaa.PM
open Go
section
variable {R : Type}
noncomputable def S70 (k g : Nat) (a : List PV) (r : List RowS) (K : List PV → List RowS → Option R) : Option R := bif g == 66 then s66 k a r K else callC T F k g a r K
theorem S70_eq (k : Nat) : S70 (R := R) k = callC T F k := by
 funext g a r K
 exact pick_eq (fun e => by subst e; exact s66_eq k a r K) (rfl)
theorem e70 (k : Nat) (a0 : Int) (a1 : Int) (a2 : Int) (K : List PV → List RowS → Option R) : callC T F k 70 [zi a0, zi a1, zi a2] [] K = f70 k a0 a1 a2 (fun z0 => K [zi z0] []) := by
 rw [f70_def]
 cases k with
 | zero => rfl
 | succ k =>
   refine Eq.trans (show _ = exec T an70 (modesOf F) 0 k 12 (callC T F k) (ending T Try.f70 an70 0 K) (bodyOf Try.f70) ⟨argEnv 0 [zi a0, zi a1, zi a2] (fun _ => none), rowsOf []⟩ (ending T Try.f70 an70 0 K) (fun _ _ => none) from by kernel_rfl) ?_
   rw [← S70_eq k, ← execS_eq T an70 (modesOf F) 0 k 12 (S70 k) (fun _ _ _ _ _ => none) (bodyOf Try.f70) (cuts_of _ _ _ _ _ _ _ _ (bodyOf Try.f70) (l := []) (by kernel_rfl) trivial)]
   kernel_rfl
noncomputable def s70 (k : Nat) (a : List PV) (r : List RowS) (K : List PV → List RowS → Option R) : Option R :=
 onShape [.val [] (.int .i64), .val [] (.int .i64), .val [] (.int .i64)] [] (fun v => f70 k v.1.1 v.1.2.1 v.1.2.2.1 (fun z0 => K [zi z0] [])) (callC T F k 70 a r K) a r
theorem s70_eq (k : Nat) (a : List PV) (r : List RowS) (K : List PV → List RowS → Option R) : s70 k a r K = callC T F k 70 a r K := by
 unfold s70
 exact onShape_eq (a := [.val [] (.int .i64), .val [] (.int .i64), .val [] (.int .i64)]) (b := []) (G := fun a r => callC T F k 70 a r K) (fun x y => Eq.trans (by kernel_rfl) (Eq.trans (e70 k x.1 x.2.1 x.2.2.1 K).symm (by kernel_rfl))) a r
end
section
variable {R : Type}
noncomputable def S69 (k g : Nat) (a : List PV) (r : List RowS) (K : List PV → List RowS → Option R) : Option R := callC T F k g a r K
theorem S69_eq (k : Nat) : S69 (R := R) k = callC T F k := by
 funext g a r K
 exact rfl
section
variable {R : Type} (k : Nat) (K : List PV → List RowS → Option R)
noncomputable def L69_0 (ws : List PV) (rs : List RowS) (N : St → Option R) (X : Nat → St → Option R) : Option R :=
 onShape [.val [(0, 0)] (.slice (.int .i64)), .val [] (.int .i64), .val [] (.int .i64)] [] (fun v => f69_0 k (fun z0 => K [zi z0] []) (N (sh jn69_0 [] [])) v.1.1 v.1.2.1 k v.1.2.2.1) (inner T an69 (modesOf F) 0 k 15 (S69 k) (ending T Try.f69 an69 0 K) cd69_0 (sh sp69_0 ws rs) N X) ws rs
noncomputable def L69 (id : Nat) (ws : List PV) (rs : List RowS) (N : St → Option R) (X : Nat → St → Option R) : Option R := bif id == 0 then L69_0 k K ws rs N X else none
theorem b69_0 (rec : St → Option R) (N : St → Option R) (X : Nat → St → Option R) (v0_0 : List Int) (v0_1 : Int) (v0_2 : Int) :
  execS T an69 (modesOf F) 0 k 15 (S69 k) (L69 k K) (ending T Try.f69 an69 0 K) bd69_0 (sh sp69_0 [.val [(0, 0)] (.slice (.int .i64)) v0_0, zi v0_1, zi v0_2] []) (fun st => atHead an69 0 bd69_0 st rec) (outX an69 0 0 N X) =
   f69_0b k (fun v0_2 => rec (sh sp69_0 [.val [(0, 0)] (.slice (.int .i64)) v0_0, zi v0_1, zi v0_2] [])) (fun z0 => K [zi z0] []) (N (sh jn69_0 [] [])) v0_0 v0_1 v0_2 := by kernel_rfl
theorem i69_0 (N : St → Option R) (X : Nat → St → Option R) (v0_0 : List Int) (v0_1 : Int) (m : Nat) : ∀ (v0_2 : Int),
  iter (atHead an69 0 bd69_0) m (fun st N' => exec T an69 (modesOf F) 0 k 15 (S69 k) (ending T Try.f69 an69 0 K) bd69_0 st N' (outX an69 0 0 N X)) (sh sp69_0 [.val [(0, 0)] (.slice (.int .i64)) v0_0, zi v0_1, zi v0_2] []) = f69_0d k (fun z0 => K [zi z0] []) (N (sh jn69_0 [] [])) v0_0 v0_1 m v0_2 := by
 induction m with
 | zero => intros; rfl
 | succ m ih =>
   intro v0_2
   simp only [iter]
   rw [← execS_eq T an69 (modesOf F) 0 k 15 (S69 k) (L69 k K) bd69_0 (cuts_of _ _ _ _ _ _ _ _ bd69_0 (l := []) (by kernel_rfl) trivial)]
   refine (b69_0 k K _ N X v0_0 v0_1 v0_2).trans ?_
   simp only [f69_0d, ih]
theorem l69_0 (ws : List PV) (rs : List RowS) (N : St → Option R) (X : Nat → St → Option R) : L69 k K 0 ws rs N X = inner T an69 (modesOf F) 0 k 15 (S69 k) (ending T Try.f69 an69 0 K) cd69_0 (sh sp69_0 ws rs) N X := by
 show L69_0 k K ws rs N X = _
 unfold L69_0
 rw [f69_0_def]
 exact onShape_eq (a := [.val [(0, 0)] (.slice (.int .i64)), .val [] (.int .i64), .val [] (.int .i64)]) (b := []) (G := fun ws rs => inner T an69 (modesOf F) 0 k 15 (S69 k) (ending T Try.f69 an69 0 K) cd69_0 (sh sp69_0 ws rs) N X) (fun x y => Eq.trans (by kernel_rfl) (Eq.trans (i69_0 k K N X x.1 x.2.1 k x.2.2.1).symm (by kernel_rfl))) ws rs
end
theorem e69 (k : Nat) (a0 : List Int) (K : List PV → List RowS → Option R) : callC T F k 69 [.val [(0, 0)] (.slice (.int .i64)) a0] [] K = f69 k a0 (fun z0 => K [zi z0] []) := by
 rw [f69_def]
 cases k with
 | zero => rfl
 | succ k =>
   refine Eq.trans (show _ = exec T an69 (modesOf F) 0 k 15 (callC T F k) (ending T Try.f69 an69 0 K) (bodyOf Try.f69) ⟨argEnv 0 [.val [(0, 0)] (.slice (.int .i64)) a0] (fun _ => none), rowsOf []⟩ (ending T Try.f69 an69 0 K) (fun _ _ => none) from by kernel_rfl) ?_
   rw [← S69_eq k, ← execS_eq T an69 (modesOf F) 0 k 15 (S69 k) (L69 k K) (bodyOf Try.f69) (cuts_of _ _ _ _ _ _ _ _ (bodyOf Try.f69) (l := [(0, sp69_0, cd69_0)]) (by kernel_rfl) ⟨l69_0 k K, trivial⟩)]
   kernel_rfl
noncomputable def s69 (k : Nat) (a : List PV) (r : List RowS) (K : List PV → List RowS → Option R) : Option R :=
 onShape [.val [(0, 0)] (.slice (.int .i64))] [] (fun v => f69 k v.1.1 (fun z0 => K [zi z0] [])) (callC T F k 69 a r K) a r
theorem s69_eq (k : Nat) (a : List PV) (r : List RowS) (K : List PV → List RowS → Option R) : s69 k a r K = callC T F k 69 a r K := by
 unfold s69
 exact onShape_eq (a := [.val [(0, 0)] (.slice (.int .i64))]) (b := []) (G := fun a r => callC T F k 69 a r K) (fun x y => Eq.trans (by kernel_rfl) (Eq.trans (e69 k x.1 K).symm (by kernel_rfl))) a r
end
section
variable {R : Type}
noncomputable def S125 (k g : Nat) (a : List PV) (r : List RowS) (K : List PV → List RowS → Option R) : Option R := callC T F k g a r K
theorem S125_eq (k : Nat) : S125 (R := R) k = callC T F k := by
 funext g a r K
 exact rfl
section
variable {R : Type} (k : Nat) (K : List PV → List RowS → Option R)
noncomputable def L125_1000003 (ws : List PV) (rs : List RowS) (N : St → Option R) (X : Nat → St → Option R) : Option R :=
 onShape [.val [] (.int .i64), .val [] .bool] [] (fun v => f125_1000003 k (fun yN_0 => N (sh fi125_3 [zi yN_0] [])) v.1.1 v.1.2.1) (inner T an125 (modesOf F) 0 k 16 (S125 k) (ending T Try.f125 an125 0 K) cd125_1000003 (sh sp125_1000003 ws rs) N X) ws rs
noncomputable def L125 (id : Nat) (ws : List PV) (rs : List RowS) (N : St → Option R) (X : Nat → St → Option R) : Option R := bif id == 1000003 then L125_1000003 k K ws rs N X else none
theorem l125_1000003 (ws : List PV) (rs : List RowS) (N : St → Option R) (X : Nat → St → Option R) : L125 k K 1000003 ws rs N X = inner T an125 (modesOf F) 0 k 16 (S125 k) (ending T Try.f125 an125 0 K) cd125_1000003 (sh sp125_1000003 ws rs) N X := by
 show L125_1000003 k K ws rs N X = _
 unfold L125_1000003
 rw [f125_1000003_def]
 exact onShape_eq (a := [.val [] (.int .i64), .val [] .bool]) (b := []) (G := fun ws rs => inner T an125 (modesOf F) 0 k 16 (S125 k) (ending T Try.f125 an125 0 K) cd125_1000003 (sh sp125_1000003 ws rs) N X) (fun x y => Eq.trans (by kernel_rfl) (innerS_eq T an125 (modesOf F) 0 k 16 (S125 k) (L125 k K) cd125_1000003 (l := []) (by kernel_rfl) trivial _ N X)) ws rs
end
theorem e125 (k : Nat) (a0 : Int) (a1 : Int) (K : List PV → List RowS → Option R) : callC T F k 125 [zi a0, zi a1] [] K = f125 k a0 a1 (fun z0 => K [zi z0] []) := by
 rw [f125_def]
 cases k with
 | zero => rfl
 | succ k =>
   refine Eq.trans (show _ = exec T an125 (modesOf F) 0 k 16 (callC T F k) (ending T Try.f125 an125 0 K) (bodyOf Try.f125) ⟨argEnv 0 [zi a0, zi a1] (fun _ => none), rowsOf []⟩ (ending T Try.f125 an125 0 K) (fun _ _ => none) from by kernel_rfl) ?_
   rw [← S125_eq k, ← execS_eq T an125 (modesOf F) 0 k 16 (S125 k) (L125 k K) (bodyOf Try.f125) (cuts_of _ _ _ _ _ _ _ _ (bodyOf Try.f125) (l := [(1000003, sp125_1000003, cd125_1000003)]) (by kernel_rfl) ⟨l125_1000003 k K, trivial⟩)]
   kernel_rfl
noncomputable def s125 (k : Nat) (a : List PV) (r : List RowS) (K : List PV → List RowS → Option R) : Option R :=
 onShape [.val [] (.int .i64), .val [] (.int .i64)] [] (fun v => f125 k v.1.1 v.1.2.1 (fun z0 => K [zi z0] [])) (callC T F k 125 a r K) a r
theorem s125_eq (k : Nat) (a : List PV) (r : List RowS) (K : List PV → List RowS → Option R) : s125 k a r K = callC T F k 125 a r K := by
 unfold s125
 exact onShape_eq (a := [.val [] (.int .i64), .val [] (.int .i64)]) (b := []) (G := fun a r => callC T F k 125 a r K) (fun x y => Eq.trans (by kernel_rfl) (Eq.trans (e125 k x.1 x.2.1 K).symm (by kernel_rfl))) a r
end
section
variable {R : Type}
noncomputable def S101 (k g : Nat) (a : List PV) (r : List RowS) (K : List PV → List RowS → Option R) : Option R := bif g == 125 then s125 k a r K else callC T F k g a r K
theorem S101_eq (k : Nat) : S101 (R := R) k = callC T F k := by
 funext g a r K
 exact pick_eq (fun e => by subst e; exact s125_eq k a r K) (rfl)
theorem e101 (k : Nat) (a0 : Int) (a1 : Int) (K : List PV → List RowS → Option R) : callC T F k 101 [zi a0, zi a1] [] K = f101 k a0 a1 (fun z0 => K [zi z0] []) := by
 rw [f101_def]
 cases k with
 | zero => rfl
 | succ k =>
   refine Eq.trans (show _ = exec T an101 (modesOf F) 0 k 10 (callC T F k) (ending T Try.f101 an101 0 K) (bodyOf Try.f101) ⟨argEnv 0 [zi a0, zi a1] (fun _ => none), rowsOf []⟩ (ending T Try.f101 an101 0 K) (fun _ _ => none) from by kernel_rfl) ?_
   rw [← S101_eq k, ← execS_eq T an101 (modesOf F) 0 k 10 (S101 k) (fun _ _ _ _ _ => none) (bodyOf Try.f101) (cuts_of _ _ _ _ _ _ _ _ (bodyOf Try.f101) (l := []) (by kernel_rfl) trivial)]
   kernel_rfl
noncomputable def s101 (k : Nat) (a : List PV) (r : List RowS) (K : List PV → List RowS → Option R) : Option R :=
 onShape [.val [] (.int .i64), .val [] (.int .i64)] [] (fun v => f101 k v.1.1 v.1.2.1 (fun z0 => K [zi z0] [])) (callC T F k 101 a r K) a r
theorem s101_eq (k : Nat) (a : List PV) (r : List RowS) (K : List PV → List RowS → Option R) : s101 k a r K = callC T F k 101 a r K := by
 unfold s101
 exact onShape_eq (a := [.val [] (.int .i64), .val [] (.int .i64)]) (b := []) (G := fun a r => callC T F k 101 a r K) (fun x y => Eq.trans (by kernel_rfl) (Eq.trans (e101 k x.1 x.2.1 K).symm (by kernel_rfl))) a r
end
section
variable {R : Type}
noncomputable def S60 (k g : Nat) (a : List PV) (r : List RowS) (K : List PV → List RowS → Option R) : Option R := bif g == 22 then s22 k a r K else bif g == 69 then s69 k a r K else bif g == 70 then s70 k a r K else bif g == 101 then s101 k a r K else callC T F k g a r K
theorem S60_eq (k : Nat) : S60 (R := R) k = callC T F k := by
 funext g a r K
 exact pick_eq (fun e => by subst e; exact s22_eq k a r K) (pick_eq (fun e => by subst e; exact s69_eq k a r K) (pick_eq (fun e => by subst e; exact s70_eq k a r K) (pick_eq (fun e => by subst e; exact s101_eq k a r K) (rfl))))
theorem e60 (k : Nat) (a0 : Int) (a1 : Int) (a2 : Int) (a3 : Int) (a4 : Int) (a5 : Int) (K : List PV → List RowS → Option R) : callC T F k 60 [.agg [zi a0, zi a1, zi a2, zi a3, zi a4], zi a5] [] K = f60 k a0 a1 a2 a3 a4 a5 (fun z0 z1 z2 => K [zi z0, zi z1, zi z2] []) := by
 rw [f60_def]
 cases k with
 | zero => rfl
 | succ k =>
   refine Eq.trans (show _ = exec T an60 (modesOf F) 0 k 32 (callC T F k) (ending T Try.f60 an60 0 K) (bodyOf Try.f60) ⟨argEnv 0 [.agg [zi a0, zi a1, zi a2, zi a3, zi a4], zi a5] (fun _ => none), rowsOf []⟩ (ending T Try.f60 an60 0 K) (fun _ _ => none) from by kernel_rfl) ?_
   rw [← S60_eq k, ← execS_eq T an60 (modesOf F) 0 k 32 (S60 k) (fun _ _ _ _ _ => none) (bodyOf Try.f60) (cuts_of _ _ _ _ _ _ _ _ (bodyOf Try.f60) (l := []) (by kernel_rfl) trivial)]
   kernel_rfl
noncomputable def s60 (k : Nat) (a : List PV) (r : List RowS) (K : List PV → List RowS → Option R) : Option R :=
 onShape [.agg [.val [] (.int .i64), .val [] (.int .i64), .val [] (.int .i64), .val [] (.int .i64), .val [] (.int .i64)], .val [] (.int .i64)] [] (fun v => f60 k v.1.1.1 v.1.1.2.1 v.1.1.2.2.1 v.1.1.2.2.2.1 v.1.1.2.2.2.2.1 v.1.2.1 (fun z0 z1 z2 => K [zi z0, zi z1, zi z2] [])) (callC T F k 60 a r K) a r
theorem s60_eq (k : Nat) (a : List PV) (r : List RowS) (K : List PV → List RowS → Option R) : s60 k a r K = callC T F k 60 a r K := by
 unfold s60
 exact onShape_eq (a := [.agg [.val [] (.int .i64), .val [] (.int .i64), .val [] (.int .i64), .val [] (.int .i64), .val [] (.int .i64)], .val [] (.int .i64)]) (b := []) (G := fun a r => callC T F k 60 a r K) (fun x y => Eq.trans (by kernel_rfl) (Eq.trans (e60 k x.1.1 x.1.2.1 x.1.2.2.1 x.1.2.2.2.1 x.1.2.2.2.2.1 x.2.1 K).symm (by kernel_rfl))) a r
end
section
variable {R : Type}
noncomputable def S18 (k g : Nat) (a : List PV) (r : List RowS) (K : List PV → List RowS → Option R) : Option R := bif g == 64 then s64 k a r K else callC T F k g a r K
theorem S18_eq (k : Nat) : S18 (R := R) k = callC T F k := by
 funext g a r K
 exact pick_eq (fun e => by subst e; exact s64_eq k a r K) (rfl)
theorem e18 (k : Nat) (a0 : List Int) (K : List PV → List RowS → Option R) : callC T F k 18 [.val [(0, 0)] zT2 a0] [] K = f18 k a0 (fun z0 z1 => K [zi z0, zi z1] []) := by
 rw [f18_def]
 cases k with
 | zero => rfl
 | succ k =>
   refine Eq.trans (show _ = exec T an18 (modesOf F) 0 k 9 (callC T F k) (ending T Try.f18 an18 0 K) (bodyOf Try.f18) ⟨argEnv 0 [.val [(0, 0)] zT2 a0] (fun _ => none), rowsOf []⟩ (ending T Try.f18 an18 0 K) (fun _ _ => none) from by kernel_rfl) ?_
   rw [← S18_eq k, ← execS_eq T an18 (modesOf F) 0 k 9 (S18 k) (fun _ _ _ _ _ => none) (bodyOf Try.f18) (cuts_of _ _ _ _ _ _ _ _ (bodyOf Try.f18) (l := []) (by kernel_rfl) trivial)]
   kernel_rfl
noncomputable def s18 (k : Nat) (a : List PV) (r : List RowS) (K : List PV → List RowS → Option R) : Option R :=
 onShape [.val [(0, 0)] zT2] [] (fun v => f18 k v.1.1 (fun z0 z1 => K [zi z0, zi z1] [])) (callC T F k 18 a r K) a r
theorem s18_eq (k : Nat) (a : List PV) (r : List RowS) (K : List PV → List RowS → Option R) : s18 k a r K = callC T F k 18 a r K := by
 unfold s18
 exact onShape_eq (a := [.val [(0, 0)] zT2]) (b := []) (G := fun a r => callC T F k 18 a r K) (fun x y => Eq.trans (by kernel_rfl) (Eq.trans (e18 k x.1 K).symm (by kernel_rfl))) a r
end
section
variable {R : Type}
noncomputable def S24 (k g : Nat) (a : List PV) (r : List RowS) (K : List PV → List RowS → Option R) : Option R := bif g == 18 then s18 k a r K else callC T F k g a r K
theorem S24_eq (k : Nat) : S24 (R := R) k = callC T F k := by
 funext g a r K
 exact pick_eq (fun e => by subst e; exact s18_eq k a r K) (rfl)
theorem e24 (k : Nat) (K : List PV → List RowS → Option R) : callC T F k 24 [] [] K = f24 k (fun z0 => K [.val [] .bool z0] []) := by
 rw [f24_def]
 cases k with
 | zero => rfl
 | succ k =>
   refine Eq.trans (show _ = exec T an24 (modesOf F) 0 k 14 (callC T F k) (ending T Try.f24 an24 0 K) (bodyOf Try.f24) ⟨argEnv 0 [] (fun _ => none), rowsOf []⟩ (ending T Try.f24 an24 0 K) (fun _ _ => none) from by kernel_rfl) ?_
   rw [← S24_eq k, ← execS_eq T an24 (modesOf F) 0 k 14 (S24 k) (fun _ _ _ _ _ => none) (bodyOf Try.f24) (cuts_of _ _ _ _ _ _ _ _ (bodyOf Try.f24) (l := []) (by kernel_rfl) trivial)]
   kernel_rfl
noncomputable def s24 (k : Nat) (a : List PV) (r : List RowS) (K : List PV → List RowS → Option R) : Option R :=
 onShape [] [] (fun v => f24 k (fun z0 => K [.val [] .bool z0] [])) (callC T F k 24 a r K) a r
theorem s24_eq (k : Nat) (a : List PV) (r : List RowS) (K : List PV → List RowS → Option R) : s24 k a r K = callC T F k 24 a r K := by
 unfold s24
 exact onShape_eq (a := []) (b := []) (G := fun a r => callC T F k 24 a r K) (fun x y => Eq.trans (by kernel_rfl) (Eq.trans (e24 k K).symm (by kernel_rfl))) a r
end
section
variable {R : Type}
noncomputable def S16 (k g : Nat) (a : List PV) (r : List RowS) (K : List PV → List RowS → Option R) : Option R := bif g == 24 then s24 k a r K else bif g == 59 then s59 k a r K else bif g == 60 then s60 k a r K else callC T F k g a r K
theorem S16_eq (k : Nat) : S16 (R := R) k = callC T F k := by
 funext g a r K
 exact pick_eq (fun e => by subst e; exact s24_eq k a r K) (pick_eq (fun e => by subst e; exact s59_eq k a r K) (pick_eq (fun e => by subst e; exact s60_eq k a r K) (rfl)))
theorem e16 (k : Nat) (a0 : Int) (a1 : Int) (a2 : Int) (a3 : Int) (a4 : Int) (a5 : Int) (a6 : ByteArray) (a7 : List Int) (a8 : Int) (K : List PV → List RowS → Option R) : callC T F k 16 [.agg [zi a0, zi a1, zi a2, zi a3, zi a4], zi a5, .val [] .str a6, .val [(0, 0)] zT2 a7, zi a8] [] K = f16 k a0 a1 a2 a3 a4 a5 a6 a7 a8 (fun z0 => K [.val [] .bool z0] []) := by
 rw [f16_def]
 cases k with
 | zero => rfl
 | succ k =>
   refine Eq.trans (show _ = exec T an16 (modesOf F) 0 k 93 (callC T F k) (ending T Try.f16 an16 0 K) (bodyOf Try.f16) ⟨argEnv 0 [.agg [zi a0, zi a1, zi a2, zi a3, zi a4], zi a5, .val [] .str a6, .val [(0, 0)] zT2 a7, zi a8] (fun _ => none), rowsOf []⟩ (ending T Try.f16 an16 0 K) (fun _ _ => none) from by kernel_rfl) ?_
   rw [← S16_eq k, ← execS_eq T an16 (modesOf F) 0 k 93 (S16 k) (fun _ _ _ _ _ => none) (bodyOf Try.f16) (cuts_of _ _ _ _ _ _ _ _ (bodyOf Try.f16) (l := []) (by kernel_rfl) trivial)]
   kernel_rfl
noncomputable def s16 (k : Nat) (a : List PV) (r : List RowS) (K : List PV → List RowS → Option R) : Option R :=
 onShape [.agg [.val [] (.int .i64), .val [] (.int .i64), .val [] (.int .i64), .val [] (.int .i64), .val [] (.int .i64)], .val [] (.int .i64), .val [] .str, .val [(0, 0)] zT2, .val [] (.int .i64)] [] (fun v => f16 k v.1.1.1 v.1.1.2.1 v.1.1.2.2.1 v.1.1.2.2.2.1 v.1.1.2.2.2.2.1 v.1.2.1 v.1.2.2.1 v.1.2.2.2.1 v.1.2.2.2.2.1 (fun z0 => K [.val [] .bool z0] [])) (callC T F k 16 a r K) a r
theorem s16_eq (k : Nat) (a : List PV) (r : List RowS) (K : List PV → List RowS → Option R) : s16 k a r K = callC T F k 16 a r K := by
 unfold s16
 exact onShape_eq (a := [.agg [.val [] (.int .i64), .val [] (.int .i64), .val [] (.int .i64), .val [] (.int .i64), .val [] (.int .i64)], .val [] (.int .i64), .val [] .str, .val [(0, 0)] zT2, .val [] (.int .i64)]) (b := []) (G := fun a r => callC T F k 16 a r K) (fun x y => Eq.trans (by kernel_rfl) (Eq.trans (e16 k x.1.1 x.1.2.1 x.1.2.2.1 x.1.2.2.2.1 x.1.2.2.2.2.1 x.2.1 x.2.2.1 x.2.2.2.1 x.2.2.2.2.1 K).symm (by kernel_rfl))) a r
end
end Go.Proofs.Ytlcklflbhhnnhaa.PM
