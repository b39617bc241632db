/- The small machine's run is the typed form (printed by a program of this work). -/
import Derived.Test.YtadkplikobhckaaPW0
set_option linter.unusedVariables false
set_option linter.unusedSimpArgs false
set_option maxRecDepth 100000
namespace Go.Proofs.Ytadkplikobhckaa.PM
open Go
section
variable {R : Type}
noncomputable def S87 (k g : Nat) (a : List PV) (r : List RowS) (K : List PV → List RowS → Option R) : Option R := bif g == 51 then s51 k a r K else bif g == 59 then s59 k a r K else bif g == 89 then s89 k a r K else bif g == 99 then s99 k a r K else bif g == 100 then s100 k a r K else callC T F k g a r K
theorem S87_eq (k : Nat) : S87 (R := R) k = callC T F k := by
  funext g a r K
  exact pick_eq (fun e => by subst e; exact s51_eq k a r K) (pick_eq (fun e => by subst e; exact s59_eq k a r K) (pick_eq (fun e => by subst e; exact s89_eq k a r K) (pick_eq (fun e => by subst e; exact s99_eq k a r K) (pick_eq (fun e => by subst e; exact s100_eq k a r K) (rfl)))))
theorem e87 (k : Nat) (a0 : Int) (a1 : Int) (a2 : List Int) (a3 : List Int) (K : List PV → List RowS → Option R) : callC T F k 87 [.agg [.val [] (.int .i64) a0, .val [] (.int .i64) a1, .val [(0, 0)] (.slice (.int .i64)) a2], .val [(0, 0)] (.slice (.int .u8)) a3] [] K = f87 k a0 a1 a2 a3 (fun z0 z1 z2 z3 z4 z5 => K [.agg [.val [] (.int .i64) z0, .val [] (.int .i64) z1, .rw 1], .rw 2, .val [] (.int .i64) z2, .val [] (.int .i64) z3] [⟨0, .arr [] (.int .i64) z4⟩, ⟨0, .arr [] (.int .u8) z5⟩]) := by
  rw [f87_def]
  cases k with
  | zero => rfl
  | succ k =>
    refine Eq.trans (show _ = exec T an87 (modesOf F) 0 k 67 (callC T F k) (ending T Try.f87 an87 0 K) (bodyOf Try.f87) ⟨argEnv 0 [.agg [.val [] (.int .i64) a0, .val [] (.int .i64) a1, .val [(0, 0)] (.slice (.int .i64)) a2], .val [(0, 0)] (.slice (.int .u8)) a3] (fun _ => none), rowsOf []⟩ (ending T Try.f87 an87 0 K) (fun _ _ => none) from by kernel_rfl) ?_
    rw [← S87_eq k, ← execS_eq T an87 (modesOf F) 0 k 67 (S87 k) (fun _ _ _ _ _ => none) (bodyOf Try.f87) (cuts_of _ _ _ _ _ _ _ _ (bodyOf Try.f87) (l := []) (by kernel_rfl) trivial)]
    kernel_rfl
noncomputable def s87 (k : Nat) (a : List PV) (r : List RowS) (K : List PV → List RowS → Option R) : Option R :=
  onShape [.agg [.val [] (.int .i64), .val [] (.int .i64), .val [(0, 0)] (.slice (.int .i64))], .val [(0, 0)] (.slice (.int .u8))] [] (fun v => f87 k v.1.1.1 v.1.1.2.1 v.1.1.2.2.1 v.1.2.1 (fun z0 z1 z2 z3 z4 z5 => K [.agg [.val [] (.int .i64) z0, .val [] (.int .i64) z1, .rw 1], .rw 2, .val [] (.int .i64) z2, .val [] (.int .i64) z3] [⟨0, .arr [] (.int .i64) z4⟩, ⟨0, .arr [] (.int .u8) z5⟩])) (callC T F k 87 a r K) a r
theorem s87_eq (k : Nat) (a : List PV) (r : List RowS) (K : List PV → List RowS → Option R) : s87 k a r K = callC T F k 87 a r K := by
  unfold s87
  exact onShape_eq (a := [.agg [.val [] (.int .i64), .val [] (.int .i64), .val [(0, 0)] (.slice (.int .i64))], .val [(0, 0)] (.slice (.int .u8))]) (b := []) (G := fun a r => callC T F k 87 a r K) (fun x y => Eq.trans (by kernel_rfl) (Eq.trans (e87 k x.1.1 x.1.2.1 x.1.2.2.1 x.2.1 K).symm (by kernel_rfl))) a r
end
section
variable {R : Type}
noncomputable def S53 (k g : Nat) (a : List PV) (r : List RowS) (K : List PV → List RowS → Option R) : Option R := bif g == 57 then s57 k a r K else bif g == 86 then s86 k a r K else bif g == 87 then s87 k a r K else callC T F k g a r K
theorem S53_eq (k : Nat) : S53 (R := R) k = callC T F k := by
  funext g a r K
  exact pick_eq (fun e => by subst e; exact s57_eq k a r K) (pick_eq (fun e => by subst e; exact s86_eq k a r K) (pick_eq (fun e => by subst e; exact s87_eq k a r K) (rfl)))
section
variable {R : Type} (k : Nat) (K : List PV → List RowS → Option R)
noncomputable def L53_1000014 (ws : List PV) (rs : List RowS) (N : St → Option R) (X : Nat → St → Option R) : Option R :=
  onShape [.ptr 1 0, .ptr 2 0, .rw 3, .rw 4, .ptr 5 0, .rw 7, .val [(0, 0)] (.slice (.slice (.int .u8))), .val [] (.int .i64), .val [] (.int .i64), .val [] .bool] [.vars [.val [] (.int .i64), .val [] (.int .i64), .val [(0, 0)] (.slice (.int .i64))], .vars [.val [] (.int .i64), .val [] (.int .i64), .nils], .arr [] (.slice (.int .u8)), .arr [] (.int .i64), .vars [.val [] (.int .i64), .val [] (.int .i64), .rw 6], .arr [] (.int .i64), .arr [] (.int .u8)] (fun v => f53_1000014 k (fun yN_3 yN_4 yN_5 yN_8 => N (sh fi53_14 [.ptr 1 0, .ptr 2 0, .rw 3, .rw 4, .val [(0, 0)] (.slice (.slice (.int .u8))) v.1.2.2.2.2.2.2.1, .val [] (.int .i64) v.1.2.2.2.2.2.2.2.1, .val [] (.int .i64) v.1.2.2.2.2.2.2.2.2.1] [⟨0, .vars [.val [] (.int .i64) yN_3, .val [] (.int .i64) yN_4, .val [(0, 0)] (.slice (.int .i64)) yN_5]⟩, ⟨0, .vars [.val [] (.int .i64) v.2.2.1.1, .val [] (.int .i64) v.2.2.1.2.1, .nils]⟩, ⟨0, .arr [] (.slice (.int .u8)) yN_8⟩, ⟨0, .arr [] (.int .i64) v.2.2.2.2.1⟩])) v.1.2.2.2.2.2.2.1 v.1.2.2.2.2.2.2.2.1 v.1.2.2.2.2.2.2.2.2.1 v.1.2.2.2.2.2.2.2.2.2.1 v.2.1.1 v.2.1.2.1 v.2.1.2.2.1 v.2.2.1.1 v.2.2.1.2.1 v.2.2.2.1 v.2.2.2.2.1 v.2.2.2.2.2.1.1 v.2.2.2.2.2.1.2.1 v.2.2.2.2.2.2.1 v.2.2.2.2.2.2.2.1) (inner T an53 (modesOf F) 0 k 60 (S53 k) (ending T Try.f53 an53 0 K) cd53_1000014 (sh sp53_1000014 ws rs) N X) ws rs
noncomputable def L53_0 (ws : List PV) (rs : List RowS) (N : St → Option R) (X : Nat → St → Option R) : Option R :=
  onShape [.ptr 1 0, .ptr 2 0, .rw 3, .rw 4, .val [(0, 0)] (.slice (.slice (.int .u8))), .val [] (.int .i64), .val [] (.int .i64)] [.vars [.val [] (.int .i64), .val [] (.int .i64), .val [(0, 0)] (.slice (.int .i64))], .vars [.val [] (.int .i64), .val [] (.int .i64), .nils], .arr [] (.slice (.int .u8)), .arr [] (.int .i64)] (fun v => f53_0 k (fun y0_0 y0_1 y0_2 y0_5 y0_6 => N (sh jn53_0 [.ptr 1 0, .ptr 2 0, .rw 3, .rw 4] [⟨0, .vars [.val [] (.int .i64) y0_0, .val [] (.int .i64) y0_1, .val [(0, 0)] (.slice (.int .i64)) y0_2]⟩, ⟨0, .vars [.val [] (.int .i64) v.2.2.1.1, .val [] (.int .i64) v.2.2.1.2.1, .nils]⟩, ⟨0, .arr [] (.slice (.int .u8)) y0_5⟩, ⟨0, .arr [] (.int .i64) y0_6⟩])) v.1.2.2.2.2.1 v.1.2.2.2.2.2.1 v.2.2.1.1 v.2.2.1.2.1 k v.1.2.2.2.2.2.2.1 v.2.1.1 v.2.1.2.1 v.2.1.2.2.1 v.2.2.2.1 v.2.2.2.2.1) (inner T an53 (modesOf F) 0 k 60 (S53 k) (ending T Try.f53 an53 0 K) cd53_0 (sh sp53_0 ws rs) N X) ws rs
noncomputable def L53 (id : Nat) (ws : List PV) (rs : List RowS) (N : St → Option R) (X : Nat → St → Option R) : Option R := bif id == 1000014 then L53_1000014 k K ws rs N X else bif id == 0 then L53_0 k K ws rs N X else none
theorem l53_1000014 (ws : List PV) (rs : List RowS) (N : St → Option R) (X : Nat → St → Option R) : L53 k K 1000014 ws rs N X = inner T an53 (modesOf F) 0 k 60 (S53 k) (ending T Try.f53 an53 0 K) cd53_1000014 (sh sp53_1000014 ws rs) N X := by
  show L53_1000014 k K ws rs N X = _
  unfold L53_1000014
  rw [f53_1000014_def]
  exact onShape_eq (a := [.ptr 1 0, .ptr 2 0, .rw 3, .rw 4, .ptr 5 0, .rw 7, .val [(0, 0)] (.slice (.slice (.int .u8))), .val [] (.int .i64), .val [] (.int .i64), .val [] .bool]) (b := [.vars [.val [] (.int .i64), .val [] (.int .i64), .val [(0, 0)] (.slice (.int .i64))], .vars [.val [] (.int .i64), .val [] (.int .i64), .nils], .arr [] (.slice (.int .u8)), .arr [] (.int .i64), .vars [.val [] (.int .i64), .val [] (.int .i64), .rw 6], .arr [] (.int .i64), .arr [] (.int .u8)]) (G := fun ws rs => inner T an53 (modesOf F) 0 k 60 (S53 k) (ending T Try.f53 an53 0 K) cd53_1000014 (sh sp53_1000014 ws rs) N X) (fun x y => Eq.trans (by kernel_rfl) (innerS_eq T an53 (modesOf F) 0 k 60 (S53 k) (L53 k K) cd53_1000014 (l := []) (by kernel_rfl) trivial _ N X)) ws rs
theorem b53_0 (rec : St → Option R) (N : St → Option R) (X : Nat → St → Option R) (v0_0 : List (List Int)) (v0_1 : Int) (v0_6 : Int) (v0_7 : Int) (v0_2 : Int) (v0_3 : Int) (v0_4 : Int) (v0_5 : List Int) (v0_8 : List (List Int)) (v0_9 : List Int) :
    execS T an53 (modesOf F) 0 k 60 (S53 k) (L53 k K) (ending T Try.f53 an53 0 K) bd53_0 (sh sp53_0 [.ptr 1 0, .ptr 2 0, .rw 3, .rw 4, .val [(0, 0)] (.slice (.slice (.int .u8))) v0_0, .val [] (.int .i64) v0_1, .val [] (.int .i64) v0_2] [⟨0, .vars [.val [] (.int .i64) v0_3, .val [] (.int .i64) v0_4, .val [(0, 0)] (.slice (.int .i64)) v0_5]⟩, ⟨0, .vars [.val [] (.int .i64) v0_6, .val [] (.int .i64) v0_7, .nils]⟩, ⟨0, .arr [] (.slice (.int .u8)) v0_8⟩, ⟨0, .arr [] (.int .i64) v0_9⟩]) (fun st => atHead an53 0 bd53_0 st rec) (outX an53 0 0 N X) =
      f53_0b k (fun v0_2 v0_3 v0_4 v0_5 v0_8 v0_9 => rec (sh sp53_0 [.ptr 1 0, .ptr 2 0, .rw 3, .rw 4, .val [(0, 0)] (.slice (.slice (.int .u8))) v0_0, .val [] (.int .i64) v0_1, .val [] (.int .i64) v0_2] [⟨0, .vars [.val [] (.int .i64) v0_3, .val [] (.int .i64) v0_4, .val [(0, 0)] (.slice (.int .i64)) v0_5]⟩, ⟨0, .vars [.val [] (.int .i64) v0_6, .val [] (.int .i64) v0_7, .nils]⟩, ⟨0, .arr [] (.slice (.int .u8)) v0_8⟩, ⟨0, .arr [] (.int .i64) v0_9⟩])) (fun y0_0 y0_1 y0_2 y0_5 y0_6 => N (sh jn53_0 [.ptr 1 0, .ptr 2 0, .rw 3, .rw 4] [⟨0, .vars [.val [] (.int .i64) y0_0, .val [] (.int .i64) y0_1, .val [(0, 0)] (.slice (.int .i64)) y0_2]⟩, ⟨0, .vars [.val [] (.int .i64) v0_6, .val [] (.int .i64) v0_7, .nils]⟩, ⟨0, .arr [] (.slice (.int .u8)) y0_5⟩, ⟨0, .arr [] (.int .i64) y0_6⟩])) v0_0 v0_1 v0_6 v0_7 v0_2 v0_3 v0_4 v0_5 v0_8 v0_9 := by kernel_rfl
theorem i53_0 (N : St → Option R) (X : Nat → St → Option R) (v0_0 : List (List Int)) (v0_1 : Int) (v0_6 : Int) (v0_7 : Int) (m : Nat) : ∀ (v0_2 : Int) (v0_3 : Int) (v0_4 : Int) (v0_5 : List Int) (v0_8 : List (List Int)) (v0_9 : List Int),
    iter (atHead an53 0 bd53_0) m (fun st N' => exec T an53 (modesOf F) 0 k 60 (S53 k) (ending T Try.f53 an53 0 K) bd53_0 st N' (outX an53 0 0 N X)) (sh sp53_0 [.ptr 1 0, .ptr 2 0, .rw 3, .rw 4, .val [(0, 0)] (.slice (.slice (.int .u8))) v0_0, .val [] (.int .i64) v0_1, .val [] (.int .i64) v0_2] [⟨0, .vars [.val [] (.int .i64) v0_3, .val [] (.int .i64) v0_4, .val [(0, 0)] (.slice (.int .i64)) v0_5]⟩, ⟨0, .vars [.val [] (.int .i64) v0_6, .val [] (.int .i64) v0_7, .nils]⟩, ⟨0, .arr [] (.slice (.int .u8)) v0_8⟩, ⟨0, .arr [] (.int .i64) v0_9⟩]) = f53_0d k (fun y0_0 y0_1 y0_2 y0_5 y0_6 => N (sh jn53_0 [.ptr 1 0, .ptr 2 0, .rw 3, .rw 4] [⟨0, .vars [.val [] (.int .i64) y0_0, .val [] (.int .i64) y0_1, .val [(0, 0)] (.slice (.int .i64)) y0_2]⟩, ⟨0, .vars [.val [] (.int .i64) v0_6, .val [] (.int .i64) v0_7, .nils]⟩, ⟨0, .arr [] (.slice (.int .u8)) y0_5⟩, ⟨0, .arr [] (.int .i64) y0_6⟩])) v0_0 v0_1 v0_6 v0_7 m v0_2 v0_3 v0_4 v0_5 v0_8 v0_9 := by
  induction m with
  | zero => intros; rfl
  | succ m ih =>
    intro v0_2 v0_3 v0_4 v0_5 v0_8 v0_9
    simp only [iter]
    rw [← execS_eq T an53 (modesOf F) 0 k 60 (S53 k) (L53 k K) bd53_0 (cuts_of _ _ _ _ _ _ _ _ bd53_0 (l := [(1000014, sp53_1000014, cd53_1000014)]) (by kernel_rfl) ⟨l53_1000014 k K, trivial⟩)]
    refine (b53_0 k K _ N X v0_0 v0_1 v0_6 v0_7 v0_2 v0_3 v0_4 v0_5 v0_8 v0_9).trans ?_
    simp only [f53_0d, ih]
theorem l53_0 (ws : List PV) (rs : List RowS) (N : St → Option R) (X : Nat → St → Option R) : L53 k K 0 ws rs N X = inner T an53 (modesOf F) 0 k 60 (S53 k) (ending T Try.f53 an53 0 K) cd53_0 (sh sp53_0 ws rs) N X := by
  show L53_0 k K ws rs N X = _
  unfold L53_0
  rw [f53_0_def]
  exact onShape_eq (a := [.ptr 1 0, .ptr 2 0, .rw 3, .rw 4, .val [(0, 0)] (.slice (.slice (.int .u8))), .val [] (.int .i64), .val [] (.int .i64)]) (b := [.vars [.val [] (.int .i64), .val [] (.int .i64), .val [(0, 0)] (.slice (.int .i64))], .vars [.val [] (.int .i64), .val [] (.int .i64), .nils], .arr [] (.slice (.int .u8)), .arr [] (.int .i64)]) (G := fun ws rs => inner T an53 (modesOf F) 0 k 60 (S53 k) (ending T Try.f53 an53 0 K) cd53_0 (sh sp53_0 ws rs) N X) (fun x y => Eq.trans (by kernel_rfl) (Eq.trans (i53_0 k K N X x.2.2.2.2.1 x.2.2.2.2.2.1 y.2.1.1 y.2.1.2.1 k x.2.2.2.2.2.2.1 y.1.1 y.1.2.1 y.1.2.2.1 y.2.2.1 y.2.2.2.1).symm (by kernel_rfl))) ws rs
end
theorem e53 (k : Nat) (a0 : Int) (a1 : Int) (a2 : List Int) (a3 : List (List Int)) (K : List PV → List RowS → Option R) : callC T F k 53 [.agg [.val [] (.int .i64) a0, .val [] (.int .i64) a1, .val [(0, 0)] (.slice (.int .i64)) a2], .val [(0, 0)] (.slice (.slice (.int .u8))) a3] [] K = f53 k a0 a1 a2 a3 (fun z0 z1 z2 z3 z4 z5 => K [.agg [.val [] (.int .i64) z0, .val [] (.int .i64) z1, .rw 1], .rw 2, .rw 3, .val [] (.int .i64) z2] [⟨0, .arr [] (.int .i64) z3⟩, ⟨0, .arr [] (.slice (.int .u8)) z4⟩, ⟨0, .arr [] (.int .i64) z5⟩]) := by
  rw [f53_def]
  cases k with
  | zero => rfl
  | succ k =>
    refine Eq.trans (show _ = exec T an53 (modesOf F) 0 k 60 (callC T F k) (ending T Try.f53 an53 0 K) (bodyOf Try.f53) ⟨argEnv 0 [.agg [.val [] (.int .i64) a0, .val [] (.int .i64) a1, .val [(0, 0)] (.slice (.int .i64)) a2], .val [(0, 0)] (.slice (.slice (.int .u8))) a3] (fun _ => none), rowsOf []⟩ (ending T Try.f53 an53 0 K) (fun _ _ => none) from by kernel_rfl) ?_
    rw [← S53_eq k, ← execS_eq T an53 (modesOf F) 0 k 60 (S53 k) (L53 k K) (bodyOf Try.f53) (cuts_of _ _ _ _ _ _ _ _ (bodyOf Try.f53) (l := [(0, sp53_0, cd53_0)]) (by kernel_rfl) ⟨l53_0 k K, trivial⟩)]
    kernel_rfl
noncomputable def s53 (k : Nat) (a : List PV) (r : List RowS) (K : List PV → List RowS → Option R) : Option R :=
  onShape [.agg [.val [] (.int .i64), .val [] (.int .i64), .val [(0, 0)] (.slice (.int .i64))], .val [(0, 0)] (.slice (.slice (.int .u8)))] [] (fun v => f53 k v.1.1.1 v.1.1.2.1 v.1.1.2.2.1 v.1.2.1 (fun z0 z1 z2 z3 z4 z5 => K [.agg [.val [] (.int .i64) z0, .val [] (.int .i64) z1, .rw 1], .rw 2, .rw 3, .val [] (.int .i64) z2] [⟨0, .arr [] (.int .i64) z3⟩, ⟨0, .arr [] (.slice (.int .u8)) z4⟩, ⟨0, .arr [] (.int .i64) z5⟩])) (callC T F k 53 a r K) a r
theorem s53_eq (k : Nat) (a : List PV) (r : List RowS) (K : List PV → List RowS → Option R) : s53 k a r K = callC T F k 53 a r K := by
  unfold s53
  exact onShape_eq (a := [.agg [.val [] (.int .i64), .val [] (.int .i64), .val [(0, 0)] (.slice (.int .i64))], .val [(0, 0)] (.slice (.slice (.int .u8)))]) (b := []) (G := fun a r => callC T F k 53 a r K) (fun x y => Eq.trans (by kernel_rfl) (Eq.trans (e53 k x.1.1 x.1.2.1 x.1.2.2.1 x.2.1 K).symm (by kernel_rfl))) a r
end
section
variable {R : Type}
noncomputable def S54 (k g : Nat) (a : List PV) (r : List RowS) (K : List PV → List RowS → Option R) : Option R := callC T F k g a r K
theorem S54_eq (k : Nat) : S54 (R := R) k = callC T F k := by
  funext g a r K
  exact rfl
section
variable {R : Type} (k : Nat) (K : List PV → List RowS → Option R)
noncomputable def L54_0 (ws : List PV) (rs : List RowS) (N : St → Option R) (X : Nat → St → Option R) : Option R :=
  onShape [.val [(0, 0)] (.slice (.int .i64)), .val [(0, 0)] (.slice (.int .i64)), .val [] (.int .i64), .val [] (.int .i64)] [] (fun v => f54_0 k (fun z0 => K [.val [] .bool z0] []) (N (sh jn54_0 [] [])) v.1.1 v.1.2.1 v.1.2.2.1 k v.1.2.2.2.1) (inner T an54 (modesOf F) 0 k 26 (S54 k) (ending T Try.f54 an54 0 K) cd54_0 (sh sp54_0 ws rs) N X) ws rs
noncomputable def L54 (id : Nat) (ws : List PV) (rs : List RowS) (N : St → Option R) (X : Nat → St → Option R) : Option R := bif id == 0 then L54_0 k K ws rs N X else none
theorem b54_0 (rec : St → Option R) (N : St → Option R) (X : Nat → St → Option R) (v0_0 : List Int) (v0_1 : List Int) (v0_2 : Int) (v0_3 : Int) :
    execS T an54 (modesOf F) 0 k 26 (S54 k) (L54 k K) (ending T Try.f54 an54 0 K) bd54_0 (sh sp54_0 [.val [(0, 0)] (.slice (.int .i64)) v0_0, .val [(0, 0)] (.slice (.int .i64)) v0_1, .val [] (.int .i64) v0_2, .val [] (.int .i64) v0_3] []) (fun st => atHead an54 0 bd54_0 st rec) (outX an54 0 0 N X) =
      f54_0b k (fun v0_3 => rec (sh sp54_0 [.val [(0, 0)] (.slice (.int .i64)) v0_0, .val [(0, 0)] (.slice (.int .i64)) v0_1, .val [] (.int .i64) v0_2, .val [] (.int .i64) v0_3] [])) (fun z0 => K [.val [] .bool z0] []) (N (sh jn54_0 [] [])) v0_0 v0_1 v0_2 v0_3 := by kernel_rfl
theorem i54_0 (N : St → Option R) (X : Nat → St → Option R) (v0_0 : List Int) (v0_1 : List Int) (v0_2 : Int) (m : Nat) : ∀ (v0_3 : Int),
    iter (atHead an54 0 bd54_0) m (fun st N' => exec T an54 (modesOf F) 0 k 26 (S54 k) (ending T Try.f54 an54 0 K) bd54_0 st N' (outX an54 0 0 N X)) (sh sp54_0 [.val [(0, 0)] (.slice (.int .i64)) v0_0, .val [(0, 0)] (.slice (.int .i64)) v0_1, .val [] (.int .i64) v0_2, .val [] (.int .i64) v0_3] []) = f54_0d k (fun z0 => K [.val [] .bool z0] []) (N (sh jn54_0 [] [])) v0_0 v0_1 v0_2 m v0_3 := by
  induction m with
  | zero => intros; rfl
  | succ m ih =>
    intro v0_3
    simp only [iter]
    rw [← execS_eq T an54 (modesOf F) 0 k 26 (S54 k) (L54 k K) bd54_0 (cuts_of _ _ _ _ _ _ _ _ bd54_0 (l := []) (by kernel_rfl) trivial)]
    refine (b54_0 k K _ N X v0_0 v0_1 v0_2 v0_3).trans ?_
    simp only [f54_0d, ih]
theorem l54_0 (ws : List PV) (rs : List RowS) (N : St → Option R) (X : Nat → St → Option R) : L54 k K 0 ws rs N X = inner T an54 (modesOf F) 0 k 26 (S54 k) (ending T Try.f54 an54 0 K) cd54_0 (sh sp54_0 ws rs) N X := by
  show L54_0 k K ws rs N X = _
  unfold L54_0
  rw [f54_0_def]
  exact onShape_eq (a := [.val [(0, 0)] (.slice (.int .i64)), .val [(0, 0)] (.slice (.int .i64)), .val [] (.int .i64), .val [] (.int .i64)]) (b := []) (G := fun ws rs => inner T an54 (modesOf F) 0 k 26 (S54 k) (ending T Try.f54 an54 0 K) cd54_0 (sh sp54_0 ws rs) N X) (fun x y => Eq.trans (by kernel_rfl) (Eq.trans (i54_0 k K N X x.1 x.2.1 x.2.2.1 k x.2.2.2.1).symm (by kernel_rfl))) ws rs
end
theorem e54 (k : Nat) (a0 : List Int) (a1 : List Int) (K : List PV → List RowS → Option R) : callC T F k 54 [.val [(0, 0)] (.slice (.int .i64)) a0, .val [(0, 0)] (.slice (.int .i64)) a1] [] K = f54 k a0 a1 (fun z0 => K [.val [] .bool z0] []) := by
  rw [f54_def]
  cases k with
  | zero => rfl
  | succ k =>
    refine Eq.trans (show _ = exec T an54 (modesOf F) 0 k 26 (callC T F k) (ending T Try.f54 an54 0 K) (bodyOf Try.f54) ⟨argEnv 0 [.val [(0, 0)] (.slice (.int .i64)) a0, .val [(0, 0)] (.slice (.int .i64)) a1] (fun _ => none), rowsOf []⟩ (ending T Try.f54 an54 0 K) (fun _ _ => none) from by kernel_rfl) ?_
    rw [← S54_eq k, ← execS_eq T an54 (modesOf F) 0 k 26 (S54 k) (L54 k K) (bodyOf Try.f54) (cuts_of _ _ _ _ _ _ _ _ (bodyOf Try.f54) (l := [(0, sp54_0, cd54_0)]) (by kernel_rfl) ⟨l54_0 k K, trivial⟩)]
    kernel_rfl
noncomputable def s54 (k : Nat) (a : List PV) (r : List RowS) (K : List PV → List RowS → Option R) : Option R :=
  onShape [.val [(0, 0)] (.slice (.int .i64)), .val [(0, 0)] (.slice (.int .i64))] [] (fun v => f54 k v.1.1 v.1.2.1 (fun z0 => K [.val [] .bool z0] [])) (callC T F k 54 a r K) a r
theorem s54_eq (k : Nat) (a : List PV) (r : List RowS) (K : List PV → List RowS → Option R) : s54 k a r K = callC T F k 54 a r K := by
  unfold s54
  exact onShape_eq (a := [.val [(0, 0)] (.slice (.int .i64)), .val [(0, 0)] (.slice (.int .i64))]) (b := []) (G := fun a r => callC T F k 54 a r K) (fun x y => Eq.trans (by kernel_rfl) (Eq.trans (e54 k x.1 x.2.1 K).symm (by kernel_rfl))) a r
end
section
variable {R : Type}
noncomputable def S46 (k g : Nat) (a : List PV) (r : List RowS) (K : List PV → List RowS → Option R) : Option R := bif g == 24 then s24 k a r K else callC T F k g a r K
theorem S46_eq (k : Nat) : S46 (R := R) k = callC T F k := by
  funext g a r K
  exact pick_eq (fun e => by subst e; exact s24_eq k a r K) (rfl)
section
variable {R : Type} (k : Nat) (K : List PV → List RowS → Option R)
noncomputable def L46_0 (ws : List PV) (rs : List RowS) (N : St → Option R) (X : Nat → St → Option R) : Option R :=
  onShape [.val [(0, 0)] (.slice (.slice (.int .u8))), .val [(0, 0)] (.slice (.slice (.int .u8))), .val [] (.int .i64), .val [] (.int .i64)] [] (fun v => f46_0 k (fun z0 => K [.val [] .bool z0] []) (N (sh jn46_0 [] [])) v.1.1 v.1.2.1 v.1.2.2.1 k v.1.2.2.2.1) (inner T an46 (modesOf F) 0 k 27 (S46 k) (ending T Try.f46 an46 0 K) cd46_0 (sh sp46_0 ws rs) N X) ws rs
noncomputable def L46 (id : Nat) (ws : List PV) (rs : List RowS) (N : St → Option R) (X : Nat → St → Option R) : Option R := bif id == 0 then L46_0 k K ws rs N X else none
theorem b46_0 (rec : St → Option R) (N : St → Option R) (X : Nat → St → Option R) (v0_0 : List (List Int)) (v0_1 : List (List Int)) (v0_2 : Int) (v0_3 : Int) :
    execS T an46 (modesOf F) 0 k 27 (S46 k) (L46 k K) (ending T Try.f46 an46 0 K) bd46_0 (sh sp46_0 [.val [(0, 0)] (.slice (.slice (.int .u8))) v0_0, .val [(0, 0)] (.slice (.slice (.int .u8))) v0_1, .val [] (.int .i64) v0_2, .val [] (.int .i64) v0_3] []) (fun st => atHead an46 0 bd46_0 st rec) (outX an46 0 0 N X) =
      f46_0b k (fun v0_3 => rec (sh sp46_0 [.val [(0, 0)] (.slice (.slice (.int .u8))) v0_0, .val [(0, 0)] (.slice (.slice (.int .u8))) v0_1, .val [] (.int .i64) v0_2, .val [] (.int .i64) v0_3] [])) (fun z0 => K [.val [] .bool z0] []) (N (sh jn46_0 [] [])) v0_0 v0_1 v0_2 v0_3 := by kernel_rfl
theorem i46_0 (N : St → Option R) (X : Nat → St → Option R) (v0_0 : List (List Int)) (v0_1 : List (List Int)) (v0_2 : Int) (m : Nat) : ∀ (v0_3 : Int),
    iter (atHead an46 0 bd46_0) m (fun st N' => exec T an46 (modesOf F) 0 k 27 (S46 k) (ending T Try.f46 an46 0 K) bd46_0 st N' (outX an46 0 0 N X)) (sh sp46_0 [.val [(0, 0)] (.slice (.slice (.int .u8))) v0_0, .val [(0, 0)] (.slice (.slice (.int .u8))) v0_1, .val [] (.int .i64) v0_2, .val [] (.int .i64) v0_3] []) = f46_0d k (fun z0 => K [.val [] .bool z0] []) (N (sh jn46_0 [] [])) v0_0 v0_1 v0_2 m v0_3 := by
  induction m with
  | zero => intros; rfl
  | succ m ih =>
    intro v0_3
    simp only [iter]
    rw [← execS_eq T an46 (modesOf F) 0 k 27 (S46 k) (L46 k K) bd46_0 (cuts_of _ _ _ _ _ _ _ _ bd46_0 (l := []) (by kernel_rfl) trivial)]
    refine (b46_0 k K _ N X v0_0 v0_1 v0_2 v0_3).trans ?_
    simp only [f46_0d, ih]
theorem l46_0 (ws : List PV) (rs : List RowS) (N : St → Option R) (X : Nat → St → Option R) : L46 k K 0 ws rs N X = inner T an46 (modesOf F) 0 k 27 (S46 k) (ending T Try.f46 an46 0 K) cd46_0 (sh sp46_0 ws rs) N X := by
  show L46_0 k K ws rs N X = _
  unfold L46_0
  rw [f46_0_def]
  exact onShape_eq (a := [.val [(0, 0)] (.slice (.slice (.int .u8))), .val [(0, 0)] (.slice (.slice (.int .u8))), .val [] (.int .i64), .val [] (.int .i64)]) (b := []) (G := fun ws rs => inner T an46 (modesOf F) 0 k 27 (S46 k) (ending T Try.f46 an46 0 K) cd46_0 (sh sp46_0 ws rs) N X) (fun x y => Eq.trans (by kernel_rfl) (Eq.trans (i46_0 k K N X x.1 x.2.1 x.2.2.1 k x.2.2.2.1).symm (by kernel_rfl))) ws rs
end
theorem e46 (k : Nat) (a0 : List (List Int)) (a1 : List (List Int)) (K : List PV → List RowS → Option R) : callC T F k 46 [.val [(0, 0)] (.slice (.slice (.int .u8))) a0, .val [(0, 0)] (.slice (.slice (.int .u8))) a1] [] K = f46 k a0 a1 (fun z0 => K [.val [] .bool z0] []) := by
  rw [f46_def]
  cases k with
  | zero => rfl
  | succ k =>
    refine Eq.trans (show _ = exec T an46 (modesOf F) 0 k 27 (callC T F k) (ending T Try.f46 an46 0 K) (bodyOf Try.f46) ⟨argEnv 0 [.val [(0, 0)] (.slice (.slice (.int .u8))) a0, .val [(0, 0)] (.slice (.slice (.int .u8))) a1] (fun _ => none), rowsOf []⟩ (ending T Try.f46 an46 0 K) (fun _ _ => none) from by kernel_rfl) ?_
    rw [← S46_eq k, ← execS_eq T an46 (modesOf F) 0 k 27 (S46 k) (L46 k K) (bodyOf Try.f46) (cuts_of _ _ _ _ _ _ _ _ (bodyOf Try.f46) (l := [(0, sp46_0, cd46_0)]) (by kernel_rfl) ⟨l46_0 k K, trivial⟩)]
    kernel_rfl
noncomputable def s46 (k : Nat) (a : List PV) (r : List RowS) (K : List PV → List RowS → Option R) : Option R :=
  onShape [.val [(0, 0)] (.slice (.slice (.int .u8))), .val [(0, 0)] (.slice (.slice (.int .u8)))] [] (fun v => f46 k v.1.1 v.1.2.1 (fun z0 => K [.val [] .bool z0] [])) (callC T F k 46 a r K) a r
theorem s46_eq (k : Nat) (a : List PV) (r : List RowS) (K : List PV → List RowS → Option R) : s46 k a r K = callC T F k 46 a r K := by
  unfold s46
  exact onShape_eq (a := [.val [(0, 0)] (.slice (.slice (.int .u8))), .val [(0, 0)] (.slice (.slice (.int .u8)))]) (b := []) (G := fun a r => callC T F k 46 a r K) (fun x y => Eq.trans (by kernel_rfl) (Eq.trans (e46 k x.1 x.2.1 K).symm (by kernel_rfl))) a r
end
section
variable {R : Type}
noncomputable def S55 (k g : Nat) (a : List PV) (r : List RowS) (K : List PV → List RowS → Option R) : Option R := bif g == 54 then s54 k a r K else callC T F k g a r K
theorem S55_eq (k : Nat) : S55 (R := R) k = callC T F k := by
  funext g a r K
  exact pick_eq (fun e => by subst e; exact s54_eq k a r K) (rfl)
theorem e55 (k : Nat) (a0 : Int) (a1 : Int) (a2 : List Int) (a3 : Int) (a4 : Int) (a5 : List Int) (K : List PV → List RowS → Option R) : callC T F k 55 [.agg [.val [] (.int .i64) a0, .val [] (.int .i64) a1, .val [(0, 0)] (.slice (.int .i64)) a2], .agg [.val [] (.int .i64) a3, .val [] (.int .i64) a4, .val [(0, 0)] (.slice (.int .i64)) a5]] [] K = f55 k a0 a1 a2 a3 a4 a5 (fun z0 => K [.val [] .bool z0] []) := by
  rw [f55_def]
  cases k with
  | zero => rfl
  | succ k =>
    refine Eq.trans (show _ = exec T an55 (modesOf F) 0 k 24 (callC T F k) (ending T Try.f55 an55 0 K) (bodyOf Try.f55) ⟨argEnv 0 [.agg [.val [] (.int .i64) a0, .val [] (.int .i64) a1, .val [(0, 0)] (.slice (.int .i64)) a2], .agg [.val [] (.int .i64) a3, .val [] (.int .i64) a4, .val [(0, 0)] (.slice (.int .i64)) a5]] (fun _ => none), rowsOf []⟩ (ending T Try.f55 an55 0 K) (fun _ _ => none) from by kernel_rfl) ?_
    rw [← S55_eq k, ← execS_eq T an55 (modesOf F) 0 k 24 (S55 k) (fun _ _ _ _ _ => none) (bodyOf Try.f55) (cuts_of _ _ _ _ _ _ _ _ (bodyOf Try.f55) (l := []) (by kernel_rfl) trivial)]
    kernel_rfl
noncomputable def s55 (k : Nat) (a : List PV) (r : List RowS) (K : List PV → List RowS → Option R) : Option R :=
  onShape [.agg [.val [] (.int .i64), .val [] (.int .i64), .val [(0, 0)] (.slice (.int .i64))], .agg [.val [] (.int .i64), .val [] (.int .i64), .val [(0, 0)] (.slice (.int .i64))]] [] (fun v => f55 k v.1.1.1 v.1.1.2.1 v.1.1.2.2.1 v.1.2.1.1 v.1.2.1.2.1 v.1.2.1.2.2.1 (fun z0 => K [.val [] .bool z0] [])) (callC T F k 55 a r K) a r
theorem s55_eq (k : Nat) (a : List PV) (r : List RowS) (K : List PV → List RowS → Option R) : s55 k a r K = callC T F k 55 a r K := by
  unfold s55
  exact onShape_eq (a := [.agg [.val [] (.int .i64), .val [] (.int .i64), .val [(0, 0)] (.slice (.int .i64))], .agg [.val [] (.int .i64), .val [] (.int .i64), .val [(0, 0)] (.slice (.int .i64))]]) (b := []) (G := fun a r => callC T F k 55 a r K) (fun x y => Eq.trans (by kernel_rfl) (Eq.trans (e55 k x.1.1 x.1.2.1 x.1.2.2.1 x.2.1.1 x.2.1.2.1 x.2.1.2.2.1 K).symm (by kernel_rfl))) a r
end
section
variable {R : Type}
noncomputable def S14 (k g : Nat) (a : List PV) (r : List RowS) (K : List PV → List RowS → Option R) : Option R := bif g == 21 then s21 k a r K else bif g == 46 then s46 k a r K else bif g == 52 then s52 k a r K else bif g == 53 then s53 k a r K else bif g == 54 then s54 k a r K else bif g == 55 then s55 k a r K else callC T F k g a r K
theorem S14_eq (k : Nat) : S14 (R := R) k = callC T F k := by
  funext g a r K
  exact pick_eq (fun e => by subst e; exact s21_eq k a r K) (pick_eq (fun e => by subst e; exact s46_eq k a r K) (pick_eq (fun e => by subst e; exact s52_eq k a r K) (pick_eq (fun e => by subst e; exact s53_eq k a r K) (pick_eq (fun e => by subst e; exact s54_eq k a r K) (pick_eq (fun e => by subst e; exact s55_eq k a r K) (rfl))))))
theorem e14 (k : Nat) (a0 : Int) (a1 : Int) (a2 : List Int) (a3 : List (List Int)) (K : List PV → List RowS → Option R) : callC T F k 14 [.agg [.val [] (.int .i64) a0, .val [] (.int .i64) a1, .val [(0, 0)] (.slice (.int .i64)) a2], .val [(0, 0)] (.slice (.slice (.int .u8))) a3] [] K = f14 k a0 a1 a2 a3 (fun z0 => K [.val [] .bool z0] []) := by
  rw [f14_def]
  cases k with
  | zero => rfl
  | succ k =>
    refine Eq.trans (show _ = exec T an14 (modesOf F) 0 k 50 (callC T F k) (ending T Try.f14 an14 0 K) (bodyOf Try.f14) ⟨argEnv 0 [.agg [.val [] (.int .i64) a0, .val [] (.int .i64) a1, .val [(0, 0)] (.slice (.int .i64)) a2], .val [(0, 0)] (.slice (.slice (.int .u8))) a3] (fun _ => none), rowsOf []⟩ (ending T Try.f14 an14 0 K) (fun _ _ => none) from by kernel_rfl) ?_
    rw [← S14_eq k, ← execS_eq T an14 (modesOf F) 0 k 50 (S14 k) (fun _ _ _ _ _ => none) (bodyOf Try.f14) (cuts_of _ _ _ _ _ _ _ _ (bodyOf Try.f14) (l := []) (by kernel_rfl) trivial)]
    kernel_rfl
noncomputable def s14 (k : Nat) (a : List PV) (r : List RowS) (K : List PV → List RowS → Option R) : Option R :=
  onShape [.agg [.val [] (.int .i64), .val [] (.int .i64), .val [(0, 0)] (.slice (.int .i64))], .val [(0, 0)] (.slice (.slice (.int .u8)))] [] (fun v => f14 k v.1.1.1 v.1.1.2.1 v.1.1.2.2.1 v.1.2.1 (fun z0 => K [.val [] .bool z0] [])) (callC T F k 14 a r K) a r
theorem s14_eq (k : Nat) (a : List PV) (r : List RowS) (K : List PV → List RowS → Option R) : s14 k a r K = callC T F k 14 a r K := by
  unfold s14
  exact onShape_eq (a := [.agg [.val [] (.int .i64), .val [] (.int .i64), .val [(0, 0)] (.slice (.int .i64))], .val [(0, 0)] (.slice (.slice (.int .u8)))]) (b := []) (G := fun a r => callC T F k 14 a r K) (fun x y => Eq.trans (by kernel_rfl) (Eq.trans (e14 k x.1.1 x.1.2.1 x.1.2.2.1 x.2.1 K).symm (by kernel_rfl))) a r
end
section
variable {R : Type}
noncomputable def S72 (k g : Nat) (a : List PV) (r : List RowS) (K : List PV → List RowS → Option R) : Option R := callC T F k g a r K
theorem S72_eq (k : Nat) : S72 (R := R) k = callC T F k := by
  funext g a r K
  exact rfl
theorem e72 (k : Nat) (a0 : List Int) (K : List PV → List RowS → Option R) : callC T F k 72 [.val [(0, 0)] (.slice (.int .u8)) a0] [] K = f72 k a0 (fun z0 => K [.val [] (.int .i64) z0] []) := by
  rw [f72_def]
  cases k with
  | zero => rfl
  | succ k =>
    refine Eq.trans (show _ = exec T an72 (modesOf F) 0 k 9 (callC T F k) (ending T Try.f72 an72 0 K) (bodyOf Try.f72) ⟨argEnv 0 [.val [(0, 0)] (.slice (.int .u8)) a0] (fun _ => none), rowsOf []⟩ (ending T Try.f72 an72 0 K) (fun _ _ => none) from by kernel_rfl) ?_
    rw [← S72_eq k, ← execS_eq T an72 (modesOf F) 0 k 9 (S72 k) (fun _ _ _ _ _ => none) (bodyOf Try.f72) (cuts_of _ _ _ _ _ _ _ _ (bodyOf Try.f72) (l := []) (by kernel_rfl) trivial)]
    kernel_rfl
noncomputable def s72 (k : Nat) (a : List PV) (r : List RowS) (K : List PV → List RowS → Option R) : Option R :=
  onShape [.val [(0, 0)] (.slice (.int .u8))] [] (fun v => f72 k v.1.1 (fun z0 => K [.val [] (.int .i64) z0] [])) (callC T F k 72 a r K) a r
theorem s72_eq (k : Nat) (a : List PV) (r : List RowS) (K : List PV → List RowS → Option R) : s72 k a r K = callC T F k 72 a r K := by
  unfold s72
  exact onShape_eq (a := [.val [(0, 0)] (.slice (.int .u8))]) (b := []) (G := fun a r => callC T F k 72 a r K) (fun x y => Eq.trans (by kernel_rfl) (Eq.trans (e72 k x.1 K).symm (by kernel_rfl))) a r
end
section
variable {R : Type}
noncomputable def S56 (k g : Nat) (a : List PV) (r : List RowS) (K : List PV → List RowS → Option R) : Option R := bif g == 63 then s63 k a r K else bif g == 72 then s72 k a r K else bif g == 88 then s88 k a r K else bif g == 89 then s89 k a r K else callC T F k g a r K
theorem S56_eq (k : Nat) : S56 (R := R) k = callC T F k := by
  funext g a r K
  exact pick_eq (fun e => by subst e; exact s63_eq k a r K) (pick_eq (fun e => by subst e; exact s72_eq k a r K) (pick_eq (fun e => by subst e; exact s88_eq k a r K) (pick_eq (fun e => by subst e; exact s89_eq k a r K) (rfl))))
theorem e56 (k : Nat) (a0 : Int) (a1 : Int) (a2 : List Int) (K : List PV → List RowS → Option R) : callC T F k 56 [.val [] (.int .i64) a0, .val [] (.int .i64) a1, .val [(0, 0)] (.slice (.int .u8)) a2] [] K = f56 k a0 a1 a2 (fun z0 z1 => K [.rw 1, .val [] (.int .i64) z0] [⟨0, .arr [] (.int .u8) z1⟩]) := by
  rw [f56_def]
  cases k with
  | zero => rfl
  | succ k =>
    refine Eq.trans (show _ = exec T an56 (modesOf F) 0 k 34 (callC T F k) (ending T Try.f56 an56 0 K) (bodyOf Try.f56) ⟨argEnv 0 [.val [] (.int .i64) a0, .val [] (.int .i64) a1, .val [(0, 0)] (.slice (.int .u8)) a2] (fun _ => none), rowsOf []⟩ (ending T Try.f56 an56 0 K) (fun _ _ => none) from by kernel_rfl) ?_
    rw [← S56_eq k, ← execS_eq T an56 (modesOf F) 0 k 34 (S56 k) (fun _ _ _ _ _ => none) (bodyOf Try.f56) (cuts_of _ _ _ _ _ _ _ _ (bodyOf Try.f56) (l := []) (by kernel_rfl) trivial)]
    kernel_rfl
noncomputable def s56 (k : Nat) (a : List PV) (r : List RowS) (K : List PV → List RowS → Option R) : Option R :=
  onShape [.val [] (.int .i64), .val [] (.int .i64), .val [(0, 0)] (.slice (.int .u8))] [] (fun v => f56 k v.1.1 v.1.2.1 v.1.2.2.1 (fun z0 z1 => K [.rw 1, .val [] (.int .i64) z0] [⟨0, .arr [] (.int .u8) z1⟩])) (callC T F k 56 a r K) a r
theorem s56_eq (k : Nat) (a : List PV) (r : List RowS) (K : List PV → List RowS → Option R) : s56 k a r K = callC T F k 56 a r K := by
  unfold s56
  exact onShape_eq (a := [.val [] (.int .i64), .val [] (.int .i64), .val [(0, 0)] (.slice (.int .u8))]) (b := []) (G := fun a r => callC T F k 56 a r K) (fun x y => Eq.trans (by kernel_rfl) (Eq.trans (e56 k x.1 x.2.1 x.2.2.1 K).symm (by kernel_rfl))) a r
end
section
variable {R : Type}
noncomputable def S58 (k g : Nat) (a : List PV) (r : List RowS) (K : List PV → List RowS → Option R) : Option R := bif g == 57 then s57 k a r K else bif g == 87 then s87 k a r K else callC T F k g a r K
theorem S58_eq (k : Nat) : S58 (R := R) k = callC T F k := by
  funext g a r K
  exact pick_eq (fun e => by subst e; exact s57_eq k a r K) (pick_eq (fun e => by subst e; exact s87_eq k a r K) (rfl))
theorem e58 (k : Nat) (a0 : Int) (a1 : Int) (a2 : List Int) (a3 : List Int) (K : List PV → List RowS → Option R) : callC T F k 58 [.agg [.val [] (.int .i64) a0, .val [] (.int .i64) a1, .val [(0, 0)] (.slice (.int .i64)) a2], .val [(0, 0)] (.slice (.int .u8)) a3] [] K = f58 k a0 a1 a2 a3 (fun z0 z1 z2 z3 z4 z5 => K [.agg [.val [] (.int .i64) z0, .val [] (.int .i64) z1, .rw 1], .rw 2, .val [] (.int .i64) z2, .val [] (.int .i64) z3] [⟨0, .arr [] (.int .i64) z4⟩, ⟨0, .arr [] (.int .u8) z5⟩]) := by
  rw [f58_def]
  cases k with
  | zero => rfl
  | succ k =>
    refine Eq.trans (show _ = exec T an58 (modesOf F) 0 k 22 (callC T F k) (ending T Try.f58 an58 0 K) (bodyOf Try.f58) ⟨argEnv 0 [.agg [.val [] (.int .i64) a0, .val [] (.int .i64) a1, .val [(0, 0)] (.slice (.int .i64)) a2], .val [(0, 0)] (.slice (.int .u8)) a3] (fun _ => none), rowsOf []⟩ (ending T Try.f58 an58 0 K) (fun _ _ => none) from by kernel_rfl) ?_
    rw [← S58_eq k, ← execS_eq T an58 (modesOf F) 0 k 22 (S58 k) (fun _ _ _ _ _ => none) (bodyOf Try.f58) (cuts_of _ _ _ _ _ _ _ _ (bodyOf Try.f58) (l := []) (by kernel_rfl) trivial)]
    kernel_rfl
noncomputable def s58 (k : Nat) (a : List PV) (r : List RowS) (K : List PV → List RowS → Option R) : Option R :=
  onShape [.agg [.val [] (.int .i64), .val [] (.int .i64), .val [(0, 0)] (.slice (.int .i64))], .val [(0, 0)] (.slice (.int .u8))] [] (fun v => f58 k v.1.1.1 v.1.1.2.1 v.1.1.2.2.1 v.1.2.1 (fun z0 z1 z2 z3 z4 z5 => K [.agg [.val [] (.int .i64) z0, .val [] (.int .i64) z1, .rw 1], .rw 2, .val [] (.int .i64) z2, .val [] (.int .i64) z3] [⟨0, .arr [] (.int .i64) z4⟩, ⟨0, .arr [] (.int .u8) z5⟩])) (callC T F k 58 a r K) a r
theorem s58_eq (k : Nat) (a : List PV) (r : List RowS) (K : List PV → List RowS → Option R) : s58 k a r K = callC T F k 58 a r K := by
  unfold s58
  exact onShape_eq (a := [.agg [.val [] (.int .i64), .val [] (.int .i64), .val [(0, 0)] (.slice (.int .i64))], .val [(0, 0)] (.slice (.int .u8))]) (b := []) (G := fun a r => callC T F k 58 a r K) (fun x y => Eq.trans (by kernel_rfl) (Eq.trans (e58 k x.1.1 x.1.2.1 x.1.2.2.1 x.2.1 K).symm (by kernel_rfl))) a r
end
section
variable {R : Type}
noncomputable def S15 (k g : Nat) (a : List PV) (r : List RowS) (K : List PV → List RowS → Option R) : Option R := bif g == 21 then s21 k a r K else bif g == 24 then s24 k a r K else bif g == 48 then s48 k a r K else bif g == 49 then s49 k a r K else bif g == 50 then s50 k a r K else bif g == 55 then s55 k a r K else bif g == 56 then s56 k a r K else bif g == 57 then s57 k a r K else bif g == 58 then s58 k a r K else callC T F k g a r K
theorem S15_eq (k : Nat) : S15 (R := R) k = callC T F k := by
  funext g a r K
  exact pick_eq (fun e => by subst e; exact s21_eq k a r K) (pick_eq (fun e => by subst e; exact s24_eq k a r K) (pick_eq (fun e => by subst e; exact s48_eq k a r K) (pick_eq (fun e => by subst e; exact s49_eq k a r K) (pick_eq (fun e => by subst e; exact s50_eq k a r K) (pick_eq (fun e => by subst e; exact s55_eq k a r K) (pick_eq (fun e => by subst e; exact s56_eq k a r K) (pick_eq (fun e => by subst e; exact s57_eq k a r K) (pick_eq (fun e => by subst e; exact s58_eq k a r K) (rfl)))))))))
theorem e15 (k : Nat) (a0 : Int) (a1 : Int) (a2 : List Int) (a3 : Int) (a4 : Int) (a5 : List Int) (a6 : List Int) (K : List PV → List RowS → Option R) : callC T F k 15 [.val [] (.int .i64) a0, .val [] (.int .i64) a1, .val [(0, 0)] (.slice (.int .u8)) a2, .agg [.val [] (.int .i64) a3, .val [] (.int .i64) a4, .val [(0, 0)] (.slice (.int .i64)) a5], .val [(0, 0)] (.slice (.int .u8)) a6] [] K = f15 k a0 a1 a2 a3 a4 a5 a6 (fun z0 => K [.val [] .bool z0] []) := by
  rw [f15_def]
  cases k with
  | zero => rfl
  | succ k =>
    refine Eq.trans (show _ = exec T an15 (modesOf F) 0 k 88 (callC T F k) (ending T Try.f15 an15 0 K) (bodyOf Try.f15) ⟨argEnv 0 [.val [] (.int .i64) a0, .val [] (.int .i64) a1, .val [(0, 0)] (.slice (.int .u8)) a2, .agg [.val [] (.int .i64) a3, .val [] (.int .i64) a4, .val [(0, 0)] (.slice (.int .i64)) a5], .val [(0, 0)] (.slice (.int .u8)) a6] (fun _ => none), rowsOf []⟩ (ending T Try.f15 an15 0 K) (fun _ _ => none) from by kernel_rfl) ?_
    rw [← S15_eq k, ← execS_eq T an15 (modesOf F) 0 k 88 (S15 k) (fun _ _ _ _ _ => none) (bodyOf Try.f15) (cuts_of _ _ _ _ _ _ _ _ (bodyOf Try.f15) (l := []) (by kernel_rfl) trivial)]
    kernel_rfl
noncomputable def s15 (k : Nat) (a : List PV) (r : List RowS) (K : List PV → List RowS → Option R) : Option R :=
  onShape [.val [] (.int .i64), .val [] (.int .i64), .val [(0, 0)] (.slice (.int .u8)), .agg [.val [] (.int .i64), .val [] (.int .i64), .val [(0, 0)] (.slice (.int .i64))], .val [(0, 0)] (.slice (.int .u8))] [] (fun v => f15 k v.1.1 v.1.2.1 v.1.2.2.1 v.1.2.2.2.1.1 v.1.2.2.2.1.2.1 v.1.2.2.2.1.2.2.1 v.1.2.2.2.2.1 (fun z0 => K [.val [] .bool z0] [])) (callC T F k 15 a r K) a r
theorem s15_eq (k : Nat) (a : List PV) (r : List RowS) (K : List PV → List RowS → Option R) : s15 k a r K = callC T F k 15 a r K := by
  unfold s15
  exact onShape_eq (a := [.val [] (.int .i64), .val [] (.int .i64), .val [(0, 0)] (.slice (.int .u8)), .agg [.val [] (.int .i64), .val [] (.int .i64), .val [(0, 0)] (.slice (.int .i64))], .val [(0, 0)] (.slice (.int .u8))]) (b := []) (G := fun a r => callC T F k 15 a r K) (fun x y => Eq.trans (by kernel_rfl) (Eq.trans (e15 k x.1 x.2.1 x.2.2.1 x.2.2.2.1.1 x.2.2.2.1.2.1 x.2.2.2.1.2.2.1 x.2.2.2.2.1 K).symm (by kernel_rfl))) a r
end
end Go.Proofs.Ytadkplikobhckaa.PM
