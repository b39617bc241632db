/- The small machine's run is the typed form (printed by a program of this work). -/
import Derived.Test.YtadkplikobhckaaPA0
set_option linter.unusedVariables false
set_option linter.unusedSimpArgs false
set_option maxRecDepth 100000
namespace Go.Proofs.Ytadkplikobhckaa.PM
open Go
noncomputable def F : Nat → Option PFn := findN [(59, .ext [.lend (.int .u8)] (cloneSpec (.int .u8) 1)), (62, .code Try.f62 an62), (70, .code Try.f70 an70), (60, .code Try.f60 an60), (16, .code Try.f16 an16), (63, .code Try.f63 an63), (90, .code Try.f90 an90), (91, .code Try.f91 an91), (72, .code Try.f72 an72), (61, .code Try.f61 an61), (17, .code Try.f17 an17), (24, .code Try.f24 an24), (18, .code Try.f18 an18), (19, .code Try.f19 an19), (20, .code Try.f20 an20), (25, .code Try.f25 an25), (21, .code Try.f21 an21), (3, .code Try.f3 an3), (22, .code Try.f22 an22), (23, .code Try.f23 an23), (64, .code Try.f64 an64), (26, .code Try.f26 an26), (4, .code Try.f4 an4), (29, .code Try.f29 an29), (65, .code Try.f65 an65), (92, .code Try.f92 an92), (66, .code Try.f66 an66), (27, .code Try.f27 an27), (5, .code Try.f5 an5), (30, .code Try.f30 an30), (94, .code Try.f94 an94), (93, .code Try.f93 an93), (67, .code Try.f67 an67), (28, .code Try.f28 an28), (68, .code Try.f68 an68), (31, .code Try.f31 an31), (69, .code Try.f69 an69), (32, .code Try.f32 an32), (6, .code Try.f6 an6), (74, .code Try.f74 an74), (35, .code Try.f35 an35), (73, .ext [.lend (.slice (.int .u8))] (cloneSpec (.slice (.int .u8)) 24)), (71, .code Try.f71 an71), (33, .code Try.f33 an33), (36, .code Try.f36 an36), (34, .code Try.f34 an34), (46, .code Try.f46 an46), (37, .code Try.f37 an37), (75, .code Try.f75 an75), (38, .code Try.f38 an38), (76, .code Try.f76 an76), (39, .code Try.f39 an39), (77, .code Try.f77 an77), (40, .code Try.f40 an40), (78, .code Try.f78 an78), (41, .code Try.f41 an41), (7, .code Try.f7 an7), (79, .code Try.f79 an79), (42, .code Try.f42 an42), (45, .code Try.f45 an45), (43, .code Try.f43 an43), (8, .code Try.f8 an8), (81, .code Try.f81 an81), (95, .code Try.f95 an95), (80, .code Try.f80 an80), (44, .code Try.f44 an44), (9, .code Try.f9 an9), (47, .code Try.f47 an47), (10, .code Try.f10 an10), (11, .code Try.f11 an11)]
section
variable {R : Type}
theorem e59 (k : Nat) (a0 : List Int) (K : List PV → List RowS → Option R) : callC T F k 59 [.val [(0, 0)] (.slice (.int .u8)) a0] [] K = f59 k a0 (fun z0 => K [.rw 1] [⟨0, .arr [] (.int .u8) z0⟩]) := by
  rw [f59_def]
  cases k with
  | zero => rfl
  | succ k => exact clone_call (m := [.lend (.int .u8)]) (ty := (.int .u8)) (bytes := 1) (by kernel_rfl) a0 K
noncomputable def s59 (k : Nat) (a : List PV) (r : List RowS) (K : List PV → List RowS → Option R) : Option R :=
  onShape [.val [(0, 0)] (.slice (.int .u8))] [] (fun v => f59 k v.1.1 (fun z0 => K [.rw 1] [⟨0, .arr [] (.int .u8) z0⟩])) (callC T F k 59 a r K) a r
theorem s59_eq (k : Nat) (a : List PV) (r : List RowS) (K : List PV → List RowS → Option R) : s59 k a r K = callC T F k 59 a r K := by
  unfold s59
  exact onShape_eq (a := [.val [(0, 0)] (.slice (.int .u8))]) (b := []) (G := fun a r => callC T F k 59 a r K) (fun x y => Eq.trans (by kernel_rfl) (Eq.trans (e59 k x.1 K).symm (by kernel_rfl))) a r
end
section
variable {R : Type}
noncomputable def S62 (k g : Nat) (a : List PV) (r : List RowS) (K : List PV → List RowS → Option R) : Option R := callC T F k g a r K
theorem S62_eq (k : Nat) : S62 (R := R) k = callC T F k := by
  funext g a r K
  exact rfl
theorem e62 (k : Nat) (a0 : Int) (a1 : Int) (a2 : Int) (K : List PV → List RowS → Option R) : callC T F k 62 [.val [] (.int .i64) a0, .val [] (.int .i64) a1, .val [] (.int .i64) a2] [] K = f62 k a0 a1 a2 (fun z0 => K [.val [] .bool z0] []) := by
  rw [f62_def]
  cases k with
  | zero => rfl
  | succ k =>
    refine Eq.trans (show _ = exec T an62 (modesOf F) 0 k 15 (callC T F k) (ending T Try.f62 an62 0 K) (bodyOf Try.f62) ⟨argEnv 0 [.val [] (.int .i64) a0, .val [] (.int .i64) a1, .val [] (.int .i64) a2] (fun _ => none), rowsOf []⟩ (ending T Try.f62 an62 0 K) (fun _ _ => none) from by kernel_rfl) ?_
    rw [← S62_eq k, ← execS_eq T an62 (modesOf F) 0 k 15 (S62 k) (fun _ _ _ _ _ => none) (bodyOf Try.f62) (cuts_of _ _ _ _ _ _ _ _ (bodyOf Try.f62) (l := []) (by kernel_rfl) trivial)]
    kernel_rfl
noncomputable def s62 (k : Nat) (a : List PV) (r : List RowS) (K : List PV → List RowS → Option R) : Option R :=
  onShape [.val [] (.int .i64), .val [] (.int .i64), .val [] (.int .i64)] [] (fun v => f62 k v.1.1 v.1.2.1 v.1.2.2.1 (fun z0 => K [.val [] .bool z0] [])) (callC T F k 62 a r K) a r
theorem s62_eq (k : Nat) (a : List PV) (r : List RowS) (K : List PV → List RowS → Option R) : s62 k a r K = callC T F k 62 a r K := by
  unfold s62
  exact onShape_eq (a := [.val [] (.int .i64), .val [] (.int .i64), .val [] (.int .i64)]) (b := []) (G := fun a r => callC T F k 62 a r K) (fun x y => Eq.trans (by kernel_rfl) (Eq.trans (e62 k x.1 x.2.1 x.2.2.1 K).symm (by kernel_rfl))) a r
end
section
variable {R : Type}
noncomputable def S70 (k g : Nat) (a : List PV) (r : List RowS) (K : List PV → List RowS → Option R) : Option R := callC T F k g a r K
theorem S70_eq (k : Nat) : S70 (R := R) k = callC T F k := by
  funext g a r K
  exact rfl
theorem e70 (k : Nat) (a0 : List Int) (K : List PV → List RowS → Option R) : callC T F k 70 [.val [(0, 0)] (.slice (.int .u8)) a0] [] K = f70 k a0 (fun z0 => K [.val [] (.int .i64) z0] []) := by
  rw [f70_def]
  cases k with
  | zero => rfl
  | succ k =>
    refine Eq.trans (show _ = exec T an70 (modesOf F) 0 k 11 (callC T F k) (ending T Try.f70 an70 0 K) (bodyOf Try.f70) ⟨argEnv 0 [.val [(0, 0)] (.slice (.int .u8)) a0] (fun _ => none), rowsOf []⟩ (ending T Try.f70 an70 0 K) (fun _ _ => none) from by kernel_rfl) ?_
    rw [← S70_eq k, ← execS_eq T an70 (modesOf F) 0 k 11 (S70 k) (fun _ _ _ _ _ => none) (bodyOf Try.f70) (cuts_of _ _ _ _ _ _ _ _ (bodyOf Try.f70) (l := []) (by kernel_rfl) trivial)]
    kernel_rfl
noncomputable def s70 (k : Nat) (a : List PV) (r : List RowS) (K : List PV → List RowS → Option R) : Option R :=
  onShape [.val [(0, 0)] (.slice (.int .u8))] [] (fun v => f70 k v.1.1 (fun z0 => K [.val [] (.int .i64) z0] [])) (callC T F k 70 a r K) a r
theorem s70_eq (k : Nat) (a : List PV) (r : List RowS) (K : List PV → List RowS → Option R) : s70 k a r K = callC T F k 70 a r K := by
  unfold s70
  exact onShape_eq (a := [.val [(0, 0)] (.slice (.int .u8))]) (b := []) (G := fun a r => callC T F k 70 a r K) (fun x y => Eq.trans (by kernel_rfl) (Eq.trans (e70 k x.1 K).symm (by kernel_rfl))) a r
end
section
variable {R : Type}
noncomputable def S60 (k g : Nat) (a : List PV) (r : List RowS) (K : List PV → List RowS → Option R) : Option R := bif g == 62 then s62 k a r K else bif g == 70 then s70 k a r K else callC T F k g a r K
theorem S60_eq (k : Nat) : S60 (R := R) k = callC T F k := by
  funext g a r K
  exact pick_eq (fun e => by subst e; exact s62_eq k a r K) (pick_eq (fun e => by subst e; exact s70_eq k a r K) (rfl))
theorem e60 (k : Nat) (a0 : Int) (a1 : Int) (a2 : List Int) (K : List PV → List RowS → Option R) : callC T F k 60 [.agg [.val [] (.int .i64) a0, .val [] (.int .i64) a1, .val [(0, 0)] (.slice (.int .u8)) a2]] [] K = f60 k a0 a1 a2 (fun z0 => K [.val [] (.int .i64) z0] []) := by
  rw [f60_def]
  cases k with
  | zero => rfl
  | succ k =>
    refine Eq.trans (show _ = exec T an60 (modesOf F) 0 k 48 (callC T F k) (ending T Try.f60 an60 0 K) (bodyOf Try.f60) ⟨argEnv 0 [.agg [.val [] (.int .i64) a0, .val [] (.int .i64) a1, .val [(0, 0)] (.slice (.int .u8)) a2]] (fun _ => none), rowsOf []⟩ (ending T Try.f60 an60 0 K) (fun _ _ => none) from by kernel_rfl) ?_
    rw [← S60_eq k, ← execS_eq T an60 (modesOf F) 0 k 48 (S60 k) (fun _ _ _ _ _ => none) (bodyOf Try.f60) (cuts_of _ _ _ _ _ _ _ _ (bodyOf Try.f60) (l := []) (by kernel_rfl) trivial)]
    kernel_rfl
noncomputable def s60 (k : Nat) (a : List PV) (r : List RowS) (K : List PV → List RowS → Option R) : Option R :=
  onShape [.agg [.val [] (.int .i64), .val [] (.int .i64), .val [(0, 0)] (.slice (.int .u8))]] [] (fun v => f60 k v.1.1.1 v.1.1.2.1 v.1.1.2.2.1 (fun z0 => K [.val [] (.int .i64) z0] [])) (callC T F k 60 a r K) a r
theorem s60_eq (k : Nat) (a : List PV) (r : List RowS) (K : List PV → List RowS → Option R) : s60 k a r K = callC T F k 60 a r K := by
  unfold s60
  exact onShape_eq (a := [.agg [.val [] (.int .i64), .val [] (.int .i64), .val [(0, 0)] (.slice (.int .u8))]]) (b := []) (G := fun a r => callC T F k 60 a r K) (fun x y => Eq.trans (by kernel_rfl) (Eq.trans (e60 k x.1.1 x.1.2.1 x.1.2.2.1 K).symm (by kernel_rfl))) a r
end
section
variable {R : Type}
noncomputable def S16 (k g : Nat) (a : List PV) (r : List RowS) (K : List PV → List RowS → Option R) : Option R := bif g == 59 then s59 k a r K else bif g == 60 then s60 k a r K else callC T F k g a r K
theorem S16_eq (k : Nat) : S16 (R := R) k = callC T F k := by
  funext g a r K
  exact pick_eq (fun e => by subst e; exact s59_eq k a r K) (pick_eq (fun e => by subst e; exact s60_eq k a r K) (rfl))
theorem e16 (k : Nat) (a0 : List Int) (K : List PV → List RowS → Option R) : callC T F k 16 [.val [(0, 0)] (.slice (.int .u8)) a0] [] K = f16 k a0 (fun z0 z1 z2 z3 => K [.agg [.val [] (.int .i64) z0, .val [] (.int .i64) z1, .rw 1], .val [] (.int .i64) z2] [⟨0, .arr [] (.int .u8) z3⟩]) := by
  rw [f16_def]
  cases k with
  | zero => rfl
  | succ k =>
    refine Eq.trans (show _ = exec T an16 (modesOf F) 0 k 29 (callC T F k) (ending T Try.f16 an16 0 K) (bodyOf Try.f16) ⟨argEnv 0 [.val [(0, 0)] (.slice (.int .u8)) a0] (fun _ => none), rowsOf []⟩ (ending T Try.f16 an16 0 K) (fun _ _ => none) from by kernel_rfl) ?_
    rw [← S16_eq k, ← execS_eq T an16 (modesOf F) 0 k 29 (S16 k) (fun _ _ _ _ _ => none) (bodyOf Try.f16) (cuts_of _ _ _ _ _ _ _ _ (bodyOf Try.f16) (l := []) (by kernel_rfl) trivial)]
    kernel_rfl
noncomputable def s16 (k : Nat) (a : List PV) (r : List RowS) (K : List PV → List RowS → Option R) : Option R :=
  onShape [.val [(0, 0)] (.slice (.int .u8))] [] (fun v => f16 k v.1.1 (fun z0 z1 z2 z3 => K [.agg [.val [] (.int .i64) z0, .val [] (.int .i64) z1, .rw 1], .val [] (.int .i64) z2] [⟨0, .arr [] (.int .u8) z3⟩])) (callC T F k 16 a r K) a r
theorem s16_eq (k : Nat) (a : List PV) (r : List RowS) (K : List PV → List RowS → Option R) : s16 k a r K = callC T F k 16 a r K := by
  unfold s16
  exact onShape_eq (a := [.val [(0, 0)] (.slice (.int .u8))]) (b := []) (G := fun a r => callC T F k 16 a r K) (fun x y => Eq.trans (by kernel_rfl) (Eq.trans (e16 k x.1 K).symm (by kernel_rfl))) a r
end
section
variable {R : Type}
noncomputable def S63 (k g : Nat) (a : List PV) (r : List RowS) (K : List PV → List RowS → Option R) : Option R := callC T F k g a r K
theorem S63_eq (k : Nat) : S63 (R := R) k = callC T F k := by
  funext g a r K
  exact rfl
theorem e63 (k : Nat) (a0 : Int) (a1 : Int) (a2 : Int) (K : List PV → List RowS → Option R) : callC T F k 63 [.val [] (.int .i64) a0, .val [] (.int .i64) a1, .val [] (.int .i64) a2] [] K = f63 k a0 a1 a2 (fun z0 => K [.val [] .bool z0] []) := by
  rw [f63_def]
  cases k with
  | zero => rfl
  | succ k =>
    refine Eq.trans (show _ = exec T an63 (modesOf F) 0 k 15 (callC T F k) (ending T Try.f63 an63 0 K) (bodyOf Try.f63) ⟨argEnv 0 [.val [] (.int .i64) a0, .val [] (.int .i64) a1, .val [] (.int .i64) a2] (fun _ => none), rowsOf []⟩ (ending T Try.f63 an63 0 K) (fun _ _ => none) from by kernel_rfl) ?_
    rw [← S63_eq k, ← execS_eq T an63 (modesOf F) 0 k 15 (S63 k) (fun _ _ _ _ _ => none) (bodyOf Try.f63) (cuts_of _ _ _ _ _ _ _ _ (bodyOf Try.f63) (l := []) (by kernel_rfl) trivial)]
    kernel_rfl
noncomputable def s63 (k : Nat) (a : List PV) (r : List RowS) (K : List PV → List RowS → Option R) : Option R :=
  onShape [.val [] (.int .i64), .val [] (.int .i64), .val [] (.int .i64)] [] (fun v => f63 k v.1.1 v.1.2.1 v.1.2.2.1 (fun z0 => K [.val [] .bool z0] [])) (callC T F k 63 a r K) a r
theorem s63_eq (k : Nat) (a : List PV) (r : List RowS) (K : List PV → List RowS → Option R) : s63 k a r K = callC T F k 63 a r K := by
  unfold s63
  exact onShape_eq (a := [.val [] (.int .i64), .val [] (.int .i64), .val [] (.int .i64)]) (b := []) (G := fun a r => callC T F k 63 a r K) (fun x y => Eq.trans (by kernel_rfl) (Eq.trans (e63 k x.1 x.2.1 x.2.2.1 K).symm (by kernel_rfl))) a r
end
section
variable {R : Type}
noncomputable def S90 (k g : Nat) (a : List PV) (r : List RowS) (K : List PV → List RowS → Option R) : Option R := callC T F k g a r K
theorem S90_eq (k : Nat) : S90 (R := R) k = callC T F k := by
  funext g a r K
  exact rfl
theorem e90 (k : Nat) (a0 : Int) (K : List PV → List RowS → Option R) : callC T F k 90 [.val [] (.int .i64) a0] [] K = f90 k a0 (fun z0 => K [.val [] .bool z0] []) := by
  rw [f90_def]
  cases k with
  | zero => rfl
  | succ k =>
    refine Eq.trans (show _ = exec T an90 (modesOf F) 0 k 9 (callC T F k) (ending T Try.f90 an90 0 K) (bodyOf Try.f90) ⟨argEnv 0 [.val [] (.int .i64) a0] (fun _ => none), rowsOf []⟩ (ending T Try.f90 an90 0 K) (fun _ _ => none) from by kernel_rfl) ?_
    rw [← S90_eq k, ← execS_eq T an90 (modesOf F) 0 k 9 (S90 k) (fun _ _ _ _ _ => none) (bodyOf Try.f90) (cuts_of _ _ _ _ _ _ _ _ (bodyOf Try.f90) (l := []) (by kernel_rfl) trivial)]
    kernel_rfl
noncomputable def s90 (k : Nat) (a : List PV) (r : List RowS) (K : List PV → List RowS → Option R) : Option R :=
  onShape [.val [] (.int .i64)] [] (fun v => f90 k v.1.1 (fun z0 => K [.val [] .bool z0] [])) (callC T F k 90 a r K) a r
theorem s90_eq (k : Nat) (a : List PV) (r : List RowS) (K : List PV → List RowS → Option R) : s90 k a r K = callC T F k 90 a r K := by
  unfold s90
  exact onShape_eq (a := [.val [] (.int .i64)]) (b := []) (G := fun a r => callC T F k 90 a r K) (fun x y => Eq.trans (by kernel_rfl) (Eq.trans (e90 k x.1 K).symm (by kernel_rfl))) a r
end
section
variable {R : Type}
noncomputable def S91 (k g : Nat) (a : List PV) (r : List RowS) (K : List PV → List RowS → Option R) : Option R := callC T F k g a r K
theorem S91_eq (k : Nat) : S91 (R := R) k = callC T F k := by
  funext g a r K
  exact rfl
theorem e91 (k : Nat) (a0 : Int) (K : List PV → List RowS → Option R) : callC T F k 91 [.val [] (.int .i64) a0] [] K = f91 k a0 (fun z0 => K [.val [] .bool z0] []) := by
  rw [f91_def]
  cases k with
  | zero => rfl
  | succ k =>
    refine Eq.trans (show _ = exec T an91 (modesOf F) 0 k 9 (callC T F k) (ending T Try.f91 an91 0 K) (bodyOf Try.f91) ⟨argEnv 0 [.val [] (.int .i64) a0] (fun _ => none), rowsOf []⟩ (ending T Try.f91 an91 0 K) (fun _ _ => none) from by kernel_rfl) ?_
    rw [← S91_eq k, ← execS_eq T an91 (modesOf F) 0 k 9 (S91 k) (fun _ _ _ _ _ => none) (bodyOf Try.f91) (cuts_of _ _ _ _ _ _ _ _ (bodyOf Try.f91) (l := []) (by kernel_rfl) trivial)]
    kernel_rfl
noncomputable def s91 (k : Nat) (a : List PV) (r : List RowS) (K : List PV → List RowS → Option R) : Option R :=
  onShape [.val [] (.int .i64)] [] (fun v => f91 k v.1.1 (fun z0 => K [.val [] .bool z0] [])) (callC T F k 91 a r K) a r
theorem s91_eq (k : Nat) (a : List PV) (r : List RowS) (K : List PV → List RowS → Option R) : s91 k a r K = callC T F k 91 a r K := by
  unfold s91
  exact onShape_eq (a := [.val [] (.int .i64)]) (b := []) (G := fun a r => callC T F k 91 a r K) (fun x y => Eq.trans (by kernel_rfl) (Eq.trans (e91 k x.1 K).symm (by kernel_rfl))) a r
end
section
variable {R : Type}
noncomputable def S72 (k g : Nat) (a : List PV) (r : List RowS) (K : List PV → List RowS → Option R) : Option R := callC T F k g a r K
theorem S72_eq (k : Nat) : S72 (R := R) k = callC T F k := by
  funext g a r K
  exact rfl
theorem e72 (k : Nat) (a0 : List Int) (K : List PV → List RowS → Option R) : callC T F k 72 [.val [(0, 0)] (.slice (.int .u8)) a0] [] K = f72 k a0 (fun z0 => K [.val [] (.int .i64) z0] []) := by
  rw [f72_def]
  cases k with
  | zero => rfl
  | succ k =>
    refine Eq.trans (show _ = exec T an72 (modesOf F) 0 k 9 (callC T F k) (ending T Try.f72 an72 0 K) (bodyOf Try.f72) ⟨argEnv 0 [.val [(0, 0)] (.slice (.int .u8)) a0] (fun _ => none), rowsOf []⟩ (ending T Try.f72 an72 0 K) (fun _ _ => none) from by kernel_rfl) ?_
    rw [← S72_eq k, ← execS_eq T an72 (modesOf F) 0 k 9 (S72 k) (fun _ _ _ _ _ => none) (bodyOf Try.f72) (cuts_of _ _ _ _ _ _ _ _ (bodyOf Try.f72) (l := []) (by kernel_rfl) trivial)]
    kernel_rfl
noncomputable def s72 (k : Nat) (a : List PV) (r : List RowS) (K : List PV → List RowS → Option R) : Option R :=
  onShape [.val [(0, 0)] (.slice (.int .u8))] [] (fun v => f72 k v.1.1 (fun z0 => K [.val [] (.int .i64) z0] [])) (callC T F k 72 a r K) a r
theorem s72_eq (k : Nat) (a : List PV) (r : List RowS) (K : List PV → List RowS → Option R) : s72 k a r K = callC T F k 72 a r K := by
  unfold s72
  exact onShape_eq (a := [.val [(0, 0)] (.slice (.int .u8))]) (b := []) (G := fun a r => callC T F k 72 a r K) (fun x y => Eq.trans (by kernel_rfl) (Eq.trans (e72 k x.1 K).symm (by kernel_rfl))) a r
end
section
variable {R : Type}
noncomputable def S61 (k g : Nat) (a : List PV) (r : List RowS) (K : List PV → List RowS → Option R) : Option R := bif g == 63 then s63 k a r K else bif g == 72 then s72 k a r K else bif g == 90 then s90 k a r K else bif g == 91 then s91 k a r K else callC T F k g a r K
theorem S61_eq (k : Nat) : S61 (R := R) k = callC T F k := by
  funext g a r K
  exact pick_eq (fun e => by subst e; exact s63_eq k a r K) (pick_eq (fun e => by subst e; exact s72_eq k a r K) (pick_eq (fun e => by subst e; exact s90_eq k a r K) (pick_eq (fun e => by subst e; exact s91_eq k a r K) (rfl))))
theorem e61 (k : Nat) (a0 : Int) (a1 : Int) (a2 : List Int) (K : List PV → List RowS → Option R) : callC T F k 61 [.agg [.val [] (.int .i64) a0, .val [] (.int .i64) a1, .val [(0, 0)] (.slice (.int .u8)) a2]] [] K = f61 k a0 a1 a2 (fun z0 => K [.val [] (.int .i64) z0] []) := by
  rw [f61_def]
  cases k with
  | zero => rfl
  | succ k =>
    refine Eq.trans (show _ = exec T an61 (modesOf F) 0 k 42 (callC T F k) (ending T Try.f61 an61 0 K) (bodyOf Try.f61) ⟨argEnv 0 [.agg [.val [] (.int .i64) a0, .val [] (.int .i64) a1, .val [(0, 0)] (.slice (.int .u8)) a2]] (fun _ => none), rowsOf []⟩ (ending T Try.f61 an61 0 K) (fun _ _ => none) from by kernel_rfl) ?_
    rw [← S61_eq k, ← execS_eq T an61 (modesOf F) 0 k 42 (S61 k) (fun _ _ _ _ _ => none) (bodyOf Try.f61) (cuts_of _ _ _ _ _ _ _ _ (bodyOf Try.f61) (l := []) (by kernel_rfl) trivial)]
    kernel_rfl
noncomputable def s61 (k : Nat) (a : List PV) (r : List RowS) (K : List PV → List RowS → Option R) : Option R :=
  onShape [.agg [.val [] (.int .i64), .val [] (.int .i64), .val [(0, 0)] (.slice (.int .u8))]] [] (fun v => f61 k v.1.1.1 v.1.1.2.1 v.1.1.2.2.1 (fun z0 => K [.val [] (.int .i64) z0] [])) (callC T F k 61 a r K) a r
theorem s61_eq (k : Nat) (a : List PV) (r : List RowS) (K : List PV → List RowS → Option R) : s61 k a r K = callC T F k 61 a r K := by
  unfold s61
  exact onShape_eq (a := [.agg [.val [] (.int .i64), .val [] (.int .i64), .val [(0, 0)] (.slice (.int .u8))]]) (b := []) (G := fun a r => callC T F k 61 a r K) (fun x y => Eq.trans (by kernel_rfl) (Eq.trans (e61 k x.1.1 x.1.2.1 x.1.2.2.1 K).symm (by kernel_rfl))) a r
end
section
variable {R : Type}
noncomputable def S17 (k g : Nat) (a : List PV) (r : List RowS) (K : List PV → List RowS → Option R) : Option R := bif g == 59 then s59 k a r K else bif g == 61 then s61 k a r K else callC T F k g a r K
theorem S17_eq (k : Nat) : S17 (R := R) k = callC T F k := by
  funext g a r K
  exact pick_eq (fun e => by subst e; exact s59_eq k a r K) (pick_eq (fun e => by subst e; exact s61_eq k a r K) (rfl))
theorem e17 (k : Nat) (a0 : List Int) (K : List PV → List RowS → Option R) : callC T F k 17 [.val [(0, 0)] (.slice (.int .u8)) a0] [] K = f17 k a0 (fun z0 z1 z2 z3 => K [.agg [.val [] (.int .i64) z0, .val [] (.int .i64) z1, .rw 1], .val [] (.int .i64) z2] [⟨0, .arr [] (.int .u8) z3⟩]) := by
  rw [f17_def]
  cases k with
  | zero => rfl
  | succ k =>
    refine Eq.trans (show _ = exec T an17 (modesOf F) 0 k 29 (callC T F k) (ending T Try.f17 an17 0 K) (bodyOf Try.f17) ⟨argEnv 0 [.val [(0, 0)] (.slice (.int .u8)) a0] (fun _ => none), rowsOf []⟩ (ending T Try.f17 an17 0 K) (fun _ _ => none) from by kernel_rfl) ?_
    rw [← S17_eq k, ← execS_eq T an17 (modesOf F) 0 k 29 (S17 k) (fun _ _ _ _ _ => none) (bodyOf Try.f17) (cuts_of _ _ _ _ _ _ _ _ (bodyOf Try.f17) (l := []) (by kernel_rfl) trivial)]
    kernel_rfl
noncomputable def s17 (k : Nat) (a : List PV) (r : List RowS) (K : List PV → List RowS → Option R) : Option R :=
  onShape [.val [(0, 0)] (.slice (.int .u8))] [] (fun v => f17 k v.1.1 (fun z0 z1 z2 z3 => K [.agg [.val [] (.int .i64) z0, .val [] (.int .i64) z1, .rw 1], .val [] (.int .i64) z2] [⟨0, .arr [] (.int .u8) z3⟩])) (callC T F k 17 a r K) a r
theorem s17_eq (k : Nat) (a : List PV) (r : List RowS) (K : List PV → List RowS → Option R) : s17 k a r K = callC T F k 17 a r K := by
  unfold s17
  exact onShape_eq (a := [.val [(0, 0)] (.slice (.int .u8))]) (b := []) (G := fun a r => callC T F k 17 a r K) (fun x y => Eq.trans (by kernel_rfl) (Eq.trans (e17 k x.1 K).symm (by kernel_rfl))) a r
end
section
variable {R : Type}
noncomputable def S24 (k g : Nat) (a : List PV) (r : List RowS) (K : List PV → List RowS → Option R) : Option R := callC T F k g a r K
theorem S24_eq (k : Nat) : S24 (R := R) k = callC T F k := by
  funext g a r K
  exact rfl
section
variable {R : Type} (k : Nat) (K : List PV → List RowS → Option R)
noncomputable def L24_0 (ws : List PV) (rs : List RowS) (N : St → Option R) (X : Nat → St → Option R) : Option R :=
  onShape [.val [(0, 0)] (.slice (.int .u8)), .val [(0, 0)] (.slice (.int .u8)), .val [] (.int .i64), .val [] (.int .i64)] [] (fun v => f24_0 k (fun z0 => K [.val [] .bool z0] []) (N (sh jn24_0 [] [])) v.1.1 v.1.2.1 v.1.2.2.1 k v.1.2.2.2.1) (inner T an24 (modesOf F) 0 k 26 (S24 k) (ending T Try.f24 an24 0 K) cd24_0 (sh sp24_0 ws rs) N X) ws rs
noncomputable def L24 (id : Nat) (ws : List PV) (rs : List RowS) (N : St → Option R) (X : Nat → St → Option R) : Option R := bif id == 0 then L24_0 k K ws rs N X else none
theorem b24_0 (rec : St → Option R) (N : St → Option R) (X : Nat → St → Option R) (v0_0 : List Int) (v0_1 : List Int) (v0_2 : Int) (v0_3 : Int) :
    execS T an24 (modesOf F) 0 k 26 (S24 k) (L24 k K) (ending T Try.f24 an24 0 K) bd24_0 (sh sp24_0 [.val [(0, 0)] (.slice (.int .u8)) v0_0, .val [(0, 0)] (.slice (.int .u8)) v0_1, .val [] (.int .i64) v0_2, .val [] (.int .i64) v0_3] []) (fun st => atHead an24 0 bd24_0 st rec) (outX an24 0 0 N X) =
      f24_0b k (fun v0_3 => rec (sh sp24_0 [.val [(0, 0)] (.slice (.int .u8)) v0_0, .val [(0, 0)] (.slice (.int .u8)) v0_1, .val [] (.int .i64) v0_2, .val [] (.int .i64) v0_3] [])) (fun z0 => K [.val [] .bool z0] []) (N (sh jn24_0 [] [])) v0_0 v0_1 v0_2 v0_3 := by kernel_rfl
theorem i24_0 (N : St → Option R) (X : Nat → St → Option R) (v0_0 : List Int) (v0_1 : List Int) (v0_2 : Int) (m : Nat) : ∀ (v0_3 : Int),
    iter (atHead an24 0 bd24_0) m (fun st N' => exec T an24 (modesOf F) 0 k 26 (S24 k) (ending T Try.f24 an24 0 K) bd24_0 st N' (outX an24 0 0 N X)) (sh sp24_0 [.val [(0, 0)] (.slice (.int .u8)) v0_0, .val [(0, 0)] (.slice (.int .u8)) v0_1, .val [] (.int .i64) v0_2, .val [] (.int .i64) v0_3] []) = f24_0d k (fun z0 => K [.val [] .bool z0] []) (N (sh jn24_0 [] [])) v0_0 v0_1 v0_2 m v0_3 := by
  induction m with
  | zero => intros; rfl
  | succ m ih =>
    intro v0_3
    simp only [iter]
    rw [← execS_eq T an24 (modesOf F) 0 k 26 (S24 k) (L24 k K) bd24_0 (cuts_of _ _ _ _ _ _ _ _ bd24_0 (l := []) (by kernel_rfl) trivial)]
    refine (b24_0 k K _ N X v0_0 v0_1 v0_2 v0_3).trans ?_
    simp only [f24_0d, ih]
theorem l24_0 (ws : List PV) (rs : List RowS) (N : St → Option R) (X : Nat → St → Option R) : L24 k K 0 ws rs N X = inner T an24 (modesOf F) 0 k 26 (S24 k) (ending T Try.f24 an24 0 K) cd24_0 (sh sp24_0 ws rs) N X := by
  show L24_0 k K ws rs N X = _
  unfold L24_0
  rw [f24_0_def]
  exact onShape_eq (a := [.val [(0, 0)] (.slice (.int .u8)), .val [(0, 0)] (.slice (.int .u8)), .val [] (.int .i64), .val [] (.int .i64)]) (b := []) (G := fun ws rs => inner T an24 (modesOf F) 0 k 26 (S24 k) (ending T Try.f24 an24 0 K) cd24_0 (sh sp24_0 ws rs) N X) (fun x y => Eq.trans (by kernel_rfl) (Eq.trans (i24_0 k K N X x.1 x.2.1 x.2.2.1 k x.2.2.2.1).symm (by kernel_rfl))) ws rs
end
theorem e24 (k : Nat) (a0 : List Int) (a1 : List Int) (K : List PV → List RowS → Option R) : callC T F k 24 [.val [(0, 0)] (.slice (.int .u8)) a0, .val [(0, 0)] (.slice (.int .u8)) a1] [] K = f24 k a0 a1 (fun z0 => K [.val [] .bool z0] []) := by
  rw [f24_def]
  cases k with
  | zero => rfl
  | succ k =>
    refine Eq.trans (show _ = exec T an24 (modesOf F) 0 k 26 (callC T F k) (ending T Try.f24 an24 0 K) (bodyOf Try.f24) ⟨argEnv 0 [.val [(0, 0)] (.slice (.int .u8)) a0, .val [(0, 0)] (.slice (.int .u8)) a1] (fun _ => none), rowsOf []⟩ (ending T Try.f24 an24 0 K) (fun _ _ => none) from by kernel_rfl) ?_
    rw [← S24_eq k, ← execS_eq T an24 (modesOf F) 0 k 26 (S24 k) (L24 k K) (bodyOf Try.f24) (cuts_of _ _ _ _ _ _ _ _ (bodyOf Try.f24) (l := [(0, sp24_0, cd24_0)]) (by kernel_rfl) ⟨l24_0 k K, trivial⟩)]
    kernel_rfl
noncomputable def s24 (k : Nat) (a : List PV) (r : List RowS) (K : List PV → List RowS → Option R) : Option R :=
  onShape [.val [(0, 0)] (.slice (.int .u8)), .val [(0, 0)] (.slice (.int .u8))] [] (fun v => f24 k v.1.1 v.1.2.1 (fun z0 => K [.val [] .bool z0] [])) (callC T F k 24 a r K) a r
theorem s24_eq (k : Nat) (a : List PV) (r : List RowS) (K : List PV → List RowS → Option R) : s24 k a r K = callC T F k 24 a r K := by
  unfold s24
  exact onShape_eq (a := [.val [(0, 0)] (.slice (.int .u8)), .val [(0, 0)] (.slice (.int .u8))]) (b := []) (G := fun a r => callC T F k 24 a r K) (fun x y => Eq.trans (by kernel_rfl) (Eq.trans (e24 k x.1 x.2.1 K).symm (by kernel_rfl))) a r
end
section
variable {R : Type}
noncomputable def S18 (k g : Nat) (a : List PV) (r : List RowS) (K : List PV → List RowS → Option R) : Option R := bif g == 24 then s24 k a r K else callC T F k g a r K
theorem S18_eq (k : Nat) : S18 (R := R) k = callC T F k := by
  funext g a r K
  exact pick_eq (fun e => by subst e; exact s24_eq k a r K) (rfl)
theorem e18 (k : Nat) (a0 : Int) (a1 : Int) (a2 : List Int) (a3 : Int) (a4 : Int) (a5 : List Int) (K : List PV → List RowS → Option R) : callC T F k 18 [.agg [.val [] (.int .i64) a0, .val [] (.int .i64) a1, .val [(0, 0)] (.slice (.int .u8)) a2], .agg [.val [] (.int .i64) a3, .val [] (.int .i64) a4, .val [(0, 0)] (.slice (.int .u8)) a5]] [] K = f18 k a0 a1 a2 a3 a4 a5 (fun z0 => K [.val [] .bool z0] []) := by
  rw [f18_def]
  cases k with
  | zero => rfl
  | succ k =>
    refine Eq.trans (show _ = exec T an18 (modesOf F) 0 k 24 (callC T F k) (ending T Try.f18 an18 0 K) (bodyOf Try.f18) ⟨argEnv 0 [.agg [.val [] (.int .i64) a0, .val [] (.int .i64) a1, .val [(0, 0)] (.slice (.int .u8)) a2], .agg [.val [] (.int .i64) a3, .val [] (.int .i64) a4, .val [(0, 0)] (.slice (.int .u8)) a5]] (fun _ => none), rowsOf []⟩ (ending T Try.f18 an18 0 K) (fun _ _ => none) from by kernel_rfl) ?_
    rw [← S18_eq k, ← execS_eq T an18 (modesOf F) 0 k 24 (S18 k) (fun _ _ _ _ _ => none) (bodyOf Try.f18) (cuts_of _ _ _ _ _ _ _ _ (bodyOf Try.f18) (l := []) (by kernel_rfl) trivial)]
    kernel_rfl
noncomputable def s18 (k : Nat) (a : List PV) (r : List RowS) (K : List PV → List RowS → Option R) : Option R :=
  onShape [.agg [.val [] (.int .i64), .val [] (.int .i64), .val [(0, 0)] (.slice (.int .u8))], .agg [.val [] (.int .i64), .val [] (.int .i64), .val [(0, 0)] (.slice (.int .u8))]] [] (fun v => f18 k v.1.1.1 v.1.1.2.1 v.1.1.2.2.1 v.1.2.1.1 v.1.2.1.2.1 v.1.2.1.2.2.1 (fun z0 => K [.val [] .bool z0] [])) (callC T F k 18 a r K) a r
theorem s18_eq (k : Nat) (a : List PV) (r : List RowS) (K : List PV → List RowS → Option R) : s18 k a r K = callC T F k 18 a r K := by
  unfold s18
  exact onShape_eq (a := [.agg [.val [] (.int .i64), .val [] (.int .i64), .val [(0, 0)] (.slice (.int .u8))], .agg [.val [] (.int .i64), .val [] (.int .i64), .val [(0, 0)] (.slice (.int .u8))]]) (b := []) (G := fun a r => callC T F k 18 a r K) (fun x y => Eq.trans (by kernel_rfl) (Eq.trans (e18 k x.1.1 x.1.2.1 x.1.2.2.1 x.2.1.1 x.2.1.2.1 x.2.1.2.2.1 K).symm (by kernel_rfl))) a r
end
section
variable {R : Type}
noncomputable def S19 (k g : Nat) (a : List PV) (r : List RowS) (K : List PV → List RowS → Option R) : Option R := callC T F k g a r K
theorem S19_eq (k : Nat) : S19 (R := R) k = callC T F k := by
  funext g a r K
  exact rfl
theorem e19 (k : Nat) (a0 : List Int) (K : List PV → List RowS → Option R) : callC T F k 19 [.val [(0, 0)] (.slice (.int .u8)) a0] [] K = f19 k a0 (fun z0 z1 z2 z3 z4 => K [.agg [.val [] (.int .i64) z0, .val [] .bool z1, .val [] .bool z2, .val [] .bool z3], .val [] (.int .i64) z4] []) := by
  rw [f19_def]
  cases k with
  | zero => rfl
  | succ k =>
    refine Eq.trans (show _ = exec T an19 (modesOf F) 0 k 34 (callC T F k) (ending T Try.f19 an19 0 K) (bodyOf Try.f19) ⟨argEnv 0 [.val [(0, 0)] (.slice (.int .u8)) a0] (fun _ => none), rowsOf []⟩ (ending T Try.f19 an19 0 K) (fun _ _ => none) from by kernel_rfl) ?_
    rw [← S19_eq k, ← execS_eq T an19 (modesOf F) 0 k 34 (S19 k) (fun _ _ _ _ _ => none) (bodyOf Try.f19) (cuts_of _ _ _ _ _ _ _ _ (bodyOf Try.f19) (l := []) (by kernel_rfl) trivial)]
    kernel_rfl
noncomputable def s19 (k : Nat) (a : List PV) (r : List RowS) (K : List PV → List RowS → Option R) : Option R :=
  onShape [.val [(0, 0)] (.slice (.int .u8))] [] (fun v => f19 k v.1.1 (fun z0 z1 z2 z3 z4 => K [.agg [.val [] (.int .i64) z0, .val [] .bool z1, .val [] .bool z2, .val [] .bool z3], .val [] (.int .i64) z4] [])) (callC T F k 19 a r K) a r
theorem s19_eq (k : Nat) (a : List PV) (r : List RowS) (K : List PV → List RowS → Option R) : s19 k a r K = callC T F k 19 a r K := by
  unfold s19
  exact onShape_eq (a := [.val [(0, 0)] (.slice (.int .u8))]) (b := []) (G := fun a r => callC T F k 19 a r K) (fun x y => Eq.trans (by kernel_rfl) (Eq.trans (e19 k x.1 K).symm (by kernel_rfl))) a r
end
section
variable {R : Type}
noncomputable def S20 (k g : Nat) (a : List PV) (r : List RowS) (K : List PV → List RowS → Option R) : Option R := callC T F k g a r K
theorem S20_eq (k : Nat) : S20 (R := R) k = callC T F k := by
  funext g a r K
  exact rfl
theorem e20 (k : Nat) (a0 : List Int) (K : List PV → List RowS → Option R) : callC T F k 20 [.val [(0, 0)] (.slice (.int .u8)) a0] [] K = f20 k a0 (fun z0 z1 z2 z3 z4 => K [.agg [.val [] (.int .i64) z0, .val [] .bool z1, .val [] .bool z2, .val [] .bool z3], .val [] (.int .i64) z4] []) := by
  rw [f20_def]
  cases k with
  | zero => rfl
  | succ k =>
    refine Eq.trans (show _ = exec T an20 (modesOf F) 0 k 34 (callC T F k) (ending T Try.f20 an20 0 K) (bodyOf Try.f20) ⟨argEnv 0 [.val [(0, 0)] (.slice (.int .u8)) a0] (fun _ => none), rowsOf []⟩ (ending T Try.f20 an20 0 K) (fun _ _ => none) from by kernel_rfl) ?_
    rw [← S20_eq k, ← execS_eq T an20 (modesOf F) 0 k 34 (S20 k) (fun _ _ _ _ _ => none) (bodyOf Try.f20) (cuts_of _ _ _ _ _ _ _ _ (bodyOf Try.f20) (l := []) (by kernel_rfl) trivial)]
    kernel_rfl
noncomputable def s20 (k : Nat) (a : List PV) (r : List RowS) (K : List PV → List RowS → Option R) : Option R :=
  onShape [.val [(0, 0)] (.slice (.int .u8))] [] (fun v => f20 k v.1.1 (fun z0 z1 z2 z3 z4 => K [.agg [.val [] (.int .i64) z0, .val [] .bool z1, .val [] .bool z2, .val [] .bool z3], .val [] (.int .i64) z4] [])) (callC T F k 20 a r K) a r
theorem s20_eq (k : Nat) (a : List PV) (r : List RowS) (K : List PV → List RowS → Option R) : s20 k a r K = callC T F k 20 a r K := by
  unfold s20
  exact onShape_eq (a := [.val [(0, 0)] (.slice (.int .u8))]) (b := []) (G := fun a r => callC T F k 20 a r K) (fun x y => Eq.trans (by kernel_rfl) (Eq.trans (e20 k x.1 K).symm (by kernel_rfl))) a r
end
section
variable {R : Type}
noncomputable def S25 (k g : Nat) (a : List PV) (r : List RowS) (K : List PV → List RowS → Option R) : Option R := bif g == 62 then s62 k a r K else callC T F k g a r K
theorem S25_eq (k : Nat) : S25 (R := R) k = callC T F k := by
  funext g a r K
  exact pick_eq (fun e => by subst e; exact s62_eq k a r K) (rfl)
section
variable {R : Type} (k : Nat) (K : List PV → List RowS → Option R)
noncomputable def L25_1000008 (ws : List PV) (rs : List RowS) (N : St → Option R) (X : Nat → St → Option R) : Option R :=
  onShape [.ptr 1 0, .val [] (.int .u8), .val [] (.int .i64), .rw 2, .val [] (.int .i64), .val [] (.int .i64), .val [] .bool] [.vars [.val [] (.int .i64), .val [] .bool, .val [] .bool, .val [] .bool], .arr [] .bool] (fun v => f25_1000008 k (fun yN_0 => N (sh fi25_8 [.ptr 1 0, .val [] (.int .u8) yN_0, .rw 2, .val [] (.int .i64) v.1.2.2.2.2.1, .val [] (.int .i64) v.1.2.2.2.2.2.1] [⟨0, .vars [.val [] (.int .i64) v.2.1.1, .val [] .bool v.2.1.2.1, .val [] .bool v.2.1.2.2.1, .val [] .bool v.2.1.2.2.2.1]⟩, ⟨0, .arr [] .bool v.2.2.1⟩])) v.1.2.1 v.1.2.2.1 v.1.2.2.2.2.1 v.1.2.2.2.2.2.1 v.1.2.2.2.2.2.2.1 v.2.1.1 v.2.1.2.1 v.2.1.2.2.1 v.2.1.2.2.2.1 v.2.2.1) (inner T an25 (modesOf F) 0 k 35 (S25 k) (ending T Try.f25 an25 0 K) cd25_1000008 (sh sp25_1000008 ws rs) N X) ws rs
noncomputable def L25_0 (ws : List PV) (rs : List RowS) (N : St → Option R) (X : Nat → St → Option R) : Option R :=
  onShape [.ptr 1 0, .val [] (.int .u8), .rw 2, .val [] (.int .i64), .val [] (.int .i64)] [.vars [.val [] (.int .i64), .val [] .bool, .val [] .bool, .val [] .bool], .arr [] .bool] (fun v => f25_0 k (fun y0_0 => N (sh jn25_0 [.ptr 1 0, .val [] (.int .u8) y0_0] [⟨0, .vars [.val [] (.int .i64) v.2.1.1, .val [] .bool v.2.1.2.1, .val [] .bool v.2.1.2.2.1, .val [] .bool v.2.1.2.2.2.1]⟩])) v.1.2.2.2.1 v.2.1.1 v.2.1.2.1 v.2.1.2.2.1 v.2.1.2.2.2.1 v.2.2.1 k v.1.2.1 v.1.2.2.2.2.1) (inner T an25 (modesOf F) 0 k 35 (S25 k) (ending T Try.f25 an25 0 K) cd25_0 (sh sp25_0 ws rs) N X) ws rs
noncomputable def L25 (id : Nat) (ws : List PV) (rs : List RowS) (N : St → Option R) (X : Nat → St → Option R) : Option R := bif id == 1000008 then L25_1000008 k K ws rs N X else bif id == 0 then L25_0 k K ws rs N X else none
theorem l25_1000008 (ws : List PV) (rs : List RowS) (N : St → Option R) (X : Nat → St → Option R) : L25 k K 1000008 ws rs N X = inner T an25 (modesOf F) 0 k 35 (S25 k) (ending T Try.f25 an25 0 K) cd25_1000008 (sh sp25_1000008 ws rs) N X := by
  show L25_1000008 k K ws rs N X = _
  unfold L25_1000008
  rw [f25_1000008_def]
  exact onShape_eq (a := [.ptr 1 0, .val [] (.int .u8), .val [] (.int .i64), .rw 2, .val [] (.int .i64), .val [] (.int .i64), .val [] .bool]) (b := [.vars [.val [] (.int .i64), .val [] .bool, .val [] .bool, .val [] .bool], .arr [] .bool]) (G := fun ws rs => inner T an25 (modesOf F) 0 k 35 (S25 k) (ending T Try.f25 an25 0 K) cd25_1000008 (sh sp25_1000008 ws rs) N X) (fun x y => Eq.trans (by kernel_rfl) (innerS_eq T an25 (modesOf F) 0 k 35 (S25 k) (L25 k K) cd25_1000008 (l := []) (by kernel_rfl) trivial _ N X)) ws rs
theorem b25_0 (rec : St → Option R) (N : St → Option R) (X : Nat → St → Option R) (v0_1 : Int) (v0_3 : Int) (v0_4 : Bool) (v0_5 : Bool) (v0_6 : Bool) (v0_7 : List Bool) (v0_0 : Int) (v0_2 : Int) :
    execS T an25 (modesOf F) 0 k 35 (S25 k) (L25 k K) (ending T Try.f25 an25 0 K) bd25_0 (sh sp25_0 [.ptr 1 0, .val [] (.int .u8) v0_0, .rw 2, .val [] (.int .i64) v0_1, .val [] (.int .i64) v0_2] [⟨0, .vars [.val [] (.int .i64) v0_3, .val [] .bool v0_4, .val [] .bool v0_5, .val [] .bool v0_6]⟩, ⟨0, .arr [] .bool v0_7⟩]) (fun st => atHead an25 0 bd25_0 st rec) (outX an25 0 0 N X) =
      f25_0b k (fun v0_0 v0_2 => rec (sh sp25_0 [.ptr 1 0, .val [] (.int .u8) v0_0, .rw 2, .val [] (.int .i64) v0_1, .val [] (.int .i64) v0_2] [⟨0, .vars [.val [] (.int .i64) v0_3, .val [] .bool v0_4, .val [] .bool v0_5, .val [] .bool v0_6]⟩, ⟨0, .arr [] .bool v0_7⟩])) (fun y0_0 => N (sh jn25_0 [.ptr 1 0, .val [] (.int .u8) y0_0] [⟨0, .vars [.val [] (.int .i64) v0_3, .val [] .bool v0_4, .val [] .bool v0_5, .val [] .bool v0_6]⟩])) v0_1 v0_3 v0_4 v0_5 v0_6 v0_7 v0_0 v0_2 := by kernel_rfl
theorem i25_0 (N : St → Option R) (X : Nat → St → Option R) (v0_1 : Int) (v0_3 : Int) (v0_4 : Bool) (v0_5 : Bool) (v0_6 : Bool) (v0_7 : List Bool) (m : Nat) : ∀ (v0_0 : Int) (v0_2 : Int),
    iter (atHead an25 0 bd25_0) m (fun st N' => exec T an25 (modesOf F) 0 k 35 (S25 k) (ending T Try.f25 an25 0 K) bd25_0 st N' (outX an25 0 0 N X)) (sh sp25_0 [.ptr 1 0, .val [] (.int .u8) v0_0, .rw 2, .val [] (.int .i64) v0_1, .val [] (.int .i64) v0_2] [⟨0, .vars [.val [] (.int .i64) v0_3, .val [] .bool v0_4, .val [] .bool v0_5, .val [] .bool v0_6]⟩, ⟨0, .arr [] .bool v0_7⟩]) = f25_0d k (fun y0_0 => N (sh jn25_0 [.ptr 1 0, .val [] (.int .u8) y0_0] [⟨0, .vars [.val [] (.int .i64) v0_3, .val [] .bool v0_4, .val [] .bool v0_5, .val [] .bool v0_6]⟩])) v0_1 v0_3 v0_4 v0_5 v0_6 v0_7 m v0_0 v0_2 := by
  induction m with
  | zero => intros; rfl
  | succ m ih =>
    intro v0_0 v0_2
    simp only [iter]
    rw [← execS_eq T an25 (modesOf F) 0 k 35 (S25 k) (L25 k K) bd25_0 (cuts_of _ _ _ _ _ _ _ _ bd25_0 (l := [(1000008, sp25_1000008, cd25_1000008)]) (by kernel_rfl) ⟨l25_1000008 k K, trivial⟩)]
    refine (b25_0 k K _ N X v0_1 v0_3 v0_4 v0_5 v0_6 v0_7 v0_0 v0_2).trans ?_
    simp only [f25_0d, ih]
theorem l25_0 (ws : List PV) (rs : List RowS) (N : St → Option R) (X : Nat → St → Option R) : L25 k K 0 ws rs N X = inner T an25 (modesOf F) 0 k 35 (S25 k) (ending T Try.f25 an25 0 K) cd25_0 (sh sp25_0 ws rs) N X := by
  show L25_0 k K ws rs N X = _
  unfold L25_0
  rw [f25_0_def]
  exact onShape_eq (a := [.ptr 1 0, .val [] (.int .u8), .rw 2, .val [] (.int .i64), .val [] (.int .i64)]) (b := [.vars [.val [] (.int .i64), .val [] .bool, .val [] .bool, .val [] .bool], .arr [] .bool]) (G := fun ws rs => inner T an25 (modesOf F) 0 k 35 (S25 k) (ending T Try.f25 an25 0 K) cd25_0 (sh sp25_0 ws rs) N X) (fun x y => Eq.trans (by kernel_rfl) (Eq.trans (i25_0 k K N X x.2.2.2.1 y.1.1 y.1.2.1 y.1.2.2.1 y.1.2.2.2.1 y.2.1 k x.2.1 x.2.2.2.2.1).symm (by kernel_rfl))) ws rs
end
theorem e25 (k : Nat) (a0 : Int) (a1 : Bool) (a2 : Bool) (a3 : Bool) (K : List PV → List RowS → Option R) : callC T F k 25 [.agg [.val [] (.int .i64) a0, .val [] .bool a1, .val [] .bool a2, .val [] .bool a3]] [] K = f25 k a0 a1 a2 a3 (fun z0 z1 => K [.rw 1, .val [] (.int .i64) z0] [⟨0, .arr [] (.int .u8) z1⟩]) := by
  rw [f25_def]
  cases k with
  | zero => rfl
  | succ k =>
    refine Eq.trans (show _ = exec T an25 (modesOf F) 0 k 35 (callC T F k) (ending T Try.f25 an25 0 K) (bodyOf Try.f25) ⟨argEnv 0 [.agg [.val [] (.int .i64) a0, .val [] .bool a1, .val [] .bool a2, .val [] .bool a3]] (fun _ => none), rowsOf []⟩ (ending T Try.f25 an25 0 K) (fun _ _ => none) from by kernel_rfl) ?_
    rw [← S25_eq k, ← execS_eq T an25 (modesOf F) 0 k 35 (S25 k) (L25 k K) (bodyOf Try.f25) (cuts_of _ _ _ _ _ _ _ _ (bodyOf Try.f25) (l := [(0, sp25_0, cd25_0)]) (by kernel_rfl) ⟨l25_0 k K, trivial⟩)]
    kernel_rfl
noncomputable def s25 (k : Nat) (a : List PV) (r : List RowS) (K : List PV → List RowS → Option R) : Option R :=
  onShape [.agg [.val [] (.int .i64), .val [] .bool, .val [] .bool, .val [] .bool]] [] (fun v => f25 k v.1.1.1 v.1.1.2.1 v.1.1.2.2.1 v.1.1.2.2.2.1 (fun z0 z1 => K [.rw 1, .val [] (.int .i64) z0] [⟨0, .arr [] (.int .u8) z1⟩])) (callC T F k 25 a r K) a r
theorem s25_eq (k : Nat) (a : List PV) (r : List RowS) (K : List PV → List RowS → Option R) : s25 k a r K = callC T F k 25 a r K := by
  unfold s25
  exact onShape_eq (a := [.agg [.val [] (.int .i64), .val [] .bool, .val [] .bool, .val [] .bool]]) (b := []) (G := fun a r => callC T F k 25 a r K) (fun x y => Eq.trans (by kernel_rfl) (Eq.trans (e25 k x.1.1 x.1.2.1 x.1.2.2.1 x.1.2.2.2.1 K).symm (by kernel_rfl))) a r
end
section
variable {R : Type}
noncomputable def S21 (k g : Nat) (a : List PV) (r : List RowS) (K : List PV → List RowS → Option R) : Option R := bif g == 24 then s24 k a r K else bif g == 25 then s25 k a r K else callC T F k g a r K
theorem S21_eq (k : Nat) : S21 (R := R) k = callC T F k := by
  funext g a r K
  exact pick_eq (fun e => by subst e; exact s24_eq k a r K) (pick_eq (fun e => by subst e; exact s25_eq k a r K) (rfl))
theorem e21 (k : Nat) (K : List PV → List RowS → Option R) : callC T F k 21 [] [] K = f21 k (fun z0 => K [.val [] .bool z0] []) := by
  rw [f21_def]
  cases k with
  | zero => rfl
  | succ k =>
    refine Eq.trans (show _ = exec T an21 (modesOf F) 0 k 15 (callC T F k) (ending T Try.f21 an21 0 K) (bodyOf Try.f21) ⟨argEnv 0 [] (fun _ => none), rowsOf []⟩ (ending T Try.f21 an21 0 K) (fun _ _ => none) from by kernel_rfl) ?_
    rw [← S21_eq k, ← execS_eq T an21 (modesOf F) 0 k 15 (S21 k) (fun _ _ _ _ _ => none) (bodyOf Try.f21) (cuts_of _ _ _ _ _ _ _ _ (bodyOf Try.f21) (l := []) (by kernel_rfl) trivial)]
    kernel_rfl
noncomputable def s21 (k : Nat) (a : List PV) (r : List RowS) (K : List PV → List RowS → Option R) : Option R :=
  onShape [] [] (fun v => f21 k (fun z0 => K [.val [] .bool z0] [])) (callC T F k 21 a r K) a r
theorem s21_eq (k : Nat) (a : List PV) (r : List RowS) (K : List PV → List RowS → Option R) : s21 k a r K = callC T F k 21 a r K := by
  unfold s21
  exact onShape_eq (a := []) (b := []) (G := fun a r => callC T F k 21 a r K) (fun x y => Eq.trans (by kernel_rfl) (Eq.trans (e21 k K).symm (by kernel_rfl))) a r
end
section
variable {R : Type}
noncomputable def S3 (k g : Nat) (a : List PV) (r : List RowS) (K : List PV → List RowS → Option R) : Option R := bif g == 16 then s16 k a r K else bif g == 17 then s17 k a r K else bif g == 18 then s18 k a r K else bif g == 19 then s19 k a r K else bif g == 20 then s20 k a r K else bif g == 21 then s21 k a r K else callC T F k g a r K
theorem S3_eq (k : Nat) : S3 (R := R) k = callC T F k := by
  funext g a r K
  exact pick_eq (fun e => by subst e; exact s16_eq k a r K) (pick_eq (fun e => by subst e; exact s17_eq k a r K) (pick_eq (fun e => by subst e; exact s18_eq k a r K) (pick_eq (fun e => by subst e; exact s19_eq k a r K) (pick_eq (fun e => by subst e; exact s20_eq k a r K) (pick_eq (fun e => by subst e; exact s21_eq k a r K) (rfl))))))
theorem e3 (k : Nat) (a0 : List Int) (K : List PV → List RowS → Option R) : callC T F k 3 [.val [(0, 0)] (.slice (.int .u8)) a0] [] K = f3 k a0 (fun z0 => K [.val [] .bool z0] []) := by
  rw [f3_def]
  cases k with
  | zero => rfl
  | succ k =>
    refine Eq.trans (show _ = exec T an3 (modesOf F) 0 k 49 (callC T F k) (ending T Try.f3 an3 0 K) (bodyOf Try.f3) ⟨argEnv 0 [.val [(0, 0)] (.slice (.int .u8)) a0] (fun _ => none), rowsOf []⟩ (ending T Try.f3 an3 0 K) (fun _ _ => none) from by kernel_rfl) ?_
    rw [← S3_eq k, ← execS_eq T an3 (modesOf F) 0 k 49 (S3 k) (fun _ _ _ _ _ => none) (bodyOf Try.f3) (cuts_of _ _ _ _ _ _ _ _ (bodyOf Try.f3) (l := []) (by kernel_rfl) trivial)]
    kernel_rfl
noncomputable def s3 (k : Nat) (a : List PV) (r : List RowS) (K : List PV → List RowS → Option R) : Option R :=
  onShape [.val [(0, 0)] (.slice (.int .u8))] [] (fun v => f3 k v.1.1 (fun z0 => K [.val [] .bool z0] [])) (callC T F k 3 a r K) a r
theorem s3_eq (k : Nat) (a : List PV) (r : List RowS) (K : List PV → List RowS → Option R) : s3 k a r K = callC T F k 3 a r K := by
  unfold s3
  exact onShape_eq (a := [.val [(0, 0)] (.slice (.int .u8))]) (b := []) (G := fun a r => callC T F k 3 a r K) (fun x y => Eq.trans (by kernel_rfl) (Eq.trans (e3 k x.1 K).symm (by kernel_rfl))) a r
end
section
variable {R : Type}
noncomputable def S22 (k g : Nat) (a : List PV) (r : List RowS) (K : List PV → List RowS → Option R) : Option R := bif g == 60 then s60 k a r K else callC T F k g a r K
theorem S22_eq (k : Nat) : S22 (R := R) k = callC T F k := by
  funext g a r K
  exact pick_eq (fun e => by subst e; exact s60_eq k a r K) (rfl)
theorem e22 (k : Nat) (a0 : Int) (a1 : Int) (a2 : List Int) (K : List PV → List RowS → Option R) : callC T F k 22 [.agg [.val [] (.int .i64) a0, .val [] (.int .i64) a1, .val [(0, 0)] (.slice (.int .u8)) a2]] [] K = f22 k a0 a1 a2 (fun z0 z1 => K [.rw 1, .val [] (.int .i64) z0] [⟨0, .arr [] (.int .u8) z1⟩]) := by
  rw [f22_def]
  cases k with
  | zero => rfl
  | succ k =>
    refine Eq.trans (show _ = exec T an22 (modesOf F) 0 k 20 (callC T F k) (ending T Try.f22 an22 0 K) (bodyOf Try.f22) ⟨argEnv 0 [.agg [.val [] (.int .i64) a0, .val [] (.int .i64) a1, .val [(0, 0)] (.slice (.int .u8)) a2]] (fun _ => none), rowsOf []⟩ (ending T Try.f22 an22 0 K) (fun _ _ => none) from by kernel_rfl) ?_
    rw [← S22_eq k, ← execS_eq T an22 (modesOf F) 0 k 20 (S22 k) (fun _ _ _ _ _ => none) (bodyOf Try.f22) (cuts_of _ _ _ _ _ _ _ _ (bodyOf Try.f22) (l := []) (by kernel_rfl) trivial)]
    kernel_rfl
noncomputable def s22 (k : Nat) (a : List PV) (r : List RowS) (K : List PV → List RowS → Option R) : Option R :=
  onShape [.agg [.val [] (.int .i64), .val [] (.int .i64), .val [(0, 0)] (.slice (.int .u8))]] [] (fun v => f22 k v.1.1.1 v.1.1.2.1 v.1.1.2.2.1 (fun z0 z1 => K [.rw 1, .val [] (.int .i64) z0] [⟨0, .arr [] (.int .u8) z1⟩])) (callC T F k 22 a r K) a r
theorem s22_eq (k : Nat) (a : List PV) (r : List RowS) (K : List PV → List RowS → Option R) : s22 k a r K = callC T F k 22 a r K := by
  unfold s22
  exact onShape_eq (a := [.agg [.val [] (.int .i64), .val [] (.int .i64), .val [(0, 0)] (.slice (.int .u8))]]) (b := []) (G := fun a r => callC T F k 22 a r K) (fun x y => Eq.trans (by kernel_rfl) (Eq.trans (e22 k x.1.1 x.1.2.1 x.1.2.2.1 K).symm (by kernel_rfl))) a r
end
section
variable {R : Type}
noncomputable def S23 (k g : Nat) (a : List PV) (r : List RowS) (K : List PV → List RowS → Option R) : Option R := bif g == 61 then s61 k a r K else callC T F k g a r K
theorem S23_eq (k : Nat) : S23 (R := R) k = callC T F k := by
  funext g a r K
  exact pick_eq (fun e => by subst e; exact s61_eq k a r K) (rfl)
theorem e23 (k : Nat) (a0 : Int) (a1 : Int) (a2 : List Int) (K : List PV → List RowS → Option R) : callC T F k 23 [.agg [.val [] (.int .i64) a0, .val [] (.int .i64) a1, .val [(0, 0)] (.slice (.int .u8)) a2]] [] K = f23 k a0 a1 a2 (fun z0 z1 => K [.rw 1, .val [] (.int .i64) z0] [⟨0, .arr [] (.int .u8) z1⟩]) := by
  rw [f23_def]
  cases k with
  | zero => rfl
  | succ k =>
    refine Eq.trans (show _ = exec T an23 (modesOf F) 0 k 20 (callC T F k) (ending T Try.f23 an23 0 K) (bodyOf Try.f23) ⟨argEnv 0 [.agg [.val [] (.int .i64) a0, .val [] (.int .i64) a1, .val [(0, 0)] (.slice (.int .u8)) a2]] (fun _ => none), rowsOf []⟩ (ending T Try.f23 an23 0 K) (fun _ _ => none) from by kernel_rfl) ?_
    rw [← S23_eq k, ← execS_eq T an23 (modesOf F) 0 k 20 (S23 k) (fun _ _ _ _ _ => none) (bodyOf Try.f23) (cuts_of _ _ _ _ _ _ _ _ (bodyOf Try.f23) (l := []) (by kernel_rfl) trivial)]
    kernel_rfl
noncomputable def s23 (k : Nat) (a : List PV) (r : List RowS) (K : List PV → List RowS → Option R) : Option R :=
  onShape [.agg [.val [] (.int .i64), .val [] (.int .i64), .val [(0, 0)] (.slice (.int .u8))]] [] (fun v => f23 k v.1.1.1 v.1.1.2.1 v.1.1.2.2.1 (fun z0 z1 => K [.rw 1, .val [] (.int .i64) z0] [⟨0, .arr [] (.int .u8) z1⟩])) (callC T F k 23 a r K) a r
theorem s23_eq (k : Nat) (a : List PV) (r : List RowS) (K : List PV → List RowS → Option R) : s23 k a r K = callC T F k 23 a r K := by
  unfold s23
  exact onShape_eq (a := [.agg [.val [] (.int .i64), .val [] (.int .i64), .val [(0, 0)] (.slice (.int .u8))]]) (b := []) (G := fun a r => callC T F k 23 a r K) (fun x y => Eq.trans (by kernel_rfl) (Eq.trans (e23 k x.1.1 x.1.2.1 x.1.2.2.1 K).symm (by kernel_rfl))) a r
end
section
variable {R : Type}
noncomputable def S64 (k g : Nat) (a : List PV) (r : List RowS) (K : List PV → List RowS → Option R) : Option R := callC T F k g a r K
theorem S64_eq (k : Nat) : S64 (R := R) k = callC T F k := by
  funext g a r K
  exact rfl
theorem e64 (k : Nat) (a0 : Bool) (a1 : Int) (K : List PV → List RowS → Option R) : callC T F k 64 [.val [] .bool a0, .val [] (.int .i64) a1] [] K = f64 k a0 a1 (fun z0 => K [.val [] (.int .i64) z0] []) := by
  rw [f64_def]
  cases k with
  | zero => rfl
  | succ k =>
    refine Eq.trans (show _ = exec T an64 (modesOf F) 0 k 7 (callC T F k) (ending T Try.f64 an64 0 K) (bodyOf Try.f64) ⟨argEnv 0 [.val [] .bool a0, .val [] (.int .i64) a1] (fun _ => none), rowsOf []⟩ (ending T Try.f64 an64 0 K) (fun _ _ => none) from by kernel_rfl) ?_
    rw [← S64_eq k, ← execS_eq T an64 (modesOf F) 0 k 7 (S64 k) (fun _ _ _ _ _ => none) (bodyOf Try.f64) (cuts_of _ _ _ _ _ _ _ _ (bodyOf Try.f64) (l := []) (by kernel_rfl) trivial)]
    kernel_rfl
noncomputable def s64 (k : Nat) (a : List PV) (r : List RowS) (K : List PV → List RowS → Option R) : Option R :=
  onShape [.val [] .bool, .val [] (.int .i64)] [] (fun v => f64 k v.1.1 v.1.2.1 (fun z0 => K [.val [] (.int .i64) z0] [])) (callC T F k 64 a r K) a r
theorem s64_eq (k : Nat) (a : List PV) (r : List RowS) (K : List PV → List RowS → Option R) : s64 k a r K = callC T F k 64 a r K := by
  unfold s64
  exact onShape_eq (a := [.val [] .bool, .val [] (.int .i64)]) (b := []) (G := fun a r => callC T F k 64 a r K) (fun x y => Eq.trans (by kernel_rfl) (Eq.trans (e64 k x.1 x.2.1 K).symm (by kernel_rfl))) a r
end
section
variable {R : Type}
noncomputable def S26 (k g : Nat) (a : List PV) (r : List RowS) (K : List PV → List RowS → Option R) : Option R := bif g == 63 then s63 k a r K else bif g == 64 then s64 k a r K else callC T F k g a r K
theorem S26_eq (k : Nat) : S26 (R := R) k = callC T F k := by
  funext g a r K
  exact pick_eq (fun e => by subst e; exact s63_eq k a r K) (pick_eq (fun e => by subst e; exact s64_eq k a r K) (rfl))
theorem e26 (k : Nat) (a0 : Int) (a1 : Bool) (a2 : Bool) (a3 : Bool) (K : List PV → List RowS → Option R) : callC T F k 26 [.agg [.val [] (.int .i64) a0, .val [] .bool a1, .val [] .bool a2, .val [] .bool a3]] [] K = f26 k a0 a1 a2 a3 (fun z0 z1 => K [.rw 1, .val [] (.int .i64) z0] [⟨0, .arr [] (.int .u8) z1⟩]) := by
  rw [f26_def]
  cases k with
  | zero => rfl
  | succ k =>
    refine Eq.trans (show _ = exec T an26 (modesOf F) 0 k 24 (callC T F k) (ending T Try.f26 an26 0 K) (bodyOf Try.f26) ⟨argEnv 0 [.agg [.val [] (.int .i64) a0, .val [] .bool a1, .val [] .bool a2, .val [] .bool a3]] (fun _ => none), rowsOf []⟩ (ending T Try.f26 an26 0 K) (fun _ _ => none) from by kernel_rfl) ?_
    rw [← S26_eq k, ← execS_eq T an26 (modesOf F) 0 k 24 (S26 k) (fun _ _ _ _ _ => none) (bodyOf Try.f26) (cuts_of _ _ _ _ _ _ _ _ (bodyOf Try.f26) (l := []) (by kernel_rfl) trivial)]
    kernel_rfl
noncomputable def s26 (k : Nat) (a : List PV) (r : List RowS) (K : List PV → List RowS → Option R) : Option R :=
  onShape [.agg [.val [] (.int .i64), .val [] .bool, .val [] .bool, .val [] .bool]] [] (fun v => f26 k v.1.1.1 v.1.1.2.1 v.1.1.2.2.1 v.1.1.2.2.2.1 (fun z0 z1 => K [.rw 1, .val [] (.int .i64) z0] [⟨0, .arr [] (.int .u8) z1⟩])) (callC T F k 26 a r K) a r
theorem s26_eq (k : Nat) (a : List PV) (r : List RowS) (K : List PV → List RowS → Option R) : s26 k a r K = callC T F k 26 a r K := by
  unfold s26
  exact onShape_eq (a := [.agg [.val [] (.int .i64), .val [] .bool, .val [] .bool, .val [] .bool]]) (b := []) (G := fun a r => callC T F k 26 a r K) (fun x y => Eq.trans (by kernel_rfl) (Eq.trans (e26 k x.1.1 x.1.2.1 x.1.2.2.1 x.1.2.2.2.1 K).symm (by kernel_rfl))) a r
end
section
variable {R : Type}
noncomputable def S4 (k g : Nat) (a : List PV) (r : List RowS) (K : List PV → List RowS → Option R) : Option R := bif g == 16 then s16 k a r K else bif g == 18 then s18 k a r K else bif g == 19 then s19 k a r K else bif g == 21 then s21 k a r K else bif g == 22 then s22 k a r K else bif g == 23 then s23 k a r K else bif g == 24 then s24 k a r K else bif g == 25 then s25 k a r K else bif g == 26 then s26 k a r K else callC T F k g a r K
theorem S4_eq (k : Nat) : S4 (R := R) k = callC T F k := by
  funext g a r K
  exact pick_eq (fun e => by subst e; exact s16_eq k a r K) (pick_eq (fun e => by subst e; exact s18_eq k a r K) (pick_eq (fun e => by subst e; exact s19_eq k a r K) (pick_eq (fun e => by subst e; exact s21_eq k a r K) (pick_eq (fun e => by subst e; exact s22_eq k a r K) (pick_eq (fun e => by subst e; exact s23_eq k a r K) (pick_eq (fun e => by subst e; exact s24_eq k a r K) (pick_eq (fun e => by subst e; exact s25_eq k a r K) (pick_eq (fun e => by subst e; exact s26_eq k a r K) (rfl)))))))))
section
variable {R : Type} (k : Nat) (K : List PV → List RowS → Option R)
noncomputable def L4_1000006 (ws : List PV) (rs : List RowS) (N : St → Option R) (X : Nat → St → Option R) : Option R :=
  onShape [.ptr 1 0, .ptr 2 0, .rw 3, .val [] .bool] [.vars [.val [] (.int .i64), .val [] (.int .i64), .val [(0, 0)] (.slice (.int .u8))], .vars [.val [] (.int .i64), .val [] .bool, .val [] .bool, .val [] .bool], .arr [] (.int .u8)] (fun v => f4_1000006 k (fun z0 => K [.val [] .bool z0] []) (N (sh fi4_6 [.ptr 1 0] [⟨0, .vars [.val [] (.int .i64) v.2.2.1.1, .val [] .bool v.2.2.1.2.1, .val [] .bool v.2.2.1.2.2.1, .val [] .bool v.2.2.1.2.2.2.1]⟩])) v.1.2.2.2.1 v.2.1.1 v.2.1.2.1 v.2.1.2.2.1 v.2.2.1.1 v.2.2.1.2.1 v.2.2.1.2.2.1 v.2.2.1.2.2.2.1 v.2.2.2.1) (inner T an4 (modesOf F) 0 k 83 (S4 k) (ending T Try.f4 an4 0 K) cd4_1000006 (sh sp4_1000006 ws rs) N X) ws rs
noncomputable def L4 (id : Nat) (ws : List PV) (rs : List RowS) (N : St → Option R) (X : Nat → St → Option R) : Option R := bif id == 1000006 then L4_1000006 k K ws rs N X else none
theorem l4_1000006 (ws : List PV) (rs : List RowS) (N : St → Option R) (X : Nat → St → Option R) : L4 k K 1000006 ws rs N X = inner T an4 (modesOf F) 0 k 83 (S4 k) (ending T Try.f4 an4 0 K) cd4_1000006 (sh sp4_1000006 ws rs) N X := by
  show L4_1000006 k K ws rs N X = _
  unfold L4_1000006
  rw [f4_1000006_def]
  exact onShape_eq (a := [.ptr 1 0, .ptr 2 0, .rw 3, .val [] .bool]) (b := [.vars [.val [] (.int .i64), .val [] (.int .i64), .val [(0, 0)] (.slice (.int .u8))], .vars [.val [] (.int .i64), .val [] .bool, .val [] .bool, .val [] .bool], .arr [] (.int .u8)]) (G := fun ws rs => inner T an4 (modesOf F) 0 k 83 (S4 k) (ending T Try.f4 an4 0 K) cd4_1000006 (sh sp4_1000006 ws rs) N X) (fun x y => Eq.trans (by kernel_rfl) (innerS_eq T an4 (modesOf F) 0 k 83 (S4 k) (L4 k K) cd4_1000006 (l := []) (by kernel_rfl) trivial _ N X)) ws rs
end
theorem e4 (k : Nat) (a0 : Int) (a1 : Int) (a2 : List Int) (a3 : Int) (a4 : Bool) (a5 : Bool) (a6 : Bool) (K : List PV → List RowS → Option R) : callC T F k 4 [.agg [.val [] (.int .i64) a0, .val [] (.int .i64) a1, .val [(0, 0)] (.slice (.int .u8)) a2], .agg [.val [] (.int .i64) a3, .val [] .bool a4, .val [] .bool a5, .val [] .bool a6]] [] K = f4 k a0 a1 a2 a3 a4 a5 a6 (fun z0 => K [.val [] .bool z0] []) := by
  rw [f4_def]
  cases k with
  | zero => rfl
  | succ k =>
    refine Eq.trans (show _ = exec T an4 (modesOf F) 0 k 83 (callC T F k) (ending T Try.f4 an4 0 K) (bodyOf Try.f4) ⟨argEnv 0 [.agg [.val [] (.int .i64) a0, .val [] (.int .i64) a1, .val [(0, 0)] (.slice (.int .u8)) a2], .agg [.val [] (.int .i64) a3, .val [] .bool a4, .val [] .bool a5, .val [] .bool a6]] (fun _ => none), rowsOf []⟩ (ending T Try.f4 an4 0 K) (fun _ _ => none) from by kernel_rfl) ?_
    rw [← S4_eq k, ← execS_eq T an4 (modesOf F) 0 k 83 (S4 k) (L4 k K) (bodyOf Try.f4) (cuts_of _ _ _ _ _ _ _ _ (bodyOf Try.f4) (l := [(1000006, sp4_1000006, cd4_1000006)]) (by kernel_rfl) ⟨l4_1000006 k K, trivial⟩)]
    kernel_rfl
noncomputable def s4 (k : Nat) (a : List PV) (r : List RowS) (K : List PV → List RowS → Option R) : Option R :=
  onShape [.agg [.val [] (.int .i64), .val [] (.int .i64), .val [(0, 0)] (.slice (.int .u8))], .agg [.val [] (.int .i64), .val [] .bool, .val [] .bool, .val [] .bool]] [] (fun v => f4 k v.1.1.1 v.1.1.2.1 v.1.1.2.2.1 v.1.2.1.1 v.1.2.1.2.1 v.1.2.1.2.2.1 v.1.2.1.2.2.2.1 (fun z0 => K [.val [] .bool z0] [])) (callC T F k 4 a r K) a r
theorem s4_eq (k : Nat) (a : List PV) (r : List RowS) (K : List PV → List RowS → Option R) : s4 k a r K = callC T F k 4 a r K := by
  unfold s4
  exact onShape_eq (a := [.agg [.val [] (.int .i64), .val [] (.int .i64), .val [(0, 0)] (.slice (.int .u8))], .agg [.val [] (.int .i64), .val [] .bool, .val [] .bool, .val [] .bool]]) (b := []) (G := fun a r => callC T F k 4 a r K) (fun x y => Eq.trans (by kernel_rfl) (Eq.trans (e4 k x.1.1 x.1.2.1 x.1.2.2.1 x.2.1.1 x.2.1.2.1 x.2.1.2.2.1 x.2.1.2.2.2.1 K).symm (by kernel_rfl))) a r
end
section
variable {R : Type}
noncomputable def S29 (k g : Nat) (a : List PV) (r : List RowS) (K : List PV → List RowS → Option R) : Option R := bif g == 62 then s62 k a r K else callC T F k g a r K
theorem S29_eq (k : Nat) : S29 (R := R) k = callC T F k := by
  funext g a r K
  exact pick_eq (fun e => by subst e; exact s62_eq k a r K) (rfl)
theorem e29 (k : Nat) (a0 : Int) (a1 : Int) (a2 : Bool) (a3 : Bool) (a4 : Bool) (a5 : Int) (K : List PV → List RowS → Option R) : callC T F k 29 [.agg [.val [] (.int .i64) a0, .val [] (.int .i64) a1, .val [] .bool a2, .val [] .bool a3, .val [] .bool a4, .val [] (.int .i64) a5]] [] K = f29 k a0 a1 a2 a3 a4 a5 (fun z0 => K [.val [] (.int .i64) z0] []) := by
  rw [f29_def]
  cases k with
  | zero => rfl
  | succ k =>
    refine Eq.trans (show _ = exec T an29 (modesOf F) 0 k 25 (callC T F k) (ending T Try.f29 an29 0 K) (bodyOf Try.f29) ⟨argEnv 0 [.agg [.val [] (.int .i64) a0, .val [] (.int .i64) a1, .val [] .bool a2, .val [] .bool a3, .val [] .bool a4, .val [] (.int .i64) a5]] (fun _ => none), rowsOf []⟩ (ending T Try.f29 an29 0 K) (fun _ _ => none) from by kernel_rfl) ?_
    rw [← S29_eq k, ← execS_eq T an29 (modesOf F) 0 k 25 (S29 k) (fun _ _ _ _ _ => none) (bodyOf Try.f29) (cuts_of _ _ _ _ _ _ _ _ (bodyOf Try.f29) (l := []) (by kernel_rfl) trivial)]
    kernel_rfl
noncomputable def s29 (k : Nat) (a : List PV) (r : List RowS) (K : List PV → List RowS → Option R) : Option R :=
  onShape [.agg [.val [] (.int .i64), .val [] (.int .i64), .val [] .bool, .val [] .bool, .val [] .bool, .val [] (.int .i64)]] [] (fun v => f29 k v.1.1.1 v.1.1.2.1 v.1.1.2.2.1 v.1.1.2.2.2.1 v.1.1.2.2.2.2.1 v.1.1.2.2.2.2.2.1 (fun z0 => K [.val [] (.int .i64) z0] [])) (callC T F k 29 a r K) a r
theorem s29_eq (k : Nat) (a : List PV) (r : List RowS) (K : List PV → List RowS → Option R) : s29 k a r K = callC T F k 29 a r K := by
  unfold s29
  exact onShape_eq (a := [.agg [.val [] (.int .i64), .val [] (.int .i64), .val [] .bool, .val [] .bool, .val [] .bool, .val [] (.int .i64)]]) (b := []) (G := fun a r => callC T F k 29 a r K) (fun x y => Eq.trans (by kernel_rfl) (Eq.trans (e29 k x.1.1 x.1.2.1 x.1.2.2.1 x.1.2.2.2.1 x.1.2.2.2.2.1 x.1.2.2.2.2.2.1 K).symm (by kernel_rfl))) a r
end
section
variable {R : Type}
noncomputable def S65 (k g : Nat) (a : List PV) (r : List RowS) (K : List PV → List RowS → Option R) : Option R := callC T F k g a r K
theorem S65_eq (k : Nat) : S65 (R := R) k = callC T F k := by
  funext g a r K
  exact rfl
section
variable {R : Type} (k : Nat) (K : List PV → List RowS → Option R)
noncomputable def L65_0 (ws : List PV) (rs : List RowS) (N : St → Option R) (X : Nat → St → Option R) : Option R :=
  onShape [.val [(0, 0)] (.slice (.int .i64)), .val [] (.int .i64), .val [] (.int .i64)] [] (fun v => f65_0 k (fun z0 => K [.val [] (.int .i64) z0] []) (N (sh jn65_0 [] [])) v.1.1 v.1.2.1 k v.1.2.2.1) (inner T an65 (modesOf F) 0 k 15 (S65 k) (ending T Try.f65 an65 0 K) cd65_0 (sh sp65_0 ws rs) N X) ws rs
noncomputable def L65 (id : Nat) (ws : List PV) (rs : List RowS) (N : St → Option R) (X : Nat → St → Option R) : Option R := bif id == 0 then L65_0 k K ws rs N X else none
theorem b65_0 (rec : St → Option R) (N : St → Option R) (X : Nat → St → Option R) (v0_0 : List Int) (v0_1 : Int) (v0_2 : Int) :
    execS T an65 (modesOf F) 0 k 15 (S65 k) (L65 k K) (ending T Try.f65 an65 0 K) bd65_0 (sh sp65_0 [.val [(0, 0)] (.slice (.int .i64)) v0_0, .val [] (.int .i64) v0_1, .val [] (.int .i64) v0_2] []) (fun st => atHead an65 0 bd65_0 st rec) (outX an65 0 0 N X) =
      f65_0b k (fun v0_2 => rec (sh sp65_0 [.val [(0, 0)] (.slice (.int .i64)) v0_0, .val [] (.int .i64) v0_1, .val [] (.int .i64) v0_2] [])) (fun z0 => K [.val [] (.int .i64) z0] []) (N (sh jn65_0 [] [])) v0_0 v0_1 v0_2 := by kernel_rfl
theorem i65_0 (N : St → Option R) (X : Nat → St → Option R) (v0_0 : List Int) (v0_1 : Int) (m : Nat) : ∀ (v0_2 : Int),
    iter (atHead an65 0 bd65_0) m (fun st N' => exec T an65 (modesOf F) 0 k 15 (S65 k) (ending T Try.f65 an65 0 K) bd65_0 st N' (outX an65 0 0 N X)) (sh sp65_0 [.val [(0, 0)] (.slice (.int .i64)) v0_0, .val [] (.int .i64) v0_1, .val [] (.int .i64) v0_2] []) = f65_0d k (fun z0 => K [.val [] (.int .i64) z0] []) (N (sh jn65_0 [] [])) v0_0 v0_1 m v0_2 := by
  induction m with
  | zero => intros; rfl
  | succ m ih =>
    intro v0_2
    simp only [iter]
    rw [← execS_eq T an65 (modesOf F) 0 k 15 (S65 k) (L65 k K) bd65_0 (cuts_of _ _ _ _ _ _ _ _ bd65_0 (l := []) (by kernel_rfl) trivial)]
    refine (b65_0 k K _ N X v0_0 v0_1 v0_2).trans ?_
    simp only [f65_0d, ih]
theorem l65_0 (ws : List PV) (rs : List RowS) (N : St → Option R) (X : Nat → St → Option R) : L65 k K 0 ws rs N X = inner T an65 (modesOf F) 0 k 15 (S65 k) (ending T Try.f65 an65 0 K) cd65_0 (sh sp65_0 ws rs) N X := by
  show L65_0 k K ws rs N X = _
  unfold L65_0
  rw [f65_0_def]
  exact onShape_eq (a := [.val [(0, 0)] (.slice (.int .i64)), .val [] (.int .i64), .val [] (.int .i64)]) (b := []) (G := fun ws rs => inner T an65 (modesOf F) 0 k 15 (S65 k) (ending T Try.f65 an65 0 K) cd65_0 (sh sp65_0 ws rs) N X) (fun x y => Eq.trans (by kernel_rfl) (Eq.trans (i65_0 k K N X x.1 x.2.1 k x.2.2.1).symm (by kernel_rfl))) ws rs
end
theorem e65 (k : Nat) (a0 : List Int) (K : List PV → List RowS → Option R) : callC T F k 65 [.val [(0, 0)] (.slice (.int .i64)) a0] [] K = f65 k a0 (fun z0 => K [.val [] (.int .i64) z0] []) := by
  rw [f65_def]
  cases k with
  | zero => rfl
  | succ k =>
    refine Eq.trans (show _ = exec T an65 (modesOf F) 0 k 15 (callC T F k) (ending T Try.f65 an65 0 K) (bodyOf Try.f65) ⟨argEnv 0 [.val [(0, 0)] (.slice (.int .i64)) a0] (fun _ => none), rowsOf []⟩ (ending T Try.f65 an65 0 K) (fun _ _ => none) from by kernel_rfl) ?_
    rw [← S65_eq k, ← execS_eq T an65 (modesOf F) 0 k 15 (S65 k) (L65 k K) (bodyOf Try.f65) (cuts_of _ _ _ _ _ _ _ _ (bodyOf Try.f65) (l := [(0, sp65_0, cd65_0)]) (by kernel_rfl) ⟨l65_0 k K, trivial⟩)]
    kernel_rfl
noncomputable def s65 (k : Nat) (a : List PV) (r : List RowS) (K : List PV → List RowS → Option R) : Option R :=
  onShape [.val [(0, 0)] (.slice (.int .i64))] [] (fun v => f65 k v.1.1 (fun z0 => K [.val [] (.int .i64) z0] [])) (callC T F k 65 a r K) a r
theorem s65_eq (k : Nat) (a : List PV) (r : List RowS) (K : List PV → List RowS → Option R) : s65 k a r K = callC T F k 65 a r K := by
  unfold s65
  exact onShape_eq (a := [.val [(0, 0)] (.slice (.int .i64))]) (b := []) (G := fun a r => callC T F k 65 a r K) (fun x y => Eq.trans (by kernel_rfl) (Eq.trans (e65 k x.1 K).symm (by kernel_rfl))) a r
end
section
variable {R : Type}
noncomputable def S92 (k g : Nat) (a : List PV) (r : List RowS) (K : List PV → List RowS → Option R) : Option R := callC T F k g a r K
theorem S92_eq (k : Nat) : S92 (R := R) k = callC T F k := by
  funext g a r K
  exact rfl
theorem e92 (k : Nat) (a0 : Int) (a1 : Int) (K : List PV → List RowS → Option R) : callC T F k 92 [.val [] (.int .i64) a0, .val [] (.int .i64) a1] [] K = f92 k a0 a1 (fun z0 => K [.val [] (.int .i64) z0] []) := by
  rw [f92_def]
  cases k with
  | zero => rfl
  | succ k =>
    refine Eq.trans (show _ = exec T an92 (modesOf F) 0 k 11 (callC T F k) (ending T Try.f92 an92 0 K) (bodyOf Try.f92) ⟨argEnv 0 [.val [] (.int .i64) a0, .val [] (.int .i64) a1] (fun _ => none), rowsOf []⟩ (ending T Try.f92 an92 0 K) (fun _ _ => none) from by kernel_rfl) ?_
    rw [← S92_eq k, ← execS_eq T an92 (modesOf F) 0 k 11 (S92 k) (fun _ _ _ _ _ => none) (bodyOf Try.f92) (cuts_of _ _ _ _ _ _ _ _ (bodyOf Try.f92) (l := []) (by kernel_rfl) trivial)]
    kernel_rfl
noncomputable def s92 (k : Nat) (a : List PV) (r : List RowS) (K : List PV → List RowS → Option R) : Option R :=
  onShape [.val [] (.int .i64), .val [] (.int .i64)] [] (fun v => f92 k v.1.1 v.1.2.1 (fun z0 => K [.val [] (.int .i64) z0] [])) (callC T F k 92 a r K) a r
theorem s92_eq (k : Nat) (a : List PV) (r : List RowS) (K : List PV → List RowS → Option R) : s92 k a r K = callC T F k 92 a r K := by
  unfold s92
  exact onShape_eq (a := [.val [] (.int .i64), .val [] (.int .i64)]) (b := []) (G := fun a r => callC T F k 92 a r K) (fun x y => Eq.trans (by kernel_rfl) (Eq.trans (e92 k x.1 x.2.1 K).symm (by kernel_rfl))) a r
end
section
variable {R : Type}
noncomputable def S66 (k g : Nat) (a : List PV) (r : List RowS) (K : List PV → List RowS → Option R) : Option R := bif g == 92 then s92 k a r K else callC T F k g a r K
theorem S66_eq (k : Nat) : S66 (R := R) k = callC T F k := by
  funext g a r K
  exact pick_eq (fun e => by subst e; exact s92_eq k a r K) (rfl)
theorem e66 (k : Nat) (a0 : Int) (a1 : Int) (a2 : Bool) (a3 : Bool) (a4 : Bool) (a5 : Int) (a6 : Int) (K : List PV → List RowS → Option R) : callC T F k 66 [.agg [.val [] (.int .i64) a0, .val [] (.int .i64) a1, .val [] .bool a2, .val [] .bool a3, .val [] .bool a4, .val [] (.int .i64) a5], .val [] (.int .i64) a6] [] K = f66 k a0 a1 a2 a3 a4 a5 a6 (fun z0 z1 z2 z3 z4 z5 z6 => K [.agg [.val [] (.int .i64) z0, .val [] (.int .i64) z1, .val [] .bool z2, .val [] .bool z3, .val [] .bool z4, .val [] (.int .i64) z5], .val [] (.int .i64) z6] []) := by
  rw [f66_def]
  cases k with
  | zero => rfl
  | succ k =>
    refine Eq.trans (show _ = exec T an66 (modesOf F) 0 k 60 (callC T F k) (ending T Try.f66 an66 0 K) (bodyOf Try.f66) ⟨argEnv 0 [.agg [.val [] (.int .i64) a0, .val [] (.int .i64) a1, .val [] .bool a2, .val [] .bool a3, .val [] .bool a4, .val [] (.int .i64) a5], .val [] (.int .i64) a6] (fun _ => none), rowsOf []⟩ (ending T Try.f66 an66 0 K) (fun _ _ => none) from by kernel_rfl) ?_
    rw [← S66_eq k, ← execS_eq T an66 (modesOf F) 0 k 60 (S66 k) (fun _ _ _ _ _ => none) (bodyOf Try.f66) (cuts_of _ _ _ _ _ _ _ _ (bodyOf Try.f66) (l := []) (by kernel_rfl) trivial)]
    kernel_rfl
noncomputable def s66 (k : Nat) (a : List PV) (r : List RowS) (K : List PV → List RowS → Option R) : Option R :=
  onShape [.agg [.val [] (.int .i64), .val [] (.int .i64), .val [] .bool, .val [] .bool, .val [] .bool, .val [] (.int .i64)], .val [] (.int .i64)] [] (fun v => f66 k v.1.1.1 v.1.1.2.1 v.1.1.2.2.1 v.1.1.2.2.2.1 v.1.1.2.2.2.2.1 v.1.1.2.2.2.2.2.1 v.1.2.1 (fun z0 z1 z2 z3 z4 z5 z6 => K [.agg [.val [] (.int .i64) z0, .val [] (.int .i64) z1, .val [] .bool z2, .val [] .bool z3, .val [] .bool z4, .val [] (.int .i64) z5], .val [] (.int .i64) z6] [])) (callC T F k 66 a r K) a r
theorem s66_eq (k : Nat) (a : List PV) (r : List RowS) (K : List PV → List RowS → Option R) : s66 k a r K = callC T F k 66 a r K := by
  unfold s66
  exact onShape_eq (a := [.agg [.val [] (.int .i64), .val [] (.int .i64), .val [] .bool, .val [] .bool, .val [] .bool, .val [] (.int .i64)], .val [] (.int .i64)]) (b := []) (G := fun a r => callC T F k 66 a r K) (fun x y => Eq.trans (by kernel_rfl) (Eq.trans (e66 k x.1.1 x.1.2.1 x.1.2.2.1 x.1.2.2.2.1 x.1.2.2.2.2.1 x.1.2.2.2.2.2.1 x.2.1 K).symm (by kernel_rfl))) a r
end
section
variable {R : Type}
noncomputable def S27 (k g : Nat) (a : List PV) (r : List RowS) (K : List PV → List RowS → Option R) : Option R := bif g == 29 then s29 k a r K else bif g == 60 then s60 k a r K else bif g == 65 then s65 k a r K else bif g == 66 then s66 k a r K else callC T F k g a r K
theorem S27_eq (k : Nat) : S27 (R := R) k = callC T F k := by
  funext g a r K
  exact pick_eq (fun e => by subst e; exact s29_eq k a r K) (pick_eq (fun e => by subst e; exact s60_eq k a r K) (pick_eq (fun e => by subst e; exact s65_eq k a r K) (pick_eq (fun e => by subst e; exact s66_eq k a r K) (rfl))))
section
variable {R : Type} (k : Nat) (K : List PV → List RowS → Option R)
noncomputable def L27_1000016 (ws : List PV) (rs : List RowS) (N : St → Option R) (X : Nat → St → Option R) : Option R :=
  onShape [.ptr 1 0, .ptr 2 0, .ptr 3 0, .val [] (.int .i64), .val [] .bool] [.vars [.val [] (.int .i64), .val [] (.int .i64), .val [] .bool, .val [] .bool, .val [] .bool, .val [] (.int .i64)], .vars [.val [] (.int .i64), .val [] (.int .i64), .val [(0, 0)] (.slice (.int .u8))], .vars [.val [] (.int .i64), .val [] (.int .i64), .val [] .bool, .val [] .bool, .val [] .bool, .val [] (.int .i64)]] (fun v => f27_1000016 k (fun yN_0 yN_1 yN_4 => N (sh fi27_16 [.ptr 1 0, .ptr 2 0, .val [] (.int .i64) yN_0] [⟨0, .vars [.val [] (.int .i64) yN_1, .val [] (.int .i64) v.2.1.2.1, .val [] .bool v.2.1.2.2.1, .val [] .bool yN_4, .val [] .bool v.2.1.2.2.2.2.1, .val [] (.int .i64) v.2.1.2.2.2.2.2.1]⟩, ⟨0, .vars [.val [] (.int .i64) v.2.2.2.1.1, .val [] (.int .i64) v.2.2.2.1.2.1, .val [] .bool v.2.2.2.1.2.2.1, .val [] .bool v.2.2.2.1.2.2.2.1, .val [] .bool v.2.2.2.1.2.2.2.2.1, .val [] (.int .i64) v.2.2.2.1.2.2.2.2.2.1]⟩])) v.1.2.2.2.1 v.1.2.2.2.2.1 v.2.1.1 v.2.1.2.1 v.2.1.2.2.1 v.2.1.2.2.2.1 v.2.1.2.2.2.2.1 v.2.1.2.2.2.2.2.1 v.2.2.1.1 v.2.2.1.2.1 v.2.2.1.2.2.1 v.2.2.2.1.1 v.2.2.2.1.2.1 v.2.2.2.1.2.2.1 v.2.2.2.1.2.2.2.1 v.2.2.2.1.2.2.2.2.1 v.2.2.2.1.2.2.2.2.2.1) (inner T an27 (modesOf F) 0 k 56 (S27 k) (ending T Try.f27 an27 0 K) cd27_1000016 (sh sp27_1000016 ws rs) N X) ws rs
noncomputable def L27_1000015 (ws : List PV) (rs : List RowS) (N : St → Option R) (X : Nat → St → Option R) : Option R :=
  onShape [.ptr 1 0, .ptr 2 0, .ptr 3 0, .val [] (.int .i64), .val [] .bool] [.vars [.val [] (.int .i64), .val [] (.int .i64), .val [] .bool, .val [] .bool, .val [] .bool, .val [] (.int .i64)], .vars [.val [] (.int .i64), .val [] (.int .i64), .val [(0, 0)] (.slice (.int .u8))], .vars [.val [] (.int .i64), .val [] (.int .i64), .val [] .bool, .val [] .bool, .val [] .bool, .val [] (.int .i64)]] (fun v => f27_1000015 k (fun yN_0 yN_1 yN_4 yN_5 => N (sh fi27_15 [.ptr 1 0, .ptr 2 0, .val [] (.int .i64) yN_0] [⟨0, .vars [.val [] (.int .i64) yN_1, .val [] (.int .i64) v.2.1.2.1, .val [] .bool v.2.1.2.2.1, .val [] .bool yN_4, .val [] .bool yN_5, .val [] (.int .i64) v.2.1.2.2.2.2.2.1]⟩, ⟨0, .vars [.val [] (.int .i64) v.2.2.2.1.1, .val [] (.int .i64) v.2.2.2.1.2.1, .val [] .bool v.2.2.2.1.2.2.1, .val [] .bool v.2.2.2.1.2.2.2.1, .val [] .bool v.2.2.2.1.2.2.2.2.1, .val [] (.int .i64) v.2.2.2.1.2.2.2.2.2.1]⟩])) v.1.2.2.2.1 v.1.2.2.2.2.1 v.2.1.1 v.2.1.2.1 v.2.1.2.2.1 v.2.1.2.2.2.1 v.2.1.2.2.2.2.1 v.2.1.2.2.2.2.2.1 v.2.2.1.1 v.2.2.1.2.1 v.2.2.1.2.2.1 v.2.2.2.1.1 v.2.2.2.1.2.1 v.2.2.2.1.2.2.1 v.2.2.2.1.2.2.2.1 v.2.2.2.1.2.2.2.2.1 v.2.2.2.1.2.2.2.2.2.1) (inner T an27 (modesOf F) 0 k 56 (S27 k) (ending T Try.f27 an27 0 K) cd27_1000015 (sh sp27_1000015 ws rs) N X) ws rs
noncomputable def L27_1000013 (ws : List PV) (rs : List RowS) (N : St → Option R) (X : Nat → St → Option R) : Option R :=
  onShape [.ptr 1 0, .ptr 2 0, .ptr 3 0, .val [] (.int .i64), .val [] (.int .i64), .val [] .bool] [.vars [.val [] (.int .i64), .val [] (.int .i64), .val [] .bool, .val [] .bool, .val [] .bool, .val [] (.int .i64)], .vars [.val [] (.int .i64), .val [] (.int .i64), .val [(0, 0)] (.slice (.int .u8))], .vars [.val [] (.int .i64), .val [] (.int .i64), .val [] .bool, .val [] .bool, .val [] .bool, .val [] (.int .i64)]] (fun v => f27_1000013 k (fun yN_0 yN_1 yN_3 yN_4 yN_5 => N (sh fi27_13 [.ptr 1 0, .ptr 2 0, .val [] (.int .i64) yN_0] [⟨0, .vars [.val [] (.int .i64) yN_1, .val [] (.int .i64) v.2.1.2.1, .val [] .bool yN_3, .val [] .bool yN_4, .val [] .bool yN_5, .val [] (.int .i64) v.2.1.2.2.2.2.2.1]⟩, ⟨0, .vars [.val [] (.int .i64) v.2.2.2.1.1, .val [] (.int .i64) v.2.2.2.1.2.1, .val [] .bool v.2.2.2.1.2.2.1, .val [] .bool v.2.2.2.1.2.2.2.1, .val [] .bool v.2.2.2.1.2.2.2.2.1, .val [] (.int .i64) v.2.2.2.1.2.2.2.2.2.1]⟩])) v.1.2.2.2.1 v.1.2.2.2.2.1 v.1.2.2.2.2.2.1 v.2.1.1 v.2.1.2.1 v.2.1.2.2.1 v.2.1.2.2.2.1 v.2.1.2.2.2.2.1 v.2.1.2.2.2.2.2.1 v.2.2.1.1 v.2.2.1.2.1 v.2.2.1.2.2.1 v.2.2.2.1.1 v.2.2.2.1.2.1 v.2.2.2.1.2.2.1 v.2.2.2.1.2.2.2.1 v.2.2.2.1.2.2.2.2.1 v.2.2.2.1.2.2.2.2.2.1) (inner T an27 (modesOf F) 0 k 56 (S27 k) (ending T Try.f27 an27 0 K) cd27_1000013 (sh sp27_1000013 ws rs) N X) ws rs
noncomputable def L27_1000010 (ws : List PV) (rs : List RowS) (N : St → Option R) (X : Nat → St → Option R) : Option R :=
  onShape [.ptr 1 0, .ptr 2 0, .ptr 3 0, .val [] (.int .i64), .val [] (.int .i64), .val [] .bool] [.vars [.val [] (.int .i64), .val [] (.int .i64), .val [] .bool, .val [] .bool, .val [] .bool, .val [] (.int .i64)], .vars [.val [] (.int .i64), .val [] (.int .i64), .val [(0, 0)] (.slice (.int .u8))], .vars [.val [] (.int .i64), .val [] (.int .i64), .val [] .bool, .val [] .bool, .val [] .bool, .val [] (.int .i64)]] (fun v => f27_1000010 k (fun yN_0 yN_1 yN_3 yN_4 yN_5 yN_6 => N (sh fi27_10 [.ptr 1 0, .ptr 2 0, .val [] (.int .i64) yN_0] [⟨0, .vars [.val [] (.int .i64) yN_1, .val [] (.int .i64) v.2.1.2.1, .val [] .bool yN_3, .val [] .bool yN_4, .val [] .bool yN_5, .val [] (.int .i64) yN_6]⟩, ⟨0, .vars [.val [] (.int .i64) v.2.2.2.1.1, .val [] (.int .i64) v.2.2.2.1.2.1, .val [] .bool v.2.2.2.1.2.2.1, .val [] .bool v.2.2.2.1.2.2.2.1, .val [] .bool v.2.2.2.1.2.2.2.2.1, .val [] (.int .i64) v.2.2.2.1.2.2.2.2.2.1]⟩])) v.1.2.2.2.1 v.1.2.2.2.2.1 v.1.2.2.2.2.2.1 v.2.1.1 v.2.1.2.1 v.2.1.2.2.1 v.2.1.2.2.2.1 v.2.1.2.2.2.2.1 v.2.1.2.2.2.2.2.1 v.2.2.1.1 v.2.2.1.2.1 v.2.2.1.2.2.1 v.2.2.2.1.1 v.2.2.2.1.2.1 v.2.2.2.1.2.2.1 v.2.2.2.1.2.2.2.1 v.2.2.2.1.2.2.2.2.1 v.2.2.2.1.2.2.2.2.2.1) (inner T an27 (modesOf F) 0 k 56 (S27 k) (ending T Try.f27 an27 0 K) cd27_1000010 (sh sp27_1000010 ws rs) N X) ws rs
noncomputable def L27_1000008 (ws : List PV) (rs : List RowS) (N : St → Option R) (X : Nat → St → Option R) : Option R :=
  onShape [.ptr 1 0, .ptr 2 0, .ptr 3 0, .val [] (.int .i64), .val [] (.int .i64), .val [] .bool] [.vars [.val [] (.int .i64), .val [] (.int .i64), .val [] .bool, .val [] .bool, .val [] .bool, .val [] (.int .i64)], .vars [.val [] (.int .i64), .val [] (.int .i64), .val [(0, 0)] (.slice (.int .u8))], .vars [.val [] (.int .i64), .val [] (.int .i64), .val [] .bool, .val [] .bool, .val [] .bool, .val [] (.int .i64)]] (fun v => f27_1000008 k (fun yN_0 yN_1 yN_2 yN_3 yN_4 yN_5 yN_6 => N (sh fi27_8 [.ptr 1 0, .ptr 2 0, .val [] (.int .i64) yN_0] [⟨0, .vars [.val [] (.int .i64) yN_1, .val [] (.int .i64) yN_2, .val [] .bool yN_3, .val [] .bool yN_4, .val [] .bool yN_5, .val [] (.int .i64) yN_6]⟩, ⟨0, .vars [.val [] (.int .i64) v.2.2.2.1.1, .val [] (.int .i64) v.2.2.2.1.2.1, .val [] .bool v.2.2.2.1.2.2.1, .val [] .bool v.2.2.2.1.2.2.2.1, .val [] .bool v.2.2.2.1.2.2.2.2.1, .val [] (.int .i64) v.2.2.2.1.2.2.2.2.2.1]⟩])) v.1.2.2.2.1 v.1.2.2.2.2.1 v.1.2.2.2.2.2.1 v.2.1.1 v.2.1.2.1 v.2.1.2.2.1 v.2.1.2.2.2.1 v.2.1.2.2.2.2.1 v.2.1.2.2.2.2.2.1 v.2.2.1.1 v.2.2.1.2.1 v.2.2.1.2.2.1 v.2.2.2.1.1 v.2.2.2.1.2.1 v.2.2.2.1.2.2.1 v.2.2.2.1.2.2.2.1 v.2.2.2.1.2.2.2.2.1 v.2.2.2.1.2.2.2.2.2.1) (inner T an27 (modesOf F) 0 k 56 (S27 k) (ending T Try.f27 an27 0 K) cd27_1000008 (sh sp27_1000008 ws rs) N X) ws rs
noncomputable def L27 (id : Nat) (ws : List PV) (rs : List RowS) (N : St → Option R) (X : Nat → St → Option R) : Option R := bif id == 1000016 then L27_1000016 k K ws rs N X else bif id == 1000015 then L27_1000015 k K ws rs N X else bif id == 1000013 then L27_1000013 k K ws rs N X else bif id == 1000010 then L27_1000010 k K ws rs N X else bif id == 1000008 then L27_1000008 k K ws rs N X else none
theorem l27_1000016 (ws : List PV) (rs : List RowS) (N : St → Option R) (X : Nat → St → Option R) : L27 k K 1000016 ws rs N X = inner T an27 (modesOf F) 0 k 56 (S27 k) (ending T Try.f27 an27 0 K) cd27_1000016 (sh sp27_1000016 ws rs) N X := by
  show L27_1000016 k K ws rs N X = _
  unfold L27_1000016
  rw [f27_1000016_def]
  exact onShape_eq (a := [.ptr 1 0, .ptr 2 0, .ptr 3 0, .val [] (.int .i64), .val [] .bool]) (b := [.vars [.val [] (.int .i64), .val [] (.int .i64), .val [] .bool, .val [] .bool, .val [] .bool, .val [] (.int .i64)], .vars [.val [] (.int .i64), .val [] (.int .i64), .val [(0, 0)] (.slice (.int .u8))], .vars [.val [] (.int .i64), .val [] (.int .i64), .val [] .bool, .val [] .bool, .val [] .bool, .val [] (.int .i64)]]) (G := fun ws rs => inner T an27 (modesOf F) 0 k 56 (S27 k) (ending T Try.f27 an27 0 K) cd27_1000016 (sh sp27_1000016 ws rs) N X) (fun x y => Eq.trans (by kernel_rfl) (innerS_eq T an27 (modesOf F) 0 k 56 (S27 k) (L27 k K) cd27_1000016 (l := []) (by kernel_rfl) trivial _ N X)) ws rs
theorem l27_1000015 (ws : List PV) (rs : List RowS) (N : St → Option R) (X : Nat → St → Option R) : L27 k K 1000015 ws rs N X = inner T an27 (modesOf F) 0 k 56 (S27 k) (ending T Try.f27 an27 0 K) cd27_1000015 (sh sp27_1000015 ws rs) N X := by
  show L27_1000015 k K ws rs N X = _
  unfold L27_1000015
  rw [f27_1000015_def]
  exact onShape_eq (a := [.ptr 1 0, .ptr 2 0, .ptr 3 0, .val [] (.int .i64), .val [] .bool]) (b := [.vars [.val [] (.int .i64), .val [] (.int .i64), .val [] .bool, .val [] .bool, .val [] .bool, .val [] (.int .i64)], .vars [.val [] (.int .i64), .val [] (.int .i64), .val [(0, 0)] (.slice (.int .u8))], .vars [.val [] (.int .i64), .val [] (.int .i64), .val [] .bool, .val [] .bool, .val [] .bool, .val [] (.int .i64)]]) (G := fun ws rs => inner T an27 (modesOf F) 0 k 56 (S27 k) (ending T Try.f27 an27 0 K) cd27_1000015 (sh sp27_1000015 ws rs) N X) (fun x y => Eq.trans (by kernel_rfl) (innerS_eq T an27 (modesOf F) 0 k 56 (S27 k) (L27 k K) cd27_1000015 (l := [(1000016, sp27_1000016, cd27_1000016)]) (by kernel_rfl) ⟨l27_1000016 k K, trivial⟩ _ N X)) ws rs
theorem l27_1000013 (ws : List PV) (rs : List RowS) (N : St → Option R) (X : Nat → St → Option R) : L27 k K 1000013 ws rs N X = inner T an27 (modesOf F) 0 k 56 (S27 k) (ending T Try.f27 an27 0 K) cd27_1000013 (sh sp27_1000013 ws rs) N X := by
  show L27_1000013 k K ws rs N X = _
  unfold L27_1000013
  rw [f27_1000013_def]
  exact onShape_eq (a := [.ptr 1 0, .ptr 2 0, .ptr 3 0, .val [] (.int .i64), .val [] (.int .i64), .val [] .bool]) (b := [.vars [.val [] (.int .i64), .val [] (.int .i64), .val [] .bool, .val [] .bool, .val [] .bool, .val [] (.int .i64)], .vars [.val [] (.int .i64), .val [] (.int .i64), .val [(0, 0)] (.slice (.int .u8))], .vars [.val [] (.int .i64), .val [] (.int .i64), .val [] .bool, .val [] .bool, .val [] .bool, .val [] (.int .i64)]]) (G := fun ws rs => inner T an27 (modesOf F) 0 k 56 (S27 k) (ending T Try.f27 an27 0 K) cd27_1000013 (sh sp27_1000013 ws rs) N X) (fun x y => Eq.trans (by kernel_rfl) (innerS_eq T an27 (modesOf F) 0 k 56 (S27 k) (L27 k K) cd27_1000013 (l := [(1000015, sp27_1000015, cd27_1000015)]) (by kernel_rfl) ⟨l27_1000015 k K, trivial⟩ _ N X)) ws rs
theorem l27_1000010 (ws : List PV) (rs : List RowS) (N : St → Option R) (X : Nat → St → Option R) : L27 k K 1000010 ws rs N X = inner T an27 (modesOf F) 0 k 56 (S27 k) (ending T Try.f27 an27 0 K) cd27_1000010 (sh sp27_1000010 ws rs) N X := by
  show L27_1000010 k K ws rs N X = _
  unfold L27_1000010
  rw [f27_1000010_def]
  exact onShape_eq (a := [.ptr 1 0, .ptr 2 0, .ptr 3 0, .val [] (.int .i64), .val [] (.int .i64), .val [] .bool]) (b := [.vars [.val [] (.int .i64), .val [] (.int .i64), .val [] .bool, .val [] .bool, .val [] .bool, .val [] (.int .i64)], .vars [.val [] (.int .i64), .val [] (.int .i64), .val [(0, 0)] (.slice (.int .u8))], .vars [.val [] (.int .i64), .val [] (.int .i64), .val [] .bool, .val [] .bool, .val [] .bool, .val [] (.int .i64)]]) (G := fun ws rs => inner T an27 (modesOf F) 0 k 56 (S27 k) (ending T Try.f27 an27 0 K) cd27_1000010 (sh sp27_1000010 ws rs) N X) (fun x y => Eq.trans (by kernel_rfl) (innerS_eq T an27 (modesOf F) 0 k 56 (S27 k) (L27 k K) cd27_1000010 (l := [(1000013, sp27_1000013, cd27_1000013)]) (by kernel_rfl) ⟨l27_1000013 k K, trivial⟩ _ N X)) ws rs
theorem l27_1000008 (ws : List PV) (rs : List RowS) (N : St → Option R) (X : Nat → St → Option R) : L27 k K 1000008 ws rs N X = inner T an27 (modesOf F) 0 k 56 (S27 k) (ending T Try.f27 an27 0 K) cd27_1000008 (sh sp27_1000008 ws rs) N X := by
  show L27_1000008 k K ws rs N X = _
  unfold L27_1000008
  rw [f27_1000008_def]
  exact onShape_eq (a := [.ptr 1 0, .ptr 2 0, .ptr 3 0, .val [] (.int .i64), .val [] (.int .i64), .val [] .bool]) (b := [.vars [.val [] (.int .i64), .val [] (.int .i64), .val [] .bool, .val [] .bool, .val [] .bool, .val [] (.int .i64)], .vars [.val [] (.int .i64), .val [] (.int .i64), .val [(0, 0)] (.slice (.int .u8))], .vars [.val [] (.int .i64), .val [] (.int .i64), .val [] .bool, .val [] .bool, .val [] .bool, .val [] (.int .i64)]]) (G := fun ws rs => inner T an27 (modesOf F) 0 k 56 (S27 k) (ending T Try.f27 an27 0 K) cd27_1000008 (sh sp27_1000008 ws rs) N X) (fun x y => Eq.trans (by kernel_rfl) (innerS_eq T an27 (modesOf F) 0 k 56 (S27 k) (L27 k K) cd27_1000008 (l := [(1000010, sp27_1000010, cd27_1000010)]) (by kernel_rfl) ⟨l27_1000010 k K, trivial⟩ _ N X)) ws rs
end
theorem e27 (k : Nat) (a0 : Int) (a1 : Int) (a2 : Bool) (a3 : Bool) (a4 : Bool) (a5 : Int) (a6 : Int) (a7 : Int) (a8 : List Int) (K : List PV → List RowS → Option R) : callC T F k 27 [.agg [.val [] (.int .i64) a0, .val [] (.int .i64) a1, .val [] .bool a2, .val [] .bool a3, .val [] .bool a4, .val [] (.int .i64) a5], .agg [.val [] (.int .i64) a6, .val [] (.int .i64) a7, .val [(0, 0)] (.slice (.int .u8)) a8]] [] K = f27 k a0 a1 a2 a3 a4 a5 a6 a7 a8 (fun z0 z1 z2 z3 z4 z5 z6 z7 => K [.agg [.val [] (.int .i64) z0, .val [] (.int .i64) z1, .val [] .bool z2, .val [] .bool z3, .val [] .bool z4, .val [] (.int .i64) z5], .val [] (.int .i64) z6, .val [] (.int .i64) z7] []) := by
  rw [f27_def]
  cases k with
  | zero => rfl
  | succ k =>
    refine Eq.trans (show _ = exec T an27 (modesOf F) 0 k 56 (callC T F k) (ending T Try.f27 an27 0 K) (bodyOf Try.f27) ⟨argEnv 0 [.agg [.val [] (.int .i64) a0, .val [] (.int .i64) a1, .val [] .bool a2, .val [] .bool a3, .val [] .bool a4, .val [] (.int .i64) a5], .agg [.val [] (.int .i64) a6, .val [] (.int .i64) a7, .val [(0, 0)] (.slice (.int .u8)) a8]] (fun _ => none), rowsOf []⟩ (ending T Try.f27 an27 0 K) (fun _ _ => none) from by kernel_rfl) ?_
    rw [← S27_eq k, ← execS_eq T an27 (modesOf F) 0 k 56 (S27 k) (L27 k K) (bodyOf Try.f27) (cuts_of _ _ _ _ _ _ _ _ (bodyOf Try.f27) (l := [(1000008, sp27_1000008, cd27_1000008)]) (by kernel_rfl) ⟨l27_1000008 k K, trivial⟩)]
    kernel_rfl
noncomputable def s27 (k : Nat) (a : List PV) (r : List RowS) (K : List PV → List RowS → Option R) : Option R :=
  onShape [.agg [.val [] (.int .i64), .val [] (.int .i64), .val [] .bool, .val [] .bool, .val [] .bool, .val [] (.int .i64)], .agg [.val [] (.int .i64), .val [] (.int .i64), .val [(0, 0)] (.slice (.int .u8))]] [] (fun v => f27 k v.1.1.1 v.1.1.2.1 v.1.1.2.2.1 v.1.1.2.2.2.1 v.1.1.2.2.2.2.1 v.1.1.2.2.2.2.2.1 v.1.2.1.1 v.1.2.1.2.1 v.1.2.1.2.2.1 (fun z0 z1 z2 z3 z4 z5 z6 z7 => K [.agg [.val [] (.int .i64) z0, .val [] (.int .i64) z1, .val [] .bool z2, .val [] .bool z3, .val [] .bool z4, .val [] (.int .i64) z5], .val [] (.int .i64) z6, .val [] (.int .i64) z7] [])) (callC T F k 27 a r K) a r
theorem s27_eq (k : Nat) (a : List PV) (r : List RowS) (K : List PV → List RowS → Option R) : s27 k a r K = callC T F k 27 a r K := by
  unfold s27
  exact onShape_eq (a := [.agg [.val [] (.int .i64), .val [] (.int .i64), .val [] .bool, .val [] .bool, .val [] .bool, .val [] (.int .i64)], .agg [.val [] (.int .i64), .val [] (.int .i64), .val [(0, 0)] (.slice (.int .u8))]]) (b := []) (G := fun a r => callC T F k 27 a r K) (fun x y => Eq.trans (by kernel_rfl) (Eq.trans (e27 k x.1.1 x.1.2.1 x.1.2.2.1 x.1.2.2.2.1 x.1.2.2.2.2.1 x.1.2.2.2.2.2.1 x.2.1.1 x.2.1.2.1 x.2.1.2.2.1 K).symm (by kernel_rfl))) a r
end
section
variable {R : Type}
noncomputable def S5 (k g : Nat) (a : List PV) (r : List RowS) (K : List PV → List RowS → Option R) : Option R := bif g == 21 then s21 k a r K else bif g == 27 then s27 k a r K else callC T F k g a r K
theorem S5_eq (k : Nat) : S5 (R := R) k = callC T F k := by
  funext g a r K
  exact pick_eq (fun e => by subst e; exact s21_eq k a r K) (pick_eq (fun e => by subst e; exact s27_eq k a r K) (rfl))
section
variable {R : Type} (k : Nat) (K : List PV → List RowS → Option R)
noncomputable def L5_1000009 (ws : List PV) (rs : List RowS) (N : St → Option R) (X : Nat → St → Option R) : Option R :=
  onShape [.ptr 1 0, .val [] (.int .i64), .ptr 2 0, .ptr 3 0, .val [] (.int .i64), .val [(0, 0)] (.slice (.prod (.int .i64) (.prod (.int .i64) (.prod (.slice (.int .u8)) .unit)))), .val [] (.int .i64), .val [] (.int .i64), .val [] .bool] [.vars [.val [] (.int .i64), .val [] (.int .i64), .val [] .bool, .val [] .bool, .val [] .bool, .val [] (.int .i64)], .vars [.val [] (.int .i64), .val [] (.int .i64), .val [(0, 0)] (.slice (.int .u8))], .vars [.val [] (.int .i64), .val [] (.int .i64), .val [] .bool, .val [] .bool, .val [] .bool, .val [] (.int .i64)]] (fun v => f5_1000009 k (fun z0 => K [.val [] .bool z0] []) (fun yN_0 => N (sh fi5_9 [.ptr 1 0, .val [] (.int .i64) yN_0, .ptr 2 0, .ptr 3 0, .val [] (.int .i64) v.1.2.2.2.2.1, .val [(0, 0)] (.slice (.prod (.int .i64) (.prod (.int .i64) (.prod (.slice (.int .u8)) .unit)))) v.1.2.2.2.2.2.1, .val [] (.int .i64) v.1.2.2.2.2.2.2.1, .val [] (.int .i64) v.1.2.2.2.2.2.2.2.1] [⟨0, .vars [.val [] (.int .i64) v.2.1.1, .val [] (.int .i64) v.2.1.2.1, .val [] .bool v.2.1.2.2.1, .val [] .bool v.2.1.2.2.2.1, .val [] .bool v.2.1.2.2.2.2.1, .val [] (.int .i64) v.2.1.2.2.2.2.2.1]⟩, ⟨0, .vars [.val [] (.int .i64) v.2.2.1.1, .val [] (.int .i64) v.2.2.1.2.1, .val [(0, 0)] (.slice (.int .u8)) v.2.2.1.2.2.1]⟩, ⟨0, .vars [.val [] (.int .i64) v.2.2.2.1.1, .val [] (.int .i64) v.2.2.2.1.2.1, .val [] .bool v.2.2.2.1.2.2.1, .val [] .bool v.2.2.2.1.2.2.2.1, .val [] .bool v.2.2.2.1.2.2.2.2.1, .val [] (.int .i64) v.2.2.2.1.2.2.2.2.2.1]⟩])) v.1.2.1 v.1.2.2.2.2.1 v.1.2.2.2.2.2.1 v.1.2.2.2.2.2.2.1 v.1.2.2.2.2.2.2.2.1 v.1.2.2.2.2.2.2.2.2.1 v.2.1.1 v.2.1.2.1 v.2.1.2.2.1 v.2.1.2.2.2.1 v.2.1.2.2.2.2.1 v.2.1.2.2.2.2.2.1 v.2.2.1.1 v.2.2.1.2.1 v.2.2.1.2.2.1 v.2.2.2.1.1 v.2.2.2.1.2.1 v.2.2.2.1.2.2.1 v.2.2.2.1.2.2.2.1 v.2.2.2.1.2.2.2.2.1 v.2.2.2.1.2.2.2.2.2.1) (inner T an5 (modesOf F) 0 k 69 (S5 k) (ending T Try.f5 an5 0 K) cd5_1000009 (sh sp5_1000009 ws rs) N X) ws rs
noncomputable def L5_1000013 (ws : List PV) (rs : List RowS) (N : St → Option R) (X : Nat → St → Option R) : Option R :=
  onShape [.ptr 1 0, .val [] (.int .i64), .ptr 2 0, .ptr 3 0, .val [(0, 0)] (.slice (.prod (.int .i64) (.prod (.int .i64) (.prod (.slice (.int .u8)) .unit)))), .val [] (.int .i64), .val [] (.int .i64), .val [] .bool] [.vars [.val [] (.int .i64), .val [] (.int .i64), .val [] .bool, .val [] .bool, .val [] .bool, .val [] (.int .i64)], .vars [.val [] (.int .i64), .val [] (.int .i64), .val [(0, 0)] (.slice (.int .u8))], .vars [.val [] (.int .i64), .val [] (.int .i64), .val [] .bool, .val [] .bool, .val [] .bool, .val [] (.int .i64)]] (fun v => f5_1000013 k (fun yN_0 => N (sh fi5_13 [.ptr 1 0, .val [] (.int .i64) yN_0, .ptr 2 0, .val [(0, 0)] (.slice (.prod (.int .i64) (.prod (.int .i64) (.prod (.slice (.int .u8)) .unit)))) v.1.2.2.2.2.1, .val [] (.int .i64) v.1.2.2.2.2.2.1, .val [] (.int .i64) v.1.2.2.2.2.2.2.1] [⟨0, .vars [.val [] (.int .i64) v.2.1.1, .val [] (.int .i64) v.2.1.2.1, .val [] .bool v.2.1.2.2.1, .val [] .bool v.2.1.2.2.2.1, .val [] .bool v.2.1.2.2.2.2.1, .val [] (.int .i64) v.2.1.2.2.2.2.2.1]⟩, ⟨0, .vars [.val [] (.int .i64) v.2.2.2.1.1, .val [] (.int .i64) v.2.2.2.1.2.1, .val [] .bool v.2.2.2.1.2.2.1, .val [] .bool v.2.2.2.1.2.2.2.1, .val [] .bool v.2.2.2.1.2.2.2.2.1, .val [] (.int .i64) v.2.2.2.1.2.2.2.2.2.1]⟩])) v.1.2.1 v.1.2.2.2.2.1 v.1.2.2.2.2.2.1 v.1.2.2.2.2.2.2.1 v.1.2.2.2.2.2.2.2.1 v.2.1.1 v.2.1.2.1 v.2.1.2.2.1 v.2.1.2.2.2.1 v.2.1.2.2.2.2.1 v.2.1.2.2.2.2.2.1 v.2.2.1.1 v.2.2.1.2.1 v.2.2.1.2.2.1 v.2.2.2.1.1 v.2.2.2.1.2.1 v.2.2.2.1.2.2.1 v.2.2.2.1.2.2.2.1 v.2.2.2.1.2.2.2.2.1 v.2.2.2.1.2.2.2.2.2.1) (inner T an5 (modesOf F) 0 k 69 (S5 k) (ending T Try.f5 an5 0 K) cd5_1000013 (sh sp5_1000013 ws rs) N X) ws rs
noncomputable def L5_1 (ws : List PV) (rs : List RowS) (N : St → Option R) (X : Nat → St → Option R) : Option R :=
  onShape [.ptr 1 0, .val [] (.int .i64), .val [(0, 0)] (.slice (.prod (.int .i64) (.prod (.int .i64) (.prod (.slice (.int .u8)) .unit)))), .val [] (.int .i64), .val [] (.int .i64)] [.vars [.val [] (.int .i64), .val [] (.int .i64), .val [] .bool, .val [] .bool, .val [] .bool, .val [] (.int .i64)]] (fun v => f5_1 k (X 0 (sh jn5_0 [] [])) (fun y1_0 y1_4 y1_5 y1_6 y1_7 y1_8 y1_9 => N (sh jn5_1 [.ptr 1 0, .val [] (.int .i64) y1_0, .val [(0, 0)] (.slice (.prod (.int .i64) (.prod (.int .i64) (.prod (.slice (.int .u8)) .unit)))) v.1.2.2.1, .val [] (.int .i64) v.1.2.2.2.1, .val [] (.int .i64) v.1.2.2.2.2.1] [⟨0, .vars [.val [] (.int .i64) y1_4, .val [] (.int .i64) y1_5, .val [] .bool y1_6, .val [] .bool y1_7, .val [] .bool y1_8, .val [] (.int .i64) y1_9]⟩])) (fun z0 => K [.val [] .bool z0] []) v.1.2.1 v.1.2.2.1 v.1.2.2.2.1 v.1.2.2.2.2.1 v.2.1.1 v.2.1.2.1 v.2.1.2.2.1 v.2.1.2.2.2.1 v.2.1.2.2.2.2.1 v.2.1.2.2.2.2.2.1) (inner T an5 (modesOf F) 0 k 69 (S5 k) (ending T Try.f5 an5 0 K) cd5_1 (sh sp5_1 ws rs) N X) ws rs
noncomputable def L5_0 (ws : List PV) (rs : List RowS) (N : St → Option R) (X : Nat → St → Option R) : Option R :=
  onShape [.ptr 1 0, .val [] (.int .i64), .val [(0, 0)] (.slice (.prod (.int .i64) (.prod (.int .i64) (.prod (.slice (.int .u8)) .unit)))), .val [] (.int .i64), .val [] (.int .i64)] [.vars [.val [] (.int .i64), .val [] (.int .i64), .val [] .bool, .val [] .bool, .val [] .bool, .val [] (.int .i64)]] (fun v => f5_0 k (N (sh jn5_0 [] [])) (fun z0 => K [.val [] .bool z0] []) v.1.2.2.1 v.1.2.2.2.1 k v.1.2.1 v.1.2.2.2.2.1 v.2.1.1 v.2.1.2.1 v.2.1.2.2.1 v.2.1.2.2.2.1 v.2.1.2.2.2.2.1 v.2.1.2.2.2.2.2.1) (inner T an5 (modesOf F) 0 k 69 (S5 k) (ending T Try.f5 an5 0 K) cd5_0 (sh sp5_0 ws rs) N X) ws rs
noncomputable def L5 (id : Nat) (ws : List PV) (rs : List RowS) (N : St → Option R) (X : Nat → St → Option R) : Option R := bif id == 1000009 then L5_1000009 k K ws rs N X else bif id == 1000013 then L5_1000013 k K ws rs N X else bif id == 1 then L5_1 k K ws rs N X else bif id == 0 then L5_0 k K ws rs N X else none
theorem l5_1000009 (ws : List PV) (rs : List RowS) (N : St → Option R) (X : Nat → St → Option R) : L5 k K 1000009 ws rs N X = inner T an5 (modesOf F) 0 k 69 (S5 k) (ending T Try.f5 an5 0 K) cd5_1000009 (sh sp5_1000009 ws rs) N X := by
  show L5_1000009 k K ws rs N X = _
  unfold L5_1000009
  rw [f5_1000009_def]
  exact onShape_eq (a := [.ptr 1 0, .val [] (.int .i64), .ptr 2 0, .ptr 3 0, .val [] (.int .i64), .val [(0, 0)] (.slice (.prod (.int .i64) (.prod (.int .i64) (.prod (.slice (.int .u8)) .unit)))), .val [] (.int .i64), .val [] (.int .i64), .val [] .bool]) (b := [.vars [.val [] (.int .i64), .val [] (.int .i64), .val [] .bool, .val [] .bool, .val [] .bool, .val [] (.int .i64)], .vars [.val [] (.int .i64), .val [] (.int .i64), .val [(0, 0)] (.slice (.int .u8))], .vars [.val [] (.int .i64), .val [] (.int .i64), .val [] .bool, .val [] .bool, .val [] .bool, .val [] (.int .i64)]]) (G := fun ws rs => inner T an5 (modesOf F) 0 k 69 (S5 k) (ending T Try.f5 an5 0 K) cd5_1000009 (sh sp5_1000009 ws rs) N X) (fun x y => Eq.trans (by kernel_rfl) (innerS_eq T an5 (modesOf F) 0 k 69 (S5 k) (L5 k K) cd5_1000009 (l := []) (by kernel_rfl) trivial _ N X)) ws rs
theorem l5_1000013 (ws : List PV) (rs : List RowS) (N : St → Option R) (X : Nat → St → Option R) : L5 k K 1000013 ws rs N X = inner T an5 (modesOf F) 0 k 69 (S5 k) (ending T Try.f5 an5 0 K) cd5_1000013 (sh sp5_1000013 ws rs) N X := by
  show L5_1000013 k K ws rs N X = _
  unfold L5_1000013
  rw [f5_1000013_def]
  exact onShape_eq (a := [.ptr 1 0, .val [] (.int .i64), .ptr 2 0, .ptr 3 0, .val [(0, 0)] (.slice (.prod (.int .i64) (.prod (.int .i64) (.prod (.slice (.int .u8)) .unit)))), .val [] (.int .i64), .val [] (.int .i64), .val [] .bool]) (b := [.vars [.val [] (.int .i64), .val [] (.int .i64), .val [] .bool, .val [] .bool, .val [] .bool, .val [] (.int .i64)], .vars [.val [] (.int .i64), .val [] (.int .i64), .val [(0, 0)] (.slice (.int .u8))], .vars [.val [] (.int .i64), .val [] (.int .i64), .val [] .bool, .val [] .bool, .val [] .bool, .val [] (.int .i64)]]) (G := fun ws rs => inner T an5 (modesOf F) 0 k 69 (S5 k) (ending T Try.f5 an5 0 K) cd5_1000013 (sh sp5_1000013 ws rs) N X) (fun x y => Eq.trans (by kernel_rfl) (innerS_eq T an5 (modesOf F) 0 k 69 (S5 k) (L5 k K) cd5_1000013 (l := []) (by kernel_rfl) trivial _ N X)) ws rs
theorem l5_1 (ws : List PV) (rs : List RowS) (N : St → Option R) (X : Nat → St → Option R) : L5 k K 1 ws rs N X = inner T an5 (modesOf F) 0 k 69 (S5 k) (ending T Try.f5 an5 0 K) cd5_1 (sh sp5_1 ws rs) N X := by
  show L5_1 k K ws rs N X = _
  unfold L5_1
  rw [f5_1_def]
  exact onShape_eq (a := [.ptr 1 0, .val [] (.int .i64), .val [(0, 0)] (.slice (.prod (.int .i64) (.prod (.int .i64) (.prod (.slice (.int .u8)) .unit)))), .val [] (.int .i64), .val [] (.int .i64)]) (b := [.vars [.val [] (.int .i64), .val [] (.int .i64), .val [] .bool, .val [] .bool, .val [] .bool, .val [] (.int .i64)]]) (G := fun ws rs => inner T an5 (modesOf F) 0 k 69 (S5 k) (ending T Try.f5 an5 0 K) cd5_1 (sh sp5_1 ws rs) N X) (fun x y => Eq.trans (by kernel_rfl) (innerS_eq T an5 (modesOf F) 0 k 69 (S5 k) (L5 k K) cd5_1 (l := [(1000009, sp5_1000009, cd5_1000009), (1000013, sp5_1000013, cd5_1000013)]) (by kernel_rfl) ⟨l5_1000009 k K, l5_1000013 k K, trivial⟩ _ N X)) ws rs
theorem b5_0 (rec : St → Option R) (N : St → Option R) (X : Nat → St → Option R) (v0_1 : List ((Int × (Int × (List Int × Unit))))) (v0_2 : Int) (v0_0 : Int) (v0_3 : Int) (v0_4 : Int) (v0_5 : Int) (v0_6 : Bool) (v0_7 : Bool) (v0_8 : Bool) (v0_9 : Int) :
    execS T an5 (modesOf F) 0 k 69 (S5 k) (L5 k K) (ending T Try.f5 an5 0 K) bd5_0 (sh sp5_0 [.ptr 1 0, .val [] (.int .i64) v0_0, .val [(0, 0)] (.slice (.prod (.int .i64) (.prod (.int .i64) (.prod (.slice (.int .u8)) .unit)))) v0_1, .val [] (.int .i64) v0_2, .val [] (.int .i64) v0_3] [⟨0, .vars [.val [] (.int .i64) v0_4, .val [] (.int .i64) v0_5, .val [] .bool v0_6, .val [] .bool v0_7, .val [] .bool v0_8, .val [] (.int .i64) v0_9]⟩]) (fun st => atHead an5 0 bd5_0 st rec) (outX an5 0 0 N X) =
      f5_0b k (fun v0_0 v0_3 v0_4 v0_5 v0_6 v0_7 v0_8 v0_9 => rec (sh sp5_0 [.ptr 1 0, .val [] (.int .i64) v0_0, .val [(0, 0)] (.slice (.prod (.int .i64) (.prod (.int .i64) (.prod (.slice (.int .u8)) .unit)))) v0_1, .val [] (.int .i64) v0_2, .val [] (.int .i64) v0_3] [⟨0, .vars [.val [] (.int .i64) v0_4, .val [] (.int .i64) v0_5, .val [] .bool v0_6, .val [] .bool v0_7, .val [] .bool v0_8, .val [] (.int .i64) v0_9]⟩])) (N (sh jn5_0 [] [])) (fun z0 => K [.val [] .bool z0] []) v0_1 v0_2 v0_0 v0_3 v0_4 v0_5 v0_6 v0_7 v0_8 v0_9 := by kernel_rfl
theorem i5_0 (N : St → Option R) (X : Nat → St → Option R) (v0_1 : List ((Int × (Int × (List Int × Unit))))) (v0_2 : Int) (m : Nat) : ∀ (v0_0 : Int) (v0_3 : Int) (v0_4 : Int) (v0_5 : Int) (v0_6 : Bool) (v0_7 : Bool) (v0_8 : Bool) (v0_9 : Int),
    iter (atHead an5 0 bd5_0) m (fun st N' => exec T an5 (modesOf F) 0 k 69 (S5 k) (ending T Try.f5 an5 0 K) bd5_0 st N' (outX an5 0 0 N X)) (sh sp5_0 [.ptr 1 0, .val [] (.int .i64) v0_0, .val [(0, 0)] (.slice (.prod (.int .i64) (.prod (.int .i64) (.prod (.slice (.int .u8)) .unit)))) v0_1, .val [] (.int .i64) v0_2, .val [] (.int .i64) v0_3] [⟨0, .vars [.val [] (.int .i64) v0_4, .val [] (.int .i64) v0_5, .val [] .bool v0_6, .val [] .bool v0_7, .val [] .bool v0_8, .val [] (.int .i64) v0_9]⟩]) = f5_0d k (N (sh jn5_0 [] [])) (fun z0 => K [.val [] .bool z0] []) v0_1 v0_2 m v0_0 v0_3 v0_4 v0_5 v0_6 v0_7 v0_8 v0_9 := by
  induction m with
  | zero => intros; rfl
  | succ m ih =>
    intro v0_0 v0_3 v0_4 v0_5 v0_6 v0_7 v0_8 v0_9
    simp only [iter]
    rw [← execS_eq T an5 (modesOf F) 0 k 69 (S5 k) (L5 k K) bd5_0 (cuts_of _ _ _ _ _ _ _ _ bd5_0 (l := [(1, sp5_1, cd5_1)]) (by kernel_rfl) ⟨l5_1 k K, trivial⟩)]
    refine (b5_0 k K _ N X v0_1 v0_2 v0_0 v0_3 v0_4 v0_5 v0_6 v0_7 v0_8 v0_9).trans ?_
    simp only [f5_0d, ih]
theorem l5_0 (ws : List PV) (rs : List RowS) (N : St → Option R) (X : Nat → St → Option R) : L5 k K 0 ws rs N X = inner T an5 (modesOf F) 0 k 69 (S5 k) (ending T Try.f5 an5 0 K) cd5_0 (sh sp5_0 ws rs) N X := by
  show L5_0 k K ws rs N X = _
  unfold L5_0
  rw [f5_0_def]
  exact onShape_eq (a := [.ptr 1 0, .val [] (.int .i64), .val [(0, 0)] (.slice (.prod (.int .i64) (.prod (.int .i64) (.prod (.slice (.int .u8)) .unit)))), .val [] (.int .i64), .val [] (.int .i64)]) (b := [.vars [.val [] (.int .i64), .val [] (.int .i64), .val [] .bool, .val [] .bool, .val [] .bool, .val [] (.int .i64)]]) (G := fun ws rs => inner T an5 (modesOf F) 0 k 69 (S5 k) (ending T Try.f5 an5 0 K) cd5_0 (sh sp5_0 ws rs) N X) (fun x y => Eq.trans (by kernel_rfl) (Eq.trans (i5_0 k K N X x.2.2.1 x.2.2.2.1 k x.2.1 x.2.2.2.2.1 y.1.1 y.1.2.1 y.1.2.2.1 y.1.2.2.2.1 y.1.2.2.2.2.1 y.1.2.2.2.2.2.1).symm (by kernel_rfl))) ws rs
end
theorem e5 (k : Nat) (a0 : Int) (a1 : Int) (a2 : Bool) (a3 : Bool) (a4 : Bool) (a5 : Int) (a6 : List ((Int × (Int × (List Int × Unit))))) (K : List PV → List RowS → Option R) : callC T F k 5 [.agg [.val [] (.int .i64) a0, .val [] (.int .i64) a1, .val [] .bool a2, .val [] .bool a3, .val [] .bool a4, .val [] (.int .i64) a5], .val [(0, 0)] (.slice (.prod (.int .i64) (.prod (.int .i64) (.prod (.slice (.int .u8)) .unit)))) a6] [] K = f5 k a0 a1 a2 a3 a4 a5 a6 (fun z0 => K [.val [] .bool z0] []) := by
  rw [f5_def]
  cases k with
  | zero => rfl
  | succ k =>
    refine Eq.trans (show _ = exec T an5 (modesOf F) 0 k 69 (callC T F k) (ending T Try.f5 an5 0 K) (bodyOf Try.f5) ⟨argEnv 0 [.agg [.val [] (.int .i64) a0, .val [] (.int .i64) a1, .val [] .bool a2, .val [] .bool a3, .val [] .bool a4, .val [] (.int .i64) a5], .val [(0, 0)] (.slice (.prod (.int .i64) (.prod (.int .i64) (.prod (.slice (.int .u8)) .unit)))) a6] (fun _ => none), rowsOf []⟩ (ending T Try.f5 an5 0 K) (fun _ _ => none) from by kernel_rfl) ?_
    rw [← S5_eq k, ← execS_eq T an5 (modesOf F) 0 k 69 (S5 k) (L5 k K) (bodyOf Try.f5) (cuts_of _ _ _ _ _ _ _ _ (bodyOf Try.f5) (l := [(0, sp5_0, cd5_0)]) (by kernel_rfl) ⟨l5_0 k K, trivial⟩)]
    kernel_rfl
noncomputable def s5 (k : Nat) (a : List PV) (r : List RowS) (K : List PV → List RowS → Option R) : Option R :=
  onShape [.agg [.val [] (.int .i64), .val [] (.int .i64), .val [] .bool, .val [] .bool, .val [] .bool, .val [] (.int .i64)], .val [(0, 0)] (.slice (.prod (.int .i64) (.prod (.int .i64) (.prod (.slice (.int .u8)) .unit))))] [] (fun v => f5 k v.1.1.1 v.1.1.2.1 v.1.1.2.2.1 v.1.1.2.2.2.1 v.1.1.2.2.2.2.1 v.1.1.2.2.2.2.2.1 v.1.2.1 (fun z0 => K [.val [] .bool z0] [])) (callC T F k 5 a r K) a r
theorem s5_eq (k : Nat) (a : List PV) (r : List RowS) (K : List PV → List RowS → Option R) : s5 k a r K = callC T F k 5 a r K := by
  unfold s5
  exact onShape_eq (a := [.agg [.val [] (.int .i64), .val [] (.int .i64), .val [] .bool, .val [] .bool, .val [] .bool, .val [] (.int .i64)], .val [(0, 0)] (.slice (.prod (.int .i64) (.prod (.int .i64) (.prod (.slice (.int .u8)) .unit))))]) (b := []) (G := fun a r => callC T F k 5 a r K) (fun x y => Eq.trans (by kernel_rfl) (Eq.trans (e5 k x.1.1 x.1.2.1 x.1.2.2.1 x.1.2.2.2.1 x.1.2.2.2.2.1 x.1.2.2.2.2.2.1 x.2.1 K).symm (by kernel_rfl))) a r
end
section
variable {R : Type}
noncomputable def S30 (k g : Nat) (a : List PV) (r : List RowS) (K : List PV → List RowS → Option R) : Option R := bif g == 63 then s63 k a r K else callC T F k g a r K
theorem S30_eq (k : Nat) : S30 (R := R) k = callC T F k := by
  funext g a r K
  exact pick_eq (fun e => by subst e; exact s63_eq k a r K) (rfl)
theorem e30 (k : Nat) (a0 : Int) (a1 : Int) (a2 : Bool) (a3 : Bool) (a4 : Bool) (a5 : Int) (K : List PV → List RowS → Option R) : callC T F k 30 [.agg [.val [] (.int .i64) a0, .val [] (.int .i64) a1, .val [] .bool a2, .val [] .bool a3, .val [] .bool a4, .val [] (.int .i64) a5]] [] K = f30 k a0 a1 a2 a3 a4 a5 (fun z0 => K [.val [] (.int .i64) z0] []) := by
  rw [f30_def]
  cases k with
  | zero => rfl
  | succ k =>
    refine Eq.trans (show _ = exec T an30 (modesOf F) 0 k 25 (callC T F k) (ending T Try.f30 an30 0 K) (bodyOf Try.f30) ⟨argEnv 0 [.agg [.val [] (.int .i64) a0, .val [] (.int .i64) a1, .val [] .bool a2, .val [] .bool a3, .val [] .bool a4, .val [] (.int .i64) a5]] (fun _ => none), rowsOf []⟩ (ending T Try.f30 an30 0 K) (fun _ _ => none) from by kernel_rfl) ?_
    rw [← S30_eq k, ← execS_eq T an30 (modesOf F) 0 k 25 (S30 k) (fun _ _ _ _ _ => none) (bodyOf Try.f30) (cuts_of _ _ _ _ _ _ _ _ (bodyOf Try.f30) (l := []) (by kernel_rfl) trivial)]
    kernel_rfl
noncomputable def s30 (k : Nat) (a : List PV) (r : List RowS) (K : List PV → List RowS → Option R) : Option R :=
  onShape [.agg [.val [] (.int .i64), .val [] (.int .i64), .val [] .bool, .val [] .bool, .val [] .bool, .val [] (.int .i64)]] [] (fun v => f30 k v.1.1.1 v.1.1.2.1 v.1.1.2.2.1 v.1.1.2.2.2.1 v.1.1.2.2.2.2.1 v.1.1.2.2.2.2.2.1 (fun z0 => K [.val [] (.int .i64) z0] [])) (callC T F k 30 a r K) a r
theorem s30_eq (k : Nat) (a : List PV) (r : List RowS) (K : List PV → List RowS → Option R) : s30 k a r K = callC T F k 30 a r K := by
  unfold s30
  exact onShape_eq (a := [.agg [.val [] (.int .i64), .val [] (.int .i64), .val [] .bool, .val [] .bool, .val [] .bool, .val [] (.int .i64)]]) (b := []) (G := fun a r => callC T F k 30 a r K) (fun x y => Eq.trans (by kernel_rfl) (Eq.trans (e30 k x.1.1 x.1.2.1 x.1.2.2.1 x.1.2.2.2.1 x.1.2.2.2.2.1 x.1.2.2.2.2.2.1 K).symm (by kernel_rfl))) a r
end
section
variable {R : Type}
noncomputable def S94 (k g : Nat) (a : List PV) (r : List RowS) (K : List PV → List RowS → Option R) : Option R := callC T F k g a r K
theorem S94_eq (k : Nat) : S94 (R := R) k = callC T F k := by
  funext g a r K
  exact rfl
theorem e94 (k : Nat) (a0 : Int) (a1 : Int) (K : List PV → List RowS → Option R) : callC T F k 94 [.val [] (.int .i64) a0, .val [] (.int .i64) a1] [] K = f94 k a0 a1 (fun z0 => K [.val [] (.int .i64) z0] []) := by
  rw [f94_def]
  cases k with
  | zero => rfl
  | succ k =>
    refine Eq.trans (show _ = exec T an94 (modesOf F) 0 k 10 (callC T F k) (ending T Try.f94 an94 0 K) (bodyOf Try.f94) ⟨argEnv 0 [.val [] (.int .i64) a0, .val [] (.int .i64) a1] (fun _ => none), rowsOf []⟩ (ending T Try.f94 an94 0 K) (fun _ _ => none) from by kernel_rfl) ?_
    rw [← S94_eq k, ← execS_eq T an94 (modesOf F) 0 k 10 (S94 k) (fun _ _ _ _ _ => none) (bodyOf Try.f94) (cuts_of _ _ _ _ _ _ _ _ (bodyOf Try.f94) (l := []) (by kernel_rfl) trivial)]
    kernel_rfl
noncomputable def s94 (k : Nat) (a : List PV) (r : List RowS) (K : List PV → List RowS → Option R) : Option R :=
  onShape [.val [] (.int .i64), .val [] (.int .i64)] [] (fun v => f94 k v.1.1 v.1.2.1 (fun z0 => K [.val [] (.int .i64) z0] [])) (callC T F k 94 a r K) a r
theorem s94_eq (k : Nat) (a : List PV) (r : List RowS) (K : List PV → List RowS → Option R) : s94 k a r K = callC T F k 94 a r K := by
  unfold s94
  exact onShape_eq (a := [.val [] (.int .i64), .val [] (.int .i64)]) (b := []) (G := fun a r => callC T F k 94 a r K) (fun x y => Eq.trans (by kernel_rfl) (Eq.trans (e94 k x.1 x.2.1 K).symm (by kernel_rfl))) a r
end
section
variable {R : Type}
noncomputable def S93 (k g : Nat) (a : List PV) (r : List RowS) (K : List PV → List RowS → Option R) : Option R := bif g == 94 then s94 k a r K else callC T F k g a r K
theorem S93_eq (k : Nat) : S93 (R := R) k = callC T F k := by
  funext g a r K
  exact pick_eq (fun e => by subst e; exact s94_eq k a r K) (rfl)
theorem e93 (k : Nat) (a0 : Int) (a1 : Int) (a2 : Bool) (a3 : Bool) (a4 : Bool) (a5 : Int) (a6 : Int) (a7 : Int) (a8 : List Int) (K : List PV → List RowS → Option R) : callC T F k 93 [.agg [.val [] (.int .i64) a0, .val [] (.int .i64) a1, .val [] .bool a2, .val [] .bool a3, .val [] .bool a4, .val [] (.int .i64) a5], .agg [.val [] (.int .i64) a6, .val [] (.int .i64) a7, .val [(0, 0)] (.slice (.int .u8)) a8]] [] K = f93 k a0 a1 a2 a3 a4 a5 a6 a7 a8 (fun z0 z1 z2 z3 z4 z5 z6 => K [.agg [.val [] (.int .i64) z0, .val [] (.int .i64) z1, .val [] .bool z2, .val [] .bool z3, .val [] .bool z4, .val [] (.int .i64) z5], .val [] (.int .i64) z6] []) := by
  rw [f93_def]
  cases k with
  | zero => rfl
  | succ k =>
    refine Eq.trans (show _ = exec T an93 (modesOf F) 0 k 60 (callC T F k) (ending T Try.f93 an93 0 K) (bodyOf Try.f93) ⟨argEnv 0 [.agg [.val [] (.int .i64) a0, .val [] (.int .i64) a1, .val [] .bool a2, .val [] .bool a3, .val [] .bool a4, .val [] (.int .i64) a5], .agg [.val [] (.int .i64) a6, .val [] (.int .i64) a7, .val [(0, 0)] (.slice (.int .u8)) a8]] (fun _ => none), rowsOf []⟩ (ending T Try.f93 an93 0 K) (fun _ _ => none) from by kernel_rfl) ?_
    rw [← S93_eq k, ← execS_eq T an93 (modesOf F) 0 k 60 (S93 k) (fun _ _ _ _ _ => none) (bodyOf Try.f93) (cuts_of _ _ _ _ _ _ _ _ (bodyOf Try.f93) (l := []) (by kernel_rfl) trivial)]
    kernel_rfl
noncomputable def s93 (k : Nat) (a : List PV) (r : List RowS) (K : List PV → List RowS → Option R) : Option R :=
  onShape [.agg [.val [] (.int .i64), .val [] (.int .i64), .val [] .bool, .val [] .bool, .val [] .bool, .val [] (.int .i64)], .agg [.val [] (.int .i64), .val [] (.int .i64), .val [(0, 0)] (.slice (.int .u8))]] [] (fun v => f93 k v.1.1.1 v.1.1.2.1 v.1.1.2.2.1 v.1.1.2.2.2.1 v.1.1.2.2.2.2.1 v.1.1.2.2.2.2.2.1 v.1.2.1.1 v.1.2.1.2.1 v.1.2.1.2.2.1 (fun z0 z1 z2 z3 z4 z5 z6 => K [.agg [.val [] (.int .i64) z0, .val [] (.int .i64) z1, .val [] .bool z2, .val [] .bool z3, .val [] .bool z4, .val [] (.int .i64) z5], .val [] (.int .i64) z6] [])) (callC T F k 93 a r K) a r
theorem s93_eq (k : Nat) (a : List PV) (r : List RowS) (K : List PV → List RowS → Option R) : s93 k a r K = callC T F k 93 a r K := by
  unfold s93
  exact onShape_eq (a := [.agg [.val [] (.int .i64), .val [] (.int .i64), .val [] .bool, .val [] .bool, .val [] .bool, .val [] (.int .i64)], .agg [.val [] (.int .i64), .val [] (.int .i64), .val [(0, 0)] (.slice (.int .u8))]]) (b := []) (G := fun a r => callC T F k 93 a r K) (fun x y => Eq.trans (by kernel_rfl) (Eq.trans (e93 k x.1.1 x.1.2.1 x.1.2.2.1 x.1.2.2.2.1 x.1.2.2.2.2.1 x.1.2.2.2.2.2.1 x.2.1.1 x.2.1.2.1 x.2.1.2.2.1 K).symm (by kernel_rfl))) a r
end
section
variable {R : Type}
noncomputable def S67 (k g : Nat) (a : List PV) (r : List RowS) (K : List PV → List RowS → Option R) : Option R := bif g == 93 then s93 k a r K else callC T F k g a r K
theorem S67_eq (k : Nat) : S67 (R := R) k = callC T F k := by
  funext g a r K
  exact pick_eq (fun e => by subst e; exact s93_eq k a r K) (rfl)
section
variable {R : Type} (k : Nat) (K : List PV → List RowS → Option R)
noncomputable def L67_1000014 (ws : List PV) (rs : List RowS) (N : St → Option R) (X : Nat → St → Option R) : Option R :=
  onShape [.ptr 1 0, .ptr 2 0, .val [] .bool] [.vars [.val [] (.int .i64), .val [] (.int .i64), .val [] .bool, .val [] .bool, .val [] .bool, .val [] (.int .i64)], .vars [.val [] (.int .i64), .val [] (.int .i64), .val [] .bool, .val [] .bool, .val [] .bool, .val [] (.int .i64)]] (fun v => f67_1000014 k (fun yN_4 => N (sh fi67_14 [.ptr 1 0, .ptr 2 0] [⟨0, .vars [.val [] (.int .i64) v.2.1.1, .val [] (.int .i64) v.2.1.2.1, .val [] .bool v.2.1.2.2.1, .val [] .bool v.2.1.2.2.2.1, .val [] .bool yN_4, .val [] (.int .i64) v.2.1.2.2.2.2.2.1]⟩, ⟨0, .vars [.val [] (.int .i64) v.2.2.1.1, .val [] (.int .i64) v.2.2.1.2.1, .val [] .bool v.2.2.1.2.2.1, .val [] .bool v.2.2.1.2.2.2.1, .val [] .bool v.2.2.1.2.2.2.2.1, .val [] (.int .i64) v.2.2.1.2.2.2.2.2.1]⟩])) v.1.2.2.1 v.2.1.1 v.2.1.2.1 v.2.1.2.2.1 v.2.1.2.2.2.1 v.2.1.2.2.2.2.1 v.2.1.2.2.2.2.2.1 v.2.2.1.1 v.2.2.1.2.1 v.2.2.1.2.2.1 v.2.2.1.2.2.2.1 v.2.2.1.2.2.2.2.1 v.2.2.1.2.2.2.2.2.1) (inner T an67 (modesOf F) 0 k 40 (S67 k) (ending T Try.f67 an67 0 K) cd67_1000014 (sh sp67_1000014 ws rs) N X) ws rs
noncomputable def L67_1000010 (ws : List PV) (rs : List RowS) (N : St → Option R) (X : Nat → St → Option R) : Option R :=
  onShape [.ptr 1 0, .ptr 2 0, .ptr 3 0, .val [] (.int .i64), .val [] .bool] [.vars [.val [] (.int .i64), .val [] (.int .i64), .val [] .bool, .val [] .bool, .val [] .bool, .val [] (.int .i64)], .vars [.val [] (.int .i64), .val [] (.int .i64), .val [(0, 0)] (.slice (.int .u8))], .vars [.val [] (.int .i64), .val [] (.int .i64), .val [] .bool, .val [] .bool, .val [] .bool, .val [] (.int .i64)]] (fun v => f67_1000010 k (fun z0 z1 z2 z3 z4 z5 z6 => K [.agg [.val [] (.int .i64) z0, .val [] (.int .i64) z1, .val [] .bool z2, .val [] .bool z3, .val [] .bool z4, .val [] (.int .i64) z5], .val [] (.int .i64) z6] []) (fun yN_0 yN_3 yN_4 => N (sh fi67_10 [.ptr 1 0, .ptr 2 0] [⟨0, .vars [.val [] (.int .i64) yN_0, .val [] (.int .i64) v.2.1.2.1, .val [] .bool v.2.1.2.2.1, .val [] .bool yN_3, .val [] .bool yN_4, .val [] (.int .i64) v.2.1.2.2.2.2.2.1]⟩, ⟨0, .vars [.val [] (.int .i64) v.2.2.2.1.1, .val [] (.int .i64) v.2.2.2.1.2.1, .val [] .bool v.2.2.2.1.2.2.1, .val [] .bool v.2.2.2.1.2.2.2.1, .val [] .bool v.2.2.2.1.2.2.2.2.1, .val [] (.int .i64) v.2.2.2.1.2.2.2.2.2.1]⟩])) v.1.2.2.2.1 v.1.2.2.2.2.1 v.2.1.1 v.2.1.2.1 v.2.1.2.2.1 v.2.1.2.2.2.1 v.2.1.2.2.2.2.1 v.2.1.2.2.2.2.2.1 v.2.2.1.1 v.2.2.1.2.1 v.2.2.1.2.2.1 v.2.2.2.1.1 v.2.2.2.1.2.1 v.2.2.2.1.2.2.1 v.2.2.2.1.2.2.2.1 v.2.2.2.1.2.2.2.2.1 v.2.2.2.1.2.2.2.2.2.1) (inner T an67 (modesOf F) 0 k 40 (S67 k) (ending T Try.f67 an67 0 K) cd67_1000010 (sh sp67_1000010 ws rs) N X) ws rs
noncomputable def L67_1000008 (ws : List PV) (rs : List RowS) (N : St → Option R) (X : Nat → St → Option R) : Option R :=
  onShape [.ptr 1 0, .ptr 2 0, .ptr 3 0, .val [] (.int .i64), .val [] .bool] [.vars [.val [] (.int .i64), .val [] (.int .i64), .val [] .bool, .val [] .bool, .val [] .bool, .val [] (.int .i64)], .vars [.val [] (.int .i64), .val [] (.int .i64), .val [(0, 0)] (.slice (.int .u8))], .vars [.val [] (.int .i64), .val [] (.int .i64), .val [] .bool, .val [] .bool, .val [] .bool, .val [] (.int .i64)]] (fun v => f67_1000008 k (fun yN_0 yN_2 yN_3 yN_4 => N (sh fi67_8 [.ptr 1 0, .ptr 2 0] [⟨0, .vars [.val [] (.int .i64) yN_0, .val [] (.int .i64) v.2.1.2.1, .val [] .bool yN_2, .val [] .bool yN_3, .val [] .bool yN_4, .val [] (.int .i64) v.2.1.2.2.2.2.2.1]⟩, ⟨0, .vars [.val [] (.int .i64) v.2.2.2.1.1, .val [] (.int .i64) v.2.2.2.1.2.1, .val [] .bool v.2.2.2.1.2.2.1, .val [] .bool v.2.2.2.1.2.2.2.1, .val [] .bool v.2.2.2.1.2.2.2.2.1, .val [] (.int .i64) v.2.2.2.1.2.2.2.2.2.1]⟩])) (fun z0 z1 z2 z3 z4 z5 z6 => K [.agg [.val [] (.int .i64) z0, .val [] (.int .i64) z1, .val [] .bool z2, .val [] .bool z3, .val [] .bool z4, .val [] (.int .i64) z5], .val [] (.int .i64) z6] []) v.1.2.2.2.1 v.1.2.2.2.2.1 v.2.1.1 v.2.1.2.1 v.2.1.2.2.1 v.2.1.2.2.2.1 v.2.1.2.2.2.2.1 v.2.1.2.2.2.2.2.1 v.2.2.1.1 v.2.2.1.2.1 v.2.2.1.2.2.1 v.2.2.2.1.1 v.2.2.2.1.2.1 v.2.2.2.1.2.2.1 v.2.2.2.1.2.2.2.1 v.2.2.2.1.2.2.2.2.1 v.2.2.2.1.2.2.2.2.2.1) (inner T an67 (modesOf F) 0 k 40 (S67 k) (ending T Try.f67 an67 0 K) cd67_1000008 (sh sp67_1000008 ws rs) N X) ws rs
noncomputable def L67 (id : Nat) (ws : List PV) (rs : List RowS) (N : St → Option R) (X : Nat → St → Option R) : Option R := bif id == 1000014 then L67_1000014 k K ws rs N X else bif id == 1000010 then L67_1000010 k K ws rs N X else bif id == 1000008 then L67_1000008 k K ws rs N X else none
theorem l67_1000014 (ws : List PV) (rs : List RowS) (N : St → Option R) (X : Nat → St → Option R) : L67 k K 1000014 ws rs N X = inner T an67 (modesOf F) 0 k 40 (S67 k) (ending T Try.f67 an67 0 K) cd67_1000014 (sh sp67_1000014 ws rs) N X := by
  show L67_1000014 k K ws rs N X = _
  unfold L67_1000014
  rw [f67_1000014_def]
  exact onShape_eq (a := [.ptr 1 0, .ptr 2 0, .val [] .bool]) (b := [.vars [.val [] (.int .i64), .val [] (.int .i64), .val [] .bool, .val [] .bool, .val [] .bool, .val [] (.int .i64)], .vars [.val [] (.int .i64), .val [] (.int .i64), .val [] .bool, .val [] .bool, .val [] .bool, .val [] (.int .i64)]]) (G := fun ws rs => inner T an67 (modesOf F) 0 k 40 (S67 k) (ending T Try.f67 an67 0 K) cd67_1000014 (sh sp67_1000014 ws rs) N X) (fun x y => Eq.trans (by kernel_rfl) (innerS_eq T an67 (modesOf F) 0 k 40 (S67 k) (L67 k K) cd67_1000014 (l := []) (by kernel_rfl) trivial _ N X)) ws rs
theorem l67_1000010 (ws : List PV) (rs : List RowS) (N : St → Option R) (X : Nat → St → Option R) : L67 k K 1000010 ws rs N X = inner T an67 (modesOf F) 0 k 40 (S67 k) (ending T Try.f67 an67 0 K) cd67_1000010 (sh sp67_1000010 ws rs) N X := by
  show L67_1000010 k K ws rs N X = _
  unfold L67_1000010
  rw [f67_1000010_def]
  exact onShape_eq (a := [.ptr 1 0, .ptr 2 0, .ptr 3 0, .val [] (.int .i64), .val [] .bool]) (b := [.vars [.val [] (.int .i64), .val [] (.int .i64), .val [] .bool, .val [] .bool, .val [] .bool, .val [] (.int .i64)], .vars [.val [] (.int .i64), .val [] (.int .i64), .val [(0, 0)] (.slice (.int .u8))], .vars [.val [] (.int .i64), .val [] (.int .i64), .val [] .bool, .val [] .bool, .val [] .bool, .val [] (.int .i64)]]) (G := fun ws rs => inner T an67 (modesOf F) 0 k 40 (S67 k) (ending T Try.f67 an67 0 K) cd67_1000010 (sh sp67_1000010 ws rs) N X) (fun x y => Eq.trans (by kernel_rfl) (innerS_eq T an67 (modesOf F) 0 k 40 (S67 k) (L67 k K) cd67_1000010 (l := [(1000014, sp67_1000014, cd67_1000014)]) (by kernel_rfl) ⟨l67_1000014 k K, trivial⟩ _ N X)) ws rs
theorem l67_1000008 (ws : List PV) (rs : List RowS) (N : St → Option R) (X : Nat → St → Option R) : L67 k K 1000008 ws rs N X = inner T an67 (modesOf F) 0 k 40 (S67 k) (ending T Try.f67 an67 0 K) cd67_1000008 (sh sp67_1000008 ws rs) N X := by
  show L67_1000008 k K ws rs N X = _
  unfold L67_1000008
  rw [f67_1000008_def]
  exact onShape_eq (a := [.ptr 1 0, .ptr 2 0, .ptr 3 0, .val [] (.int .i64), .val [] .bool]) (b := [.vars [.val [] (.int .i64), .val [] (.int .i64), .val [] .bool, .val [] .bool, .val [] .bool, .val [] (.int .i64)], .vars [.val [] (.int .i64), .val [] (.int .i64), .val [(0, 0)] (.slice (.int .u8))], .vars [.val [] (.int .i64), .val [] (.int .i64), .val [] .bool, .val [] .bool, .val [] .bool, .val [] (.int .i64)]]) (G := fun ws rs => inner T an67 (modesOf F) 0 k 40 (S67 k) (ending T Try.f67 an67 0 K) cd67_1000008 (sh sp67_1000008 ws rs) N X) (fun x y => Eq.trans (by kernel_rfl) (innerS_eq T an67 (modesOf F) 0 k 40 (S67 k) (L67 k K) cd67_1000008 (l := [(1000010, sp67_1000010, cd67_1000010)]) (by kernel_rfl) ⟨l67_1000010 k K, trivial⟩ _ N X)) ws rs
end
theorem e67 (k : Nat) (a0 : Int) (a1 : Int) (a2 : Bool) (a3 : Bool) (a4 : Bool) (a5 : Int) (a6 : Int) (a7 : Int) (a8 : List Int) (K : List PV → List RowS → Option R) : callC T F k 67 [.agg [.val [] (.int .i64) a0, .val [] (.int .i64) a1, .val [] .bool a2, .val [] .bool a3, .val [] .bool a4, .val [] (.int .i64) a5], .agg [.val [] (.int .i64) a6, .val [] (.int .i64) a7, .val [(0, 0)] (.slice (.int .u8)) a8]] [] K = f67 k a0 a1 a2 a3 a4 a5 a6 a7 a8 (fun z0 z1 z2 z3 z4 z5 z6 => K [.agg [.val [] (.int .i64) z0, .val [] (.int .i64) z1, .val [] .bool z2, .val [] .bool z3, .val [] .bool z4, .val [] (.int .i64) z5], .val [] (.int .i64) z6] []) := by
  rw [f67_def]
  cases k with
  | zero => rfl
  | succ k =>
    refine Eq.trans (show _ = exec T an67 (modesOf F) 0 k 40 (callC T F k) (ending T Try.f67 an67 0 K) (bodyOf Try.f67) ⟨argEnv 0 [.agg [.val [] (.int .i64) a0, .val [] (.int .i64) a1, .val [] .bool a2, .val [] .bool a3, .val [] .bool a4, .val [] (.int .i64) a5], .agg [.val [] (.int .i64) a6, .val [] (.int .i64) a7, .val [(0, 0)] (.slice (.int .u8)) a8]] (fun _ => none), rowsOf []⟩ (ending T Try.f67 an67 0 K) (fun _ _ => none) from by kernel_rfl) ?_
    rw [← S67_eq k, ← execS_eq T an67 (modesOf F) 0 k 40 (S67 k) (L67 k K) (bodyOf Try.f67) (cuts_of _ _ _ _ _ _ _ _ (bodyOf Try.f67) (l := [(1000008, sp67_1000008, cd67_1000008)]) (by kernel_rfl) ⟨l67_1000008 k K, trivial⟩)]
    kernel_rfl
noncomputable def s67 (k : Nat) (a : List PV) (r : List RowS) (K : List PV → List RowS → Option R) : Option R :=
  onShape [.agg [.val [] (.int .i64), .val [] (.int .i64), .val [] .bool, .val [] .bool, .val [] .bool, .val [] (.int .i64)], .agg [.val [] (.int .i64), .val [] (.int .i64), .val [(0, 0)] (.slice (.int .u8))]] [] (fun v => f67 k v.1.1.1 v.1.1.2.1 v.1.1.2.2.1 v.1.1.2.2.2.1 v.1.1.2.2.2.2.1 v.1.1.2.2.2.2.2.1 v.1.2.1.1 v.1.2.1.2.1 v.1.2.1.2.2.1 (fun z0 z1 z2 z3 z4 z5 z6 => K [.agg [.val [] (.int .i64) z0, .val [] (.int .i64) z1, .val [] .bool z2, .val [] .bool z3, .val [] .bool z4, .val [] (.int .i64) z5], .val [] (.int .i64) z6] [])) (callC T F k 67 a r K) a r
theorem s67_eq (k : Nat) (a : List PV) (r : List RowS) (K : List PV → List RowS → Option R) : s67 k a r K = callC T F k 67 a r K := by
  unfold s67
  exact onShape_eq (a := [.agg [.val [] (.int .i64), .val [] (.int .i64), .val [] .bool, .val [] .bool, .val [] .bool, .val [] (.int .i64)], .agg [.val [] (.int .i64), .val [] (.int .i64), .val [(0, 0)] (.slice (.int .u8))]]) (b := []) (G := fun a r => callC T F k 67 a r K) (fun x y => Eq.trans (by kernel_rfl) (Eq.trans (e67 k x.1.1 x.1.2.1 x.1.2.2.1 x.1.2.2.2.1 x.1.2.2.2.2.1 x.1.2.2.2.2.2.1 x.2.1.1 x.2.1.2.1 x.2.1.2.2.1 K).symm (by kernel_rfl))) a r
end
section
variable {R : Type}
noncomputable def S28 (k g : Nat) (a : List PV) (r : List RowS) (K : List PV → List RowS → Option R) : Option R := bif g == 30 then s30 k a r K else bif g == 61 then s61 k a r K else bif g == 67 then s67 k a r K else callC T F k g a r K
theorem S28_eq (k : Nat) : S28 (R := R) k = callC T F k := by
  funext g a r K
  exact pick_eq (fun e => by subst e; exact s30_eq k a r K) (pick_eq (fun e => by subst e; exact s61_eq k a r K) (pick_eq (fun e => by subst e; exact s67_eq k a r K) (rfl)))
theorem e28 (k : Nat) (a0 : Int) (a1 : Int) (a2 : Bool) (a3 : Bool) (a4 : Bool) (a5 : Int) (a6 : Int) (a7 : Int) (a8 : List Int) (K : List PV → List RowS → Option R) : callC T F k 28 [.agg [.val [] (.int .i64) a0, .val [] (.int .i64) a1, .val [] .bool a2, .val [] .bool a3, .val [] .bool a4, .val [] (.int .i64) a5], .agg [.val [] (.int .i64) a6, .val [] (.int .i64) a7, .val [(0, 0)] (.slice (.int .u8)) a8]] [] K = f28 k a0 a1 a2 a3 a4 a5 a6 a7 a8 (fun z0 z1 z2 z3 z4 z5 z6 z7 => K [.agg [.val [] (.int .i64) z0, .val [] (.int .i64) z1, .val [] .bool z2, .val [] .bool z3, .val [] .bool z4, .val [] (.int .i64) z5], .val [] (.int .i64) z6, .val [] (.int .i64) z7] []) := by
  rw [f28_def]
  cases k with
  | zero => rfl
  | succ k =>
    refine Eq.trans (show _ = exec T an28 (modesOf F) 0 k 35 (callC T F k) (ending T Try.f28 an28 0 K) (bodyOf Try.f28) ⟨argEnv 0 [.agg [.val [] (.int .i64) a0, .val [] (.int .i64) a1, .val [] .bool a2, .val [] .bool a3, .val [] .bool a4, .val [] (.int .i64) a5], .agg [.val [] (.int .i64) a6, .val [] (.int .i64) a7, .val [(0, 0)] (.slice (.int .u8)) a8]] (fun _ => none), rowsOf []⟩ (ending T Try.f28 an28 0 K) (fun _ _ => none) from by kernel_rfl) ?_
    rw [← S28_eq k, ← execS_eq T an28 (modesOf F) 0 k 35 (S28 k) (fun _ _ _ _ _ => none) (bodyOf Try.f28) (cuts_of _ _ _ _ _ _ _ _ (bodyOf Try.f28) (l := []) (by kernel_rfl) trivial)]
    kernel_rfl
noncomputable def s28 (k : Nat) (a : List PV) (r : List RowS) (K : List PV → List RowS → Option R) : Option R :=
  onShape [.agg [.val [] (.int .i64), .val [] (.int .i64), .val [] .bool, .val [] .bool, .val [] .bool, .val [] (.int .i64)], .agg [.val [] (.int .i64), .val [] (.int .i64), .val [(0, 0)] (.slice (.int .u8))]] [] (fun v => f28 k v.1.1.1 v.1.1.2.1 v.1.1.2.2.1 v.1.1.2.2.2.1 v.1.1.2.2.2.2.1 v.1.1.2.2.2.2.2.1 v.1.2.1.1 v.1.2.1.2.1 v.1.2.1.2.2.1 (fun z0 z1 z2 z3 z4 z5 z6 z7 => K [.agg [.val [] (.int .i64) z0, .val [] (.int .i64) z1, .val [] .bool z2, .val [] .bool z3, .val [] .bool z4, .val [] (.int .i64) z5], .val [] (.int .i64) z6, .val [] (.int .i64) z7] [])) (callC T F k 28 a r K) a r
theorem s28_eq (k : Nat) (a : List PV) (r : List RowS) (K : List PV → List RowS → Option R) : s28 k a r K = callC T F k 28 a r K := by
  unfold s28
  exact onShape_eq (a := [.agg [.val [] (.int .i64), .val [] (.int .i64), .val [] .bool, .val [] .bool, .val [] .bool, .val [] (.int .i64)], .agg [.val [] (.int .i64), .val [] (.int .i64), .val [(0, 0)] (.slice (.int .u8))]]) (b := []) (G := fun a r => callC T F k 28 a r K) (fun x y => Eq.trans (by kernel_rfl) (Eq.trans (e28 k x.1.1 x.1.2.1 x.1.2.2.1 x.1.2.2.2.1 x.1.2.2.2.2.1 x.1.2.2.2.2.2.1 x.2.1.1 x.2.1.2.1 x.2.1.2.2.1 K).symm (by kernel_rfl))) a r
end
section
variable {R : Type}
noncomputable def S68 (k g : Nat) (a : List PV) (r : List RowS) (K : List PV → List RowS → Option R) : Option R := callC T F k g a r K
theorem S68_eq (k : Nat) : S68 (R := R) k = callC T F k := by
  funext g a r K
  exact rfl
theorem e68 (k : Nat) (a0 : Int) (a1 : Int) (a2 : Bool) (a3 : Bool) (a4 : Bool) (a5 : Int) (K : List PV → List RowS → Option R) : callC T F k 68 [.agg [.val [] (.int .i64) a0, .val [] (.int .i64) a1, .val [] .bool a2, .val [] .bool a3, .val [] .bool a4, .val [] (.int .i64) a5]] [] K = f68 k a0 a1 a2 a3 a4 a5 (fun z0 z1 z2 z3 => K [.agg [.val [] (.int .i64) z0, .val [] .bool z1, .val [] .bool z2, .val [] .bool z3]] []) := by
  rw [f68_def]
  cases k with
  | zero => rfl
  | succ k =>
    refine Eq.trans (show _ = exec T an68 (modesOf F) 0 k 12 (callC T F k) (ending T Try.f68 an68 0 K) (bodyOf Try.f68) ⟨argEnv 0 [.agg [.val [] (.int .i64) a0, .val [] (.int .i64) a1, .val [] .bool a2, .val [] .bool a3, .val [] .bool a4, .val [] (.int .i64) a5]] (fun _ => none), rowsOf []⟩ (ending T Try.f68 an68 0 K) (fun _ _ => none) from by kernel_rfl) ?_
    rw [← S68_eq k, ← execS_eq T an68 (modesOf F) 0 k 12 (S68 k) (fun _ _ _ _ _ => none) (bodyOf Try.f68) (cuts_of _ _ _ _ _ _ _ _ (bodyOf Try.f68) (l := []) (by kernel_rfl) trivial)]
    kernel_rfl
noncomputable def s68 (k : Nat) (a : List PV) (r : List RowS) (K : List PV → List RowS → Option R) : Option R :=
  onShape [.agg [.val [] (.int .i64), .val [] (.int .i64), .val [] .bool, .val [] .bool, .val [] .bool, .val [] (.int .i64)]] [] (fun v => f68 k v.1.1.1 v.1.1.2.1 v.1.1.2.2.1 v.1.1.2.2.2.1 v.1.1.2.2.2.2.1 v.1.1.2.2.2.2.2.1 (fun z0 z1 z2 z3 => K [.agg [.val [] (.int .i64) z0, .val [] .bool z1, .val [] .bool z2, .val [] .bool z3]] [])) (callC T F k 68 a r K) a r
theorem s68_eq (k : Nat) (a : List PV) (r : List RowS) (K : List PV → List RowS → Option R) : s68 k a r K = callC T F k 68 a r K := by
  unfold s68
  exact onShape_eq (a := [.agg [.val [] (.int .i64), .val [] (.int .i64), .val [] .bool, .val [] .bool, .val [] .bool, .val [] (.int .i64)]]) (b := []) (G := fun a r => callC T F k 68 a r K) (fun x y => Eq.trans (by kernel_rfl) (Eq.trans (e68 k x.1.1 x.1.2.1 x.1.2.2.1 x.1.2.2.2.1 x.1.2.2.2.2.1 x.1.2.2.2.2.2.1 K).symm (by kernel_rfl))) a r
end
section
variable {R : Type}
noncomputable def S31 (k g : Nat) (a : List PV) (r : List RowS) (K : List PV → List RowS → Option R) : Option R := bif g == 29 then s29 k a r K else bif g == 68 then s68 k a r K else callC T F k g a r K
theorem S31_eq (k : Nat) : S31 (R := R) k = callC T F k := by
  funext g a r K
  exact pick_eq (fun e => by subst e; exact s29_eq k a r K) (pick_eq (fun e => by subst e; exact s68_eq k a r K) (rfl))
theorem e31 (k : Nat) (a0 : Int) (a1 : Int) (a2 : Bool) (a3 : Bool) (a4 : Bool) (a5 : Int) (K : List PV → List RowS → Option R) : callC T F k 31 [.agg [.val [] (.int .i64) a0, .val [] (.int .i64) a1, .val [] .bool a2, .val [] .bool a3, .val [] .bool a4, .val [] (.int .i64) a5]] [] K = f31 k a0 a1 a2 a3 a4 a5 (fun z0 z1 z2 z3 z4 => K [.agg [.val [] (.int .i64) z0, .val [] .bool z1, .val [] .bool z2, .val [] .bool z3], .val [] (.int .i64) z4] []) := by
  rw [f31_def]
  cases k with
  | zero => rfl
  | succ k =>
    refine Eq.trans (show _ = exec T an31 (modesOf F) 0 k 13 (callC T F k) (ending T Try.f31 an31 0 K) (bodyOf Try.f31) ⟨argEnv 0 [.agg [.val [] (.int .i64) a0, .val [] (.int .i64) a1, .val [] .bool a2, .val [] .bool a3, .val [] .bool a4, .val [] (.int .i64) a5]] (fun _ => none), rowsOf []⟩ (ending T Try.f31 an31 0 K) (fun _ _ => none) from by kernel_rfl) ?_
    rw [← S31_eq k, ← execS_eq T an31 (modesOf F) 0 k 13 (S31 k) (fun _ _ _ _ _ => none) (bodyOf Try.f31) (cuts_of _ _ _ _ _ _ _ _ (bodyOf Try.f31) (l := []) (by kernel_rfl) trivial)]
    kernel_rfl
noncomputable def s31 (k : Nat) (a : List PV) (r : List RowS) (K : List PV → List RowS → Option R) : Option R :=
  onShape [.agg [.val [] (.int .i64), .val [] (.int .i64), .val [] .bool, .val [] .bool, .val [] .bool, .val [] (.int .i64)]] [] (fun v => f31 k v.1.1.1 v.1.1.2.1 v.1.1.2.2.1 v.1.1.2.2.2.1 v.1.1.2.2.2.2.1 v.1.1.2.2.2.2.2.1 (fun z0 z1 z2 z3 z4 => K [.agg [.val [] (.int .i64) z0, .val [] .bool z1, .val [] .bool z2, .val [] .bool z3], .val [] (.int .i64) z4] [])) (callC T F k 31 a r K) a r
theorem s31_eq (k : Nat) (a : List PV) (r : List RowS) (K : List PV → List RowS → Option R) : s31 k a r K = callC T F k 31 a r K := by
  unfold s31
  exact onShape_eq (a := [.agg [.val [] (.int .i64), .val [] (.int .i64), .val [] .bool, .val [] .bool, .val [] .bool, .val [] (.int .i64)]]) (b := []) (G := fun a r => callC T F k 31 a r K) (fun x y => Eq.trans (by kernel_rfl) (Eq.trans (e31 k x.1.1 x.1.2.1 x.1.2.2.1 x.1.2.2.2.1 x.1.2.2.2.2.1 x.1.2.2.2.2.2.1 K).symm (by kernel_rfl))) a r
end
section
variable {R : Type}
noncomputable def S69 (k g : Nat) (a : List PV) (r : List RowS) (K : List PV → List RowS → Option R) : Option R := callC T F k g a r K
theorem S69_eq (k : Nat) : S69 (R := R) k = callC T F k := by
  funext g a r K
  exact rfl
theorem e69 (k : Nat) (a0 : Int) (a1 : Int) (a2 : Bool) (a3 : Bool) (a4 : Bool) (a5 : Int) (K : List PV → List RowS → Option R) : callC T F k 69 [.agg [.val [] (.int .i64) a0, .val [] (.int .i64) a1, .val [] .bool a2, .val [] .bool a3, .val [] .bool a4, .val [] (.int .i64) a5]] [] K = f69 k a0 a1 a2 a3 a4 a5 (fun z0 z1 z2 z3 => K [.agg [.val [] (.int .i64) z0, .val [] .bool z1, .val [] .bool z2, .val [] .bool z3]] []) := by
  rw [f69_def]
  cases k with
  | zero => rfl
  | succ k =>
    refine Eq.trans (show _ = exec T an69 (modesOf F) 0 k 12 (callC T F k) (ending T Try.f69 an69 0 K) (bodyOf Try.f69) ⟨argEnv 0 [.agg [.val [] (.int .i64) a0, .val [] (.int .i64) a1, .val [] .bool a2, .val [] .bool a3, .val [] .bool a4, .val [] (.int .i64) a5]] (fun _ => none), rowsOf []⟩ (ending T Try.f69 an69 0 K) (fun _ _ => none) from by kernel_rfl) ?_
    rw [← S69_eq k, ← execS_eq T an69 (modesOf F) 0 k 12 (S69 k) (fun _ _ _ _ _ => none) (bodyOf Try.f69) (cuts_of _ _ _ _ _ _ _ _ (bodyOf Try.f69) (l := []) (by kernel_rfl) trivial)]
    kernel_rfl
noncomputable def s69 (k : Nat) (a : List PV) (r : List RowS) (K : List PV → List RowS → Option R) : Option R :=
  onShape [.agg [.val [] (.int .i64), .val [] (.int .i64), .val [] .bool, .val [] .bool, .val [] .bool, .val [] (.int .i64)]] [] (fun v => f69 k v.1.1.1 v.1.1.2.1 v.1.1.2.2.1 v.1.1.2.2.2.1 v.1.1.2.2.2.2.1 v.1.1.2.2.2.2.2.1 (fun z0 z1 z2 z3 => K [.agg [.val [] (.int .i64) z0, .val [] .bool z1, .val [] .bool z2, .val [] .bool z3]] [])) (callC T F k 69 a r K) a r
theorem s69_eq (k : Nat) (a : List PV) (r : List RowS) (K : List PV → List RowS → Option R) : s69 k a r K = callC T F k 69 a r K := by
  unfold s69
  exact onShape_eq (a := [.agg [.val [] (.int .i64), .val [] (.int .i64), .val [] .bool, .val [] .bool, .val [] .bool, .val [] (.int .i64)]]) (b := []) (G := fun a r => callC T F k 69 a r K) (fun x y => Eq.trans (by kernel_rfl) (Eq.trans (e69 k x.1.1 x.1.2.1 x.1.2.2.1 x.1.2.2.2.1 x.1.2.2.2.2.1 x.1.2.2.2.2.2.1 K).symm (by kernel_rfl))) a r
end
section
variable {R : Type}
noncomputable def S32 (k g : Nat) (a : List PV) (r : List RowS) (K : List PV → List RowS → Option R) : Option R := bif g == 30 then s30 k a r K else bif g == 69 then s69 k a r K else callC T F k g a r K
theorem S32_eq (k : Nat) : S32 (R := R) k = callC T F k := by
  funext g a r K
  exact pick_eq (fun e => by subst e; exact s30_eq k a r K) (pick_eq (fun e => by subst e; exact s69_eq k a r K) (rfl))
theorem e32 (k : Nat) (a0 : Int) (a1 : Int) (a2 : Bool) (a3 : Bool) (a4 : Bool) (a5 : Int) (K : List PV → List RowS → Option R) : callC T F k 32 [.agg [.val [] (.int .i64) a0, .val [] (.int .i64) a1, .val [] .bool a2, .val [] .bool a3, .val [] .bool a4, .val [] (.int .i64) a5]] [] K = f32 k a0 a1 a2 a3 a4 a5 (fun z0 z1 z2 z3 z4 => K [.agg [.val [] (.int .i64) z0, .val [] .bool z1, .val [] .bool z2, .val [] .bool z3], .val [] (.int .i64) z4] []) := by
  rw [f32_def]
  cases k with
  | zero => rfl
  | succ k =>
    refine Eq.trans (show _ = exec T an32 (modesOf F) 0 k 13 (callC T F k) (ending T Try.f32 an32 0 K) (bodyOf Try.f32) ⟨argEnv 0 [.agg [.val [] (.int .i64) a0, .val [] (.int .i64) a1, .val [] .bool a2, .val [] .bool a3, .val [] .bool a4, .val [] (.int .i64) a5]] (fun _ => none), rowsOf []⟩ (ending T Try.f32 an32 0 K) (fun _ _ => none) from by kernel_rfl) ?_
    rw [← S32_eq k, ← execS_eq T an32 (modesOf F) 0 k 13 (S32 k) (fun _ _ _ _ _ => none) (bodyOf Try.f32) (cuts_of _ _ _ _ _ _ _ _ (bodyOf Try.f32) (l := []) (by kernel_rfl) trivial)]
    kernel_rfl
noncomputable def s32 (k : Nat) (a : List PV) (r : List RowS) (K : List PV → List RowS → Option R) : Option R :=
  onShape [.agg [.val [] (.int .i64), .val [] (.int .i64), .val [] .bool, .val [] .bool, .val [] .bool, .val [] (.int .i64)]] [] (fun v => f32 k v.1.1.1 v.1.1.2.1 v.1.1.2.2.1 v.1.1.2.2.2.1 v.1.1.2.2.2.2.1 v.1.1.2.2.2.2.2.1 (fun z0 z1 z2 z3 z4 => K [.agg [.val [] (.int .i64) z0, .val [] .bool z1, .val [] .bool z2, .val [] .bool z3], .val [] (.int .i64) z4] [])) (callC T F k 32 a r K) a r
theorem s32_eq (k : Nat) (a : List PV) (r : List RowS) (K : List PV → List RowS → Option R) : s32 k a r K = callC T F k 32 a r K := by
  unfold s32
  exact onShape_eq (a := [.agg [.val [] (.int .i64), .val [] (.int .i64), .val [] .bool, .val [] .bool, .val [] .bool, .val [] (.int .i64)]]) (b := []) (G := fun a r => callC T F k 32 a r K) (fun x y => Eq.trans (by kernel_rfl) (Eq.trans (e32 k x.1.1 x.1.2.1 x.1.2.2.1 x.1.2.2.2.1 x.1.2.2.2.2.1 x.1.2.2.2.2.2.1 K).symm (by kernel_rfl))) a r
end
section
variable {R : Type}
noncomputable def S6 (k g : Nat) (a : List PV) (r : List RowS) (K : List PV → List RowS → Option R) : Option R := bif g == 21 then s21 k a r K else bif g == 27 then s27 k a r K else bif g == 28 then s28 k a r K else bif g == 29 then s29 k a r K else bif g == 30 then s30 k a r K else bif g == 31 then s31 k a r K else bif g == 32 then s32 k a r K else callC T F k g a r K
theorem S6_eq (k : Nat) : S6 (R := R) k = callC T F k := by
  funext g a r K
  exact pick_eq (fun e => by subst e; exact s21_eq k a r K) (pick_eq (fun e => by subst e; exact s27_eq k a r K) (pick_eq (fun e => by subst e; exact s28_eq k a r K) (pick_eq (fun e => by subst e; exact s29_eq k a r K) (pick_eq (fun e => by subst e; exact s30_eq k a r K) (pick_eq (fun e => by subst e; exact s31_eq k a r K) (pick_eq (fun e => by subst e; exact s32_eq k a r K) (rfl)))))))
theorem e6 (k : Nat) (a0 : Int) (a1 : Int) (a2 : Bool) (a3 : Bool) (a4 : Bool) (a5 : Int) (a6 : Int) (a7 : Int) (a8 : List Int) (K : List PV → List RowS → Option R) : callC T F k 6 [.agg [.val [] (.int .i64) a0, .val [] (.int .i64) a1, .val [] .bool a2, .val [] .bool a3, .val [] .bool a4, .val [] (.int .i64) a5], .agg [.val [] (.int .i64) a6, .val [] (.int .i64) a7, .val [(0, 0)] (.slice (.int .u8)) a8]] [] K = f6 k a0 a1 a2 a3 a4 a5 a6 a7 a8 (fun z0 => K [.val [] .bool z0] []) := by
  rw [f6_def]
  cases k with
  | zero => rfl
  | succ k =>
    refine Eq.trans (show _ = exec T an6 (modesOf F) 0 k 68 (callC T F k) (ending T Try.f6 an6 0 K) (bodyOf Try.f6) ⟨argEnv 0 [.agg [.val [] (.int .i64) a0, .val [] (.int .i64) a1, .val [] .bool a2, .val [] .bool a3, .val [] .bool a4, .val [] (.int .i64) a5], .agg [.val [] (.int .i64) a6, .val [] (.int .i64) a7, .val [(0, 0)] (.slice (.int .u8)) a8]] (fun _ => none), rowsOf []⟩ (ending T Try.f6 an6 0 K) (fun _ _ => none) from by kernel_rfl) ?_
    rw [← S6_eq k, ← execS_eq T an6 (modesOf F) 0 k 68 (S6 k) (fun _ _ _ _ _ => none) (bodyOf Try.f6) (cuts_of _ _ _ _ _ _ _ _ (bodyOf Try.f6) (l := []) (by kernel_rfl) trivial)]
    kernel_rfl
noncomputable def s6 (k : Nat) (a : List PV) (r : List RowS) (K : List PV → List RowS → Option R) : Option R :=
  onShape [.agg [.val [] (.int .i64), .val [] (.int .i64), .val [] .bool, .val [] .bool, .val [] .bool, .val [] (.int .i64)], .agg [.val [] (.int .i64), .val [] (.int .i64), .val [(0, 0)] (.slice (.int .u8))]] [] (fun v => f6 k v.1.1.1 v.1.1.2.1 v.1.1.2.2.1 v.1.1.2.2.2.1 v.1.1.2.2.2.2.1 v.1.1.2.2.2.2.2.1 v.1.2.1.1 v.1.2.1.2.1 v.1.2.1.2.2.1 (fun z0 => K [.val [] .bool z0] [])) (callC T F k 6 a r K) a r
theorem s6_eq (k : Nat) (a : List PV) (r : List RowS) (K : List PV → List RowS → Option R) : s6 k a r K = callC T F k 6 a r K := by
  unfold s6
  exact onShape_eq (a := [.agg [.val [] (.int .i64), .val [] (.int .i64), .val [] .bool, .val [] .bool, .val [] .bool, .val [] (.int .i64)], .agg [.val [] (.int .i64), .val [] (.int .i64), .val [(0, 0)] (.slice (.int .u8))]]) (b := []) (G := fun a r => callC T F k 6 a r K) (fun x y => Eq.trans (by kernel_rfl) (Eq.trans (e6 k x.1.1 x.1.2.1 x.1.2.2.1 x.1.2.2.2.1 x.1.2.2.2.2.1 x.1.2.2.2.2.2.1 x.2.1.1 x.2.1.2.1 x.2.1.2.2.1 K).symm (by kernel_rfl))) a r
end
section
variable {R : Type}
noncomputable def S74 (k g : Nat) (a : List PV) (r : List RowS) (K : List PV → List RowS → Option R) : Option R := bif g == 62 then s62 k a r K else callC T F k g a r K
theorem S74_eq (k : Nat) : S74 (R := R) k = callC T F k := by
  funext g a r K
  exact pick_eq (fun e => by subst e; exact s62_eq k a r K) (rfl)
theorem e74 (k : Nat) (a0 : Int) (a1 : Int) (a2 : Int) (K : List PV → List RowS → Option R) : callC T F k 74 [.val [] (.int .i64) a0, .val [] (.int .i64) a1, .val [] (.int .i64) a2] [] K = f74 k a0 a1 a2 (fun z0 => K [.val [] (.int .i64) z0] []) := by
  rw [f74_def]
  cases k with
  | zero => rfl
  | succ k =>
    refine Eq.trans (show _ = exec T an74 (modesOf F) 0 k 12 (callC T F k) (ending T Try.f74 an74 0 K) (bodyOf Try.f74) ⟨argEnv 0 [.val [] (.int .i64) a0, .val [] (.int .i64) a1, .val [] (.int .i64) a2] (fun _ => none), rowsOf []⟩ (ending T Try.f74 an74 0 K) (fun _ _ => none) from by kernel_rfl) ?_
    rw [← S74_eq k, ← execS_eq T an74 (modesOf F) 0 k 12 (S74 k) (fun _ _ _ _ _ => none) (bodyOf Try.f74) (cuts_of _ _ _ _ _ _ _ _ (bodyOf Try.f74) (l := []) (by kernel_rfl) trivial)]
    kernel_rfl
noncomputable def s74 (k : Nat) (a : List PV) (r : List RowS) (K : List PV → List RowS → Option R) : Option R :=
  onShape [.val [] (.int .i64), .val [] (.int .i64), .val [] (.int .i64)] [] (fun v => f74 k v.1.1 v.1.2.1 v.1.2.2.1 (fun z0 => K [.val [] (.int .i64) z0] [])) (callC T F k 74 a r K) a r
theorem s74_eq (k : Nat) (a : List PV) (r : List RowS) (K : List PV → List RowS → Option R) : s74 k a r K = callC T F k 74 a r K := by
  unfold s74
  exact onShape_eq (a := [.val [] (.int .i64), .val [] (.int .i64), .val [] (.int .i64)]) (b := []) (G := fun a r => callC T F k 74 a r K) (fun x y => Eq.trans (by kernel_rfl) (Eq.trans (e74 k x.1 x.2.1 x.2.2.1 K).symm (by kernel_rfl))) a r
end
section
variable {R : Type}
noncomputable def S35 (k g : Nat) (a : List PV) (r : List RowS) (K : List PV → List RowS → Option R) : Option R := bif g == 62 then s62 k a r K else bif g == 70 then s70 k a r K else bif g == 74 then s74 k a r K else callC T F k g a r K
theorem S35_eq (k : Nat) : S35 (R := R) k = callC T F k := by
  funext g a r K
  exact pick_eq (fun e => by subst e; exact s62_eq k a r K) (pick_eq (fun e => by subst e; exact s70_eq k a r K) (pick_eq (fun e => by subst e; exact s74_eq k a r K) (rfl)))
section
variable {R : Type} (k : Nat) (K : List PV → List RowS → Option R)
noncomputable def L35_1 (ws : List PV) (rs : List RowS) (N : St → Option R) (X : Nat → St → Option R) : Option R :=
  onShape [.ptr 1 0, .val [(0, 0)] (.slice (.slice (.int .u8))), .val [] (.int .i64), .val [] (.int .i64)] [.vars [.val [] (.int .i64), .val [] (.int .i64), .val [(0, 0)] (.slice (.slice (.int .u8))), .val [] (.int .i64), .val [] .bool]] (fun v => f35_1 k (fun z0 => K [.val [] (.int .i64) z0] []) (N (sh jn35_1 [.ptr 1 0] [⟨0, .vars [.val [] (.int .i64) v.2.1.1, .val [] (.int .i64) v.2.1.2.1, .val [(0, 0)] (.slice (.slice (.int .u8))) v.2.1.2.2.1, .val [] (.int .i64) v.2.1.2.2.2.1, .val [] .bool v.2.1.2.2.2.2.1]⟩])) v.1.2.1 v.1.2.2.1 v.2.1.1 v.2.1.2.1 v.2.1.2.2.1 v.2.1.2.2.2.1 v.2.1.2.2.2.2.1 k v.1.2.2.2.1) (inner T an35 (modesOf F) 0 k 44 (S35 k) (ending T Try.f35 an35 0 K) cd35_1 (sh sp35_1 ws rs) N X) ws rs
noncomputable def L35 (id : Nat) (ws : List PV) (rs : List RowS) (N : St → Option R) (X : Nat → St → Option R) : Option R := bif id == 1 then L35_1 k K ws rs N X else none
theorem b35_1 (rec : St → Option R) (N : St → Option R) (X : Nat → St → Option R) (v1_0 : List (List Int)) (v1_1 : Int) (v1_3 : Int) (v1_4 : Int) (v1_5 : List (List Int)) (v1_6 : Int) (v1_7 : Bool) (v1_2 : Int) :
    execS T an35 (modesOf F) 0 k 44 (S35 k) (L35 k K) (ending T Try.f35 an35 0 K) bd35_1 (sh sp35_1 [.ptr 1 0, .val [(0, 0)] (.slice (.slice (.int .u8))) v1_0, .val [] (.int .i64) v1_1, .val [] (.int .i64) v1_2] [⟨0, .vars [.val [] (.int .i64) v1_3, .val [] (.int .i64) v1_4, .val [(0, 0)] (.slice (.slice (.int .u8))) v1_5, .val [] (.int .i64) v1_6, .val [] .bool v1_7]⟩]) (fun st => atHead an35 0 bd35_1 st rec) (outX an35 0 1 N X) =
      f35_1b k (fun v1_2 => rec (sh sp35_1 [.ptr 1 0, .val [(0, 0)] (.slice (.slice (.int .u8))) v1_0, .val [] (.int .i64) v1_1, .val [] (.int .i64) v1_2] [⟨0, .vars [.val [] (.int .i64) v1_3, .val [] (.int .i64) v1_4, .val [(0, 0)] (.slice (.slice (.int .u8))) v1_5, .val [] (.int .i64) v1_6, .val [] .bool v1_7]⟩])) (fun z0 => K [.val [] (.int .i64) z0] []) (N (sh jn35_1 [.ptr 1 0] [⟨0, .vars [.val [] (.int .i64) v1_3, .val [] (.int .i64) v1_4, .val [(0, 0)] (.slice (.slice (.int .u8))) v1_5, .val [] (.int .i64) v1_6, .val [] .bool v1_7]⟩])) v1_0 v1_1 v1_3 v1_4 v1_5 v1_6 v1_7 v1_2 := by kernel_rfl
theorem i35_1 (N : St → Option R) (X : Nat → St → Option R) (v1_0 : List (List Int)) (v1_1 : Int) (v1_3 : Int) (v1_4 : Int) (v1_5 : List (List Int)) (v1_6 : Int) (v1_7 : Bool) (m : Nat) : ∀ (v1_2 : Int),
    iter (atHead an35 0 bd35_1) m (fun st N' => exec T an35 (modesOf F) 0 k 44 (S35 k) (ending T Try.f35 an35 0 K) bd35_1 st N' (outX an35 0 1 N X)) (sh sp35_1 [.ptr 1 0, .val [(0, 0)] (.slice (.slice (.int .u8))) v1_0, .val [] (.int .i64) v1_1, .val [] (.int .i64) v1_2] [⟨0, .vars [.val [] (.int .i64) v1_3, .val [] (.int .i64) v1_4, .val [(0, 0)] (.slice (.slice (.int .u8))) v1_5, .val [] (.int .i64) v1_6, .val [] .bool v1_7]⟩]) = f35_1d k (fun z0 => K [.val [] (.int .i64) z0] []) (N (sh jn35_1 [.ptr 1 0] [⟨0, .vars [.val [] (.int .i64) v1_3, .val [] (.int .i64) v1_4, .val [(0, 0)] (.slice (.slice (.int .u8))) v1_5, .val [] (.int .i64) v1_6, .val [] .bool v1_7]⟩])) v1_0 v1_1 v1_3 v1_4 v1_5 v1_6 v1_7 m v1_2 := by
  induction m with
  | zero => intros; rfl
  | succ m ih =>
    intro v1_2
    simp only [iter]
    rw [← execS_eq T an35 (modesOf F) 0 k 44 (S35 k) (L35 k K) bd35_1 (cuts_of _ _ _ _ _ _ _ _ bd35_1 (l := []) (by kernel_rfl) trivial)]
    refine (b35_1 k K _ N X v1_0 v1_1 v1_3 v1_4 v1_5 v1_6 v1_7 v1_2).trans ?_
    simp only [f35_1d, ih]
theorem l35_1 (ws : List PV) (rs : List RowS) (N : St → Option R) (X : Nat → St → Option R) : L35 k K 1 ws rs N X = inner T an35 (modesOf F) 0 k 44 (S35 k) (ending T Try.f35 an35 0 K) cd35_1 (sh sp35_1 ws rs) N X := by
  show L35_1 k K ws rs N X = _
  unfold L35_1
  rw [f35_1_def]
  exact onShape_eq (a := [.ptr 1 0, .val [(0, 0)] (.slice (.slice (.int .u8))), .val [] (.int .i64), .val [] (.int .i64)]) (b := [.vars [.val [] (.int .i64), .val [] (.int .i64), .val [(0, 0)] (.slice (.slice (.int .u8))), .val [] (.int .i64), .val [] .bool]]) (G := fun ws rs => inner T an35 (modesOf F) 0 k 44 (S35 k) (ending T Try.f35 an35 0 K) cd35_1 (sh sp35_1 ws rs) N X) (fun x y => Eq.trans (by kernel_rfl) (Eq.trans (i35_1 k K N X x.2.1 x.2.2.1 y.1.1 y.1.2.1 y.1.2.2.1 y.1.2.2.2.1 y.1.2.2.2.2.1 k x.2.2.2.1).symm (by kernel_rfl))) ws rs
end
theorem e35 (k : Nat) (a0 : Int) (a1 : Int) (a2 : List (List Int)) (a3 : Int) (a4 : Bool) (K : List PV → List RowS → Option R) : callC T F k 35 [.agg [.val [] (.int .i64) a0, .val [] (.int .i64) a1, .val [(0, 0)] (.slice (.slice (.int .u8))) a2, .val [] (.int .i64) a3, .val [] .bool a4]] [] K = f35 k a0 a1 a2 a3 a4 (fun z0 => K [.val [] (.int .i64) z0] []) := by
  rw [f35_def]
  cases k with
  | zero => rfl
  | succ k =>
    refine Eq.trans (show _ = exec T an35 (modesOf F) 0 k 44 (callC T F k) (ending T Try.f35 an35 0 K) (bodyOf Try.f35) ⟨argEnv 0 [.agg [.val [] (.int .i64) a0, .val [] (.int .i64) a1, .val [(0, 0)] (.slice (.slice (.int .u8))) a2, .val [] (.int .i64) a3, .val [] .bool a4]] (fun _ => none), rowsOf []⟩ (ending T Try.f35 an35 0 K) (fun _ _ => none) from by kernel_rfl) ?_
    rw [← S35_eq k, ← execS_eq T an35 (modesOf F) 0 k 44 (S35 k) (L35 k K) (bodyOf Try.f35) (cuts_of _ _ _ _ _ _ _ _ (bodyOf Try.f35) (l := [(1, sp35_1, cd35_1)]) (by kernel_rfl) ⟨l35_1 k K, trivial⟩)]
    kernel_rfl
noncomputable def s35 (k : Nat) (a : List PV) (r : List RowS) (K : List PV → List RowS → Option R) : Option R :=
  onShape [.agg [.val [] (.int .i64), .val [] (.int .i64), .val [(0, 0)] (.slice (.slice (.int .u8))), .val [] (.int .i64), .val [] .bool]] [] (fun v => f35 k v.1.1.1 v.1.1.2.1 v.1.1.2.2.1 v.1.1.2.2.2.1 v.1.1.2.2.2.2.1 (fun z0 => K [.val [] (.int .i64) z0] [])) (callC T F k 35 a r K) a r
theorem s35_eq (k : Nat) (a : List PV) (r : List RowS) (K : List PV → List RowS → Option R) : s35 k a r K = callC T F k 35 a r K := by
  unfold s35
  exact onShape_eq (a := [.agg [.val [] (.int .i64), .val [] (.int .i64), .val [(0, 0)] (.slice (.slice (.int .u8))), .val [] (.int .i64), .val [] .bool]]) (b := []) (G := fun a r => callC T F k 35 a r K) (fun x y => Eq.trans (by kernel_rfl) (Eq.trans (e35 k x.1.1 x.1.2.1 x.1.2.2.1 x.1.2.2.2.1 x.1.2.2.2.2.1 K).symm (by kernel_rfl))) a r
end
section
variable {R : Type}
theorem e73 (k : Nat) (a0 : List (List Int)) (K : List PV → List RowS → Option R) : callC T F k 73 [.val [(0, 0)] (.slice (.slice (.int .u8))) a0] [] K = f73 k a0 (fun z0 => K [.rw 1] [⟨0, .arr [(0, 0)] (.slice (.int .u8)) z0⟩]) := by
  rw [f73_def]
  cases k with
  | zero => rfl
  | succ k => exact clone_call (m := [.lend (.slice (.int .u8))]) (ty := (.slice (.int .u8))) (bytes := 24) (by kernel_rfl) a0 K
noncomputable def s73 (k : Nat) (a : List PV) (r : List RowS) (K : List PV → List RowS → Option R) : Option R :=
  onShape [.val [(0, 0)] (.slice (.slice (.int .u8)))] [] (fun v => f73 k v.1.1 (fun z0 => K [.rw 1] [⟨0, .arr [(0, 0)] (.slice (.int .u8)) z0⟩])) (callC T F k 73 a r K) a r
theorem s73_eq (k : Nat) (a : List PV) (r : List RowS) (K : List PV → List RowS → Option R) : s73 k a r K = callC T F k 73 a r K := by
  unfold s73
  exact onShape_eq (a := [.val [(0, 0)] (.slice (.slice (.int .u8)))]) (b := []) (G := fun a r => callC T F k 73 a r K) (fun x y => Eq.trans (by kernel_rfl) (Eq.trans (e73 k x.1 K).symm (by kernel_rfl))) a r
end
end Go.Proofs.Ytadkplikobhckaa.PM
