/- The small machine's run is the typed form (printed by a program of this work). -/
import Derived.Test.YtlcklflbhhnnhaaPA0
set_option linter.unusedVariables false
set_option linter.unusedSimpArgs false
set_option maxRecDepth 100000
namespace Go.Proofs.Ytlcklflbhhnnhaa.PM
open Go
noncomputable def F : Nat → Option PFn := findN [(66, .code Try.f66 an66), (68, .code Try.f68 an68), (76, .code Try.f76 an76), (104, .code Try.f104 an104), (71, .code Try.f71 an71), (45, .code Try.f45 an45), (30, .code Try.f30 an30), (67, .code Try.f67 an67), (70, .code Try.f70 an70), (69, .code Try.f69 an69), (20, .code Try.f20 an20), (77, .ext [.lend (.int .u8)] (cloneSpec (.int .u8) 1)), (109, .ext [.lend (.prod (.int .i64) (.prod (.int .i64) .unit))] (cloneSpec (.prod (.int .i64) (.prod (.int .i64) .unit)) 16)), (80, .code Try.f80 an80), (132, .code Try.f132 an132), (114, .code Try.f114 an114), (115, .ext [.any, .any] (sortSpec 116)), (86, .code Try.f86 an86), (131, .code Try.f131 an131), (117, .code Try.f117 an117), (90, .code Try.f90 an90), (47, .code Try.f47 an47), (72, .code Try.f72 an72), (105, .code Try.f105 an105), (74, .code Try.f74 an74), (78, .code Try.f78 an78), (106, .code Try.f106 an106), (75, .code Try.f75 an75), (46, .code Try.f46 an46), (31, .code Try.f31 an31), (73, .code Try.f73 an73), (21, .code Try.f21 an21), (89, .code Try.f89 an89), (118, .code Try.f118 an118), (91, .code Try.f91 an91), (48, .code Try.f48 an48), (49, .code Try.f49 an49), (50, .code Try.f50 an50), (51, .code Try.f51 an51), (40, .code Try.f40 an40), (29, .code Try.f29 an29), (64, .code Try.f64 an64), (18, .code Try.f18 an18), (24, .code Try.f24 an24), (9, .code Try.f9 an9), (22, .code Try.f22 an22), (107, .code Try.f107 an107), (128, .code Try.f128 an128), (108, .code Try.f108 an108), (79, .code Try.f79 an79), (27, .code Try.f27 an27), (10, .code Try.f10 an10)]
section
variable {R : Type}
noncomputable def S66 (k g : Nat) (a : List PV) (r : List RowS) (K : List PV → List RowS → Option R) : Option R := callC T F k g a r K
theorem S66_eq (k : Nat) : S66 (R := R) k = callC T F k := by
  funext g a r K
  exact rfl
theorem e66 (k : Nat) (a0 : Int) (a1 : Int) (a2 : Int) (K : List PV → List RowS → Option R) : callC T F k 66 [.val [] (.int .i64) a0, .val [] (.int .i64) a1, .val [] (.int .i64) a2] [] K = f66 k a0 a1 a2 (fun z0 => K [.val [] .bool z0] []) := by
  rw [f66_def]
  cases k with
  | zero => rfl
  | succ k =>
    refine Eq.trans (show _ = exec T an66 (modesOf F) 0 k 15 (callC T F k) (ending T Try.f66 an66 0 K) (bodyOf Try.f66) ⟨argEnv 0 [.val [] (.int .i64) a0, .val [] (.int .i64) a1, .val [] (.int .i64) a2] (fun _ => none), rowsOf []⟩ (ending T Try.f66 an66 0 K) (fun _ _ => none) from by kernel_rfl) ?_
    rw [← S66_eq k, ← execS_eq T an66 (modesOf F) 0 k 15 (S66 k) (fun _ _ _ _ _ => none) (bodyOf Try.f66) (cuts_of _ _ _ _ _ _ _ _ (bodyOf Try.f66) (l := []) (by kernel_rfl) trivial)]
    kernel_rfl
noncomputable def s66 (k : Nat) (a : List PV) (r : List RowS) (K : List PV → List RowS → Option R) : Option R :=
  onShape [.val [] (.int .i64), .val [] (.int .i64), .val [] (.int .i64)] [] (fun v => f66 k v.1.1 v.1.2.1 v.1.2.2.1 (fun z0 => K [.val [] .bool z0] [])) (callC T F k 66 a r K) a r
theorem s66_eq (k : Nat) (a : List PV) (r : List RowS) (K : List PV → List RowS → Option R) : s66 k a r K = callC T F k 66 a r K := by
  unfold s66
  exact onShape_eq (a := [.val [] (.int .i64), .val [] (.int .i64), .val [] (.int .i64)]) (b := []) (G := fun a r => callC T F k 66 a r K) (fun x y => Eq.trans (by kernel_rfl) (Eq.trans (e66 k x.1 x.2.1 x.2.2.1 K).symm (by kernel_rfl))) a r
end
section
variable {R : Type}
noncomputable def S68 (k g : Nat) (a : List PV) (r : List RowS) (K : List PV → List RowS → Option R) : Option R := callC T F k g a r K
theorem S68_eq (k : Nat) : S68 (R := R) k = callC T F k := by
  funext g a r K
  exact rfl
section
variable {R : Type} (k : Nat) (K : List PV → List RowS → Option R)
noncomputable def L68_0 (ws : List PV) (rs : List RowS) (N : St → Option R) (X : Nat → St → Option R) : Option R :=
  onShape [.val [] .str, .val [] (.int .i64), .val [] (.int .i64)] [] (fun v => f68_0 k (fun z0 => K [.val [] .bool z0] []) (N (sh jn68_0 [] [])) v.1.1 v.1.2.1 k v.1.2.2.1) (inner T an68 (modesOf F) 0 k 47 (S68 k) (ending T Try.f68 an68 0 K) cd68_0 (sh sp68_0 ws rs) N X) ws rs
noncomputable def L68 (id : Nat) (ws : List PV) (rs : List RowS) (N : St → Option R) (X : Nat → St → Option R) : Option R := bif id == 0 then L68_0 k K ws rs N X else none
theorem b68_0 (rec : St → Option R) (N : St → Option R) (X : Nat → St → Option R) (v0_0 : ByteArray) (v0_1 : Int) (v0_2 : Int) :
    execS T an68 (modesOf F) 0 k 47 (S68 k) (L68 k K) (ending T Try.f68 an68 0 K) bd68_0 (sh sp68_0 [.val [] .str v0_0, .val [] (.int .i64) v0_1, .val [] (.int .i64) v0_2] []) (fun st => atHead an68 0 bd68_0 st rec) (outX an68 0 0 N X) =
      f68_0b k (fun v0_2 => rec (sh sp68_0 [.val [] .str v0_0, .val [] (.int .i64) v0_1, .val [] (.int .i64) v0_2] [])) (fun z0 => K [.val [] .bool z0] []) (N (sh jn68_0 [] [])) v0_0 v0_1 v0_2 := by kernel_rfl
theorem i68_0 (N : St → Option R) (X : Nat → St → Option R) (v0_0 : ByteArray) (v0_1 : Int) (m : Nat) : ∀ (v0_2 : Int),
    iter (atHead an68 0 bd68_0) m (fun st N' => exec T an68 (modesOf F) 0 k 47 (S68 k) (ending T Try.f68 an68 0 K) bd68_0 st N' (outX an68 0 0 N X)) (sh sp68_0 [.val [] .str v0_0, .val [] (.int .i64) v0_1, .val [] (.int .i64) v0_2] []) = f68_0d k (fun z0 => K [.val [] .bool z0] []) (N (sh jn68_0 [] [])) v0_0 v0_1 m v0_2 := by
  induction m with
  | zero => intros; rfl
  | succ m ih =>
    intro v0_2
    simp only [iter]
    rw [← execS_eq T an68 (modesOf F) 0 k 47 (S68 k) (L68 k K) bd68_0 (cuts_of _ _ _ _ _ _ _ _ bd68_0 (l := []) (by kernel_rfl) trivial)]
    refine (b68_0 k K _ N X v0_0 v0_1 v0_2).trans ?_
    simp only [f68_0d, ih]
theorem l68_0 (ws : List PV) (rs : List RowS) (N : St → Option R) (X : Nat → St → Option R) : L68 k K 0 ws rs N X = inner T an68 (modesOf F) 0 k 47 (S68 k) (ending T Try.f68 an68 0 K) cd68_0 (sh sp68_0 ws rs) N X := by
  show L68_0 k K ws rs N X = _
  unfold L68_0
  rw [f68_0_def]
  exact onShape_eq (a := [.val [] .str, .val [] (.int .i64), .val [] (.int .i64)]) (b := []) (G := fun ws rs => inner T an68 (modesOf F) 0 k 47 (S68 k) (ending T Try.f68 an68 0 K) cd68_0 (sh sp68_0 ws rs) N X) (fun x y => Eq.trans (by kernel_rfl) (Eq.trans (i68_0 k K N X x.1 x.2.1 k x.2.2.1).symm (by kernel_rfl))) ws rs
end
theorem e68 (k : Nat) (a0 : ByteArray) (K : List PV → List RowS → Option R) : callC T F k 68 [.val [] .str a0] [] K = f68 k a0 (fun z0 => K [.val [] .bool z0] []) := by
  rw [f68_def]
  cases k with
  | zero => rfl
  | succ k =>
    refine Eq.trans (show _ = exec T an68 (modesOf F) 0 k 47 (callC T F k) (ending T Try.f68 an68 0 K) (bodyOf Try.f68) ⟨argEnv 0 [.val [] .str a0] (fun _ => none), rowsOf []⟩ (ending T Try.f68 an68 0 K) (fun _ _ => none) from by kernel_rfl) ?_
    rw [← S68_eq k, ← execS_eq T an68 (modesOf F) 0 k 47 (S68 k) (L68 k K) (bodyOf Try.f68) (cuts_of _ _ _ _ _ _ _ _ (bodyOf Try.f68) (l := [(0, sp68_0, cd68_0)]) (by kernel_rfl) ⟨l68_0 k K, trivial⟩)]
    kernel_rfl
noncomputable def s68 (k : Nat) (a : List PV) (r : List RowS) (K : List PV → List RowS → Option R) : Option R :=
  onShape [.val [] .str] [] (fun v => f68 k v.1.1 (fun z0 => K [.val [] .bool z0] [])) (callC T F k 68 a r K) a r
theorem s68_eq (k : Nat) (a : List PV) (r : List RowS) (K : List PV → List RowS → Option R) : s68 k a r K = callC T F k 68 a r K := by
  unfold s68
  exact onShape_eq (a := [.val [] .str]) (b := []) (G := fun a r => callC T F k 68 a r K) (fun x y => Eq.trans (by kernel_rfl) (Eq.trans (e68 k x.1 K).symm (by kernel_rfl))) a r
end
section
variable {R : Type}
noncomputable def S76 (k g : Nat) (a : List PV) (r : List RowS) (K : List PV → List RowS → Option R) : Option R := bif g == 66 then s66 k a r K else bif g == 68 then s68 k a r K else callC T F k g a r K
theorem S76_eq (k : Nat) : S76 (R := R) k = callC T F k := by
  funext g a r K
  exact pick_eq (fun e => by subst e; exact s66_eq k a r K) (pick_eq (fun e => by subst e; exact s68_eq k a r K) (rfl))
theorem e76 (k : Nat) (a0 : Int) (a1 : ByteArray) (a2 : List Int) (K : List PV → List RowS → Option R) : callC T F k 76 [.val [] (.int .i64) a0, .val [] .str a1, .val [(0, 0)] (.slice (.int .u8)) a2] [] K = f76 k a0 a1 a2 (fun z0 => K [.val [] (.int .i64) z0] []) := by
  rw [f76_def]
  cases k with
  | zero => rfl
  | succ k =>
    refine Eq.trans (show _ = exec T an76 (modesOf F) 0 k 19 (callC T F k) (ending T Try.f76 an76 0 K) (bodyOf Try.f76) ⟨argEnv 0 [.val [] (.int .i64) a0, .val [] .str a1, .val [(0, 0)] (.slice (.int .u8)) a2] (fun _ => none), rowsOf []⟩ (ending T Try.f76 an76 0 K) (fun _ _ => none) from by kernel_rfl) ?_
    rw [← S76_eq k, ← execS_eq T an76 (modesOf F) 0 k 19 (S76 k) (fun _ _ _ _ _ => none) (bodyOf Try.f76) (cuts_of _ _ _ _ _ _ _ _ (bodyOf Try.f76) (l := []) (by kernel_rfl) trivial)]
    kernel_rfl
noncomputable def s76 (k : Nat) (a : List PV) (r : List RowS) (K : List PV → List RowS → Option R) : Option R :=
  onShape [.val [] (.int .i64), .val [] .str, .val [(0, 0)] (.slice (.int .u8))] [] (fun v => f76 k v.1.1 v.1.2.1 v.1.2.2.1 (fun z0 => K [.val [] (.int .i64) z0] [])) (callC T F k 76 a r K) a r
theorem s76_eq (k : Nat) (a : List PV) (r : List RowS) (K : List PV → List RowS → Option R) : s76 k a r K = callC T F k 76 a r K := by
  unfold s76
  exact onShape_eq (a := [.val [] (.int .i64), .val [] .str, .val [(0, 0)] (.slice (.int .u8))]) (b := []) (G := fun a r => callC T F k 76 a r K) (fun x y => Eq.trans (by kernel_rfl) (Eq.trans (e76 k x.1 x.2.1 x.2.2.1 K).symm (by kernel_rfl))) a r
end
section
variable {R : Type}
noncomputable def S104 (k g : Nat) (a : List PV) (r : List RowS) (K : List PV → List RowS → Option R) : Option R := callC T F k g a r K
theorem S104_eq (k : Nat) : S104 (R := R) k = callC T F k := by
  funext g a r K
  exact rfl
theorem e104 (k : Nat) (K : List PV → List RowS → Option R) : callC T F k 104 [] [] K = f104 k (fun z0 z1 => K [.agg [.val [] (.int .i64) z0, .val [] (.int .i64) z1]] []) := by
  rw [f104_def]
  cases k with
  | zero => rfl
  | succ k =>
    refine Eq.trans (show _ = exec T an104 (modesOf F) 0 k 2 (callC T F k) (ending T Try.f104 an104 0 K) (bodyOf Try.f104) ⟨argEnv 0 [] (fun _ => none), rowsOf []⟩ (ending T Try.f104 an104 0 K) (fun _ _ => none) from by kernel_rfl) ?_
    rw [← S104_eq k, ← execS_eq T an104 (modesOf F) 0 k 2 (S104 k) (fun _ _ _ _ _ => none) (bodyOf Try.f104) (cuts_of _ _ _ _ _ _ _ _ (bodyOf Try.f104) (l := []) (by kernel_rfl) trivial)]
    kernel_rfl
noncomputable def s104 (k : Nat) (a : List PV) (r : List RowS) (K : List PV → List RowS → Option R) : Option R :=
  onShape [] [] (fun v => f104 k (fun z0 z1 => K [.agg [.val [] (.int .i64) z0, .val [] (.int .i64) z1]] [])) (callC T F k 104 a r K) a r
theorem s104_eq (k : Nat) (a : List PV) (r : List RowS) (K : List PV → List RowS → Option R) : s104 k a r K = callC T F k 104 a r K := by
  unfold s104
  exact onShape_eq (a := []) (b := []) (G := fun a r => callC T F k 104 a r K) (fun x y => Eq.trans (by kernel_rfl) (Eq.trans (e104 k K).symm (by kernel_rfl))) a r
end
section
variable {R : Type}
noncomputable def S71 (k g : Nat) (a : List PV) (r : List RowS) (K : List PV → List RowS → Option R) : Option R := bif g == 104 then s104 k a r K else callC T F k g a r K
theorem S71_eq (k : Nat) : S71 (R := R) k = callC T F k := by
  funext g a r K
  exact pick_eq (fun e => by subst e; exact s104_eq k a r K) (rfl)
theorem e71 (k : Nat) (a0 : List ((Int × (Int × Unit)))) (K : List PV → List RowS → Option R) : callC T F k 71 [.val [(0, 0)] (.slice (.prod (.int .i64) (.prod (.int .i64) .unit))) a0] [] K = f71 k a0 (fun z0 z1 => K [.val [(0, 0)] (.slice (.prod (.int .i64) (.prod (.int .i64) .unit))) z0, .val [] .bool z1] []) := by
  rw [f71_def]
  cases k with
  | zero => rfl
  | succ k =>
    refine Eq.trans (show _ = exec T an71 (modesOf F) 0 k 17 (callC T F k) (ending T Try.f71 an71 0 K) (bodyOf Try.f71) ⟨argEnv 0 [.val [(0, 0)] (.slice (.prod (.int .i64) (.prod (.int .i64) .unit))) a0] (fun _ => none), rowsOf []⟩ (ending T Try.f71 an71 0 K) (fun _ _ => none) from by kernel_rfl) ?_
    rw [← S71_eq k, ← execS_eq T an71 (modesOf F) 0 k 17 (S71 k) (fun _ _ _ _ _ => none) (bodyOf Try.f71) (cuts_of _ _ _ _ _ _ _ _ (bodyOf Try.f71) (l := []) (by kernel_rfl) trivial)]
    kernel_rfl
noncomputable def s71 (k : Nat) (a : List PV) (r : List RowS) (K : List PV → List RowS → Option R) : Option R :=
  onShape [.val [(0, 0)] (.slice (.prod (.int .i64) (.prod (.int .i64) .unit)))] [] (fun v => f71 k v.1.1 (fun z0 z1 => K [.val [(0, 0)] (.slice (.prod (.int .i64) (.prod (.int .i64) .unit))) z0, .val [] .bool z1] [])) (callC T F k 71 a r K) a r
theorem s71_eq (k : Nat) (a : List PV) (r : List RowS) (K : List PV → List RowS → Option R) : s71 k a r K = callC T F k 71 a r K := by
  unfold s71
  exact onShape_eq (a := [.val [(0, 0)] (.slice (.prod (.int .i64) (.prod (.int .i64) .unit)))]) (b := []) (G := fun a r => callC T F k 71 a r K) (fun x y => Eq.trans (by kernel_rfl) (Eq.trans (e71 k x.1 K).symm (by kernel_rfl))) a r
end
section
variable {R : Type}
noncomputable def S45 (k g : Nat) (a : List PV) (r : List RowS) (K : List PV → List RowS → Option R) : Option R := bif g == 66 then s66 k a r K else callC T F k g a r K
theorem S45_eq (k : Nat) : S45 (R := R) k = callC T F k := by
  funext g a r K
  exact pick_eq (fun e => by subst e; exact s66_eq k a r K) (rfl)
section
variable {R : Type} (k : Nat) (K : List PV → List RowS → Option R)
noncomputable def L45_0 (ws : List PV) (rs : List RowS) (N : St → Option R) (X : Nat → St → Option R) : Option R :=
  onShape [.val [(0, 0)] (.slice (.prod (.int .i64) (.prod (.int .i64) .unit))), .val [] (.int .i64), .val [(0, 0)] (.slice (.prod (.int .i64) (.prod (.int .i64) .unit))), .val [] (.int .i64), .val [] (.int .i64)] [] (fun v => f45_0 k (fun z0 => K [.val [] (.int .i64) z0] []) (N (sh jn45_0 [] [])) v.1.1 v.1.2.1 v.1.2.2.1 v.1.2.2.2.1 k v.1.2.2.2.2.1) (inner T an45 (modesOf F) 0 k 51 (S45 k) (ending T Try.f45 an45 0 K) cd45_0 (sh sp45_0 ws rs) N X) ws rs
noncomputable def L45 (id : Nat) (ws : List PV) (rs : List RowS) (N : St → Option R) (X : Nat → St → Option R) : Option R := bif id == 0 then L45_0 k K ws rs N X else none
theorem b45_0 (rec : St → Option R) (N : St → Option R) (X : Nat → St → Option R) (v0_0 : List ((Int × (Int × Unit)))) (v0_1 : Int) (v0_2 : List ((Int × (Int × Unit)))) (v0_3 : Int) (v0_4 : Int) :
    execS T an45 (modesOf F) 0 k 51 (S45 k) (L45 k K) (ending T Try.f45 an45 0 K) bd45_0 (sh sp45_0 [.val [(0, 0)] (.slice (.prod (.int .i64) (.prod (.int .i64) .unit))) v0_0, .val [] (.int .i64) v0_1, .val [(0, 0)] (.slice (.prod (.int .i64) (.prod (.int .i64) .unit))) v0_2, .val [] (.int .i64) v0_3, .val [] (.int .i64) v0_4] []) (fun st => atHead an45 0 bd45_0 st rec) (outX an45 0 0 N X) =
      f45_0b k (fun v0_4 => rec (sh sp45_0 [.val [(0, 0)] (.slice (.prod (.int .i64) (.prod (.int .i64) .unit))) v0_0, .val [] (.int .i64) v0_1, .val [(0, 0)] (.slice (.prod (.int .i64) (.prod (.int .i64) .unit))) v0_2, .val [] (.int .i64) v0_3, .val [] (.int .i64) v0_4] [])) (fun z0 => K [.val [] (.int .i64) z0] []) (N (sh jn45_0 [] [])) v0_0 v0_1 v0_2 v0_3 v0_4 := by kernel_rfl
theorem i45_0 (N : St → Option R) (X : Nat → St → Option R) (v0_0 : List ((Int × (Int × Unit)))) (v0_1 : Int) (v0_2 : List ((Int × (Int × Unit)))) (v0_3 : Int) (m : Nat) : ∀ (v0_4 : Int),
    iter (atHead an45 0 bd45_0) m (fun st N' => exec T an45 (modesOf F) 0 k 51 (S45 k) (ending T Try.f45 an45 0 K) bd45_0 st N' (outX an45 0 0 N X)) (sh sp45_0 [.val [(0, 0)] (.slice (.prod (.int .i64) (.prod (.int .i64) .unit))) v0_0, .val [] (.int .i64) v0_1, .val [(0, 0)] (.slice (.prod (.int .i64) (.prod (.int .i64) .unit))) v0_2, .val [] (.int .i64) v0_3, .val [] (.int .i64) v0_4] []) = f45_0d k (fun z0 => K [.val [] (.int .i64) z0] []) (N (sh jn45_0 [] [])) v0_0 v0_1 v0_2 v0_3 m v0_4 := by
  induction m with
  | zero => intros; rfl
  | succ m ih =>
    intro v0_4
    simp only [iter]
    rw [← execS_eq T an45 (modesOf F) 0 k 51 (S45 k) (L45 k K) bd45_0 (cuts_of _ _ _ _ _ _ _ _ bd45_0 (l := []) (by kernel_rfl) trivial)]
    refine (b45_0 k K _ N X v0_0 v0_1 v0_2 v0_3 v0_4).trans ?_
    simp only [f45_0d, ih]
theorem l45_0 (ws : List PV) (rs : List RowS) (N : St → Option R) (X : Nat → St → Option R) : L45 k K 0 ws rs N X = inner T an45 (modesOf F) 0 k 51 (S45 k) (ending T Try.f45 an45 0 K) cd45_0 (sh sp45_0 ws rs) N X := by
  show L45_0 k K ws rs N X = _
  unfold L45_0
  rw [f45_0_def]
  exact onShape_eq (a := [.val [(0, 0)] (.slice (.prod (.int .i64) (.prod (.int .i64) .unit))), .val [] (.int .i64), .val [(0, 0)] (.slice (.prod (.int .i64) (.prod (.int .i64) .unit))), .val [] (.int .i64), .val [] (.int .i64)]) (b := []) (G := fun ws rs => inner T an45 (modesOf F) 0 k 51 (S45 k) (ending T Try.f45 an45 0 K) cd45_0 (sh sp45_0 ws rs) N X) (fun x y => Eq.trans (by kernel_rfl) (Eq.trans (i45_0 k K N X x.1 x.2.1 x.2.2.1 x.2.2.2.1 k x.2.2.2.2.1).symm (by kernel_rfl))) ws rs
end
theorem e45 (k : Nat) (a0 : List ((Int × (Int × Unit)))) (a1 : Int) (K : List PV → List RowS → Option R) : callC T F k 45 [.val [(0, 0)] (.slice (.prod (.int .i64) (.prod (.int .i64) .unit))) a0, .val [] (.int .i64) a1] [] K = f45 k a0 a1 (fun z0 => K [.val [] (.int .i64) z0] []) := by
  rw [f45_def]
  cases k with
  | zero => rfl
  | succ k =>
    refine Eq.trans (show _ = exec T an45 (modesOf F) 0 k 51 (callC T F k) (ending T Try.f45 an45 0 K) (bodyOf Try.f45) ⟨argEnv 0 [.val [(0, 0)] (.slice (.prod (.int .i64) (.prod (.int .i64) .unit))) a0, .val [] (.int .i64) a1] (fun _ => none), rowsOf []⟩ (ending T Try.f45 an45 0 K) (fun _ _ => none) from by kernel_rfl) ?_
    rw [← S45_eq k, ← execS_eq T an45 (modesOf F) 0 k 51 (S45 k) (L45 k K) (bodyOf Try.f45) (cuts_of _ _ _ _ _ _ _ _ (bodyOf Try.f45) (l := [(0, sp45_0, cd45_0)]) (by kernel_rfl) ⟨l45_0 k K, trivial⟩)]
    kernel_rfl
noncomputable def s45 (k : Nat) (a : List PV) (r : List RowS) (K : List PV → List RowS → Option R) : Option R :=
  onShape [.val [(0, 0)] (.slice (.prod (.int .i64) (.prod (.int .i64) .unit))), .val [] (.int .i64)] [] (fun v => f45 k v.1.1 v.1.2.1 (fun z0 => K [.val [] (.int .i64) z0] [])) (callC T F k 45 a r K) a r
theorem s45_eq (k : Nat) (a : List PV) (r : List RowS) (K : List PV → List RowS → Option R) : s45 k a r K = callC T F k 45 a r K := by
  unfold s45
  exact onShape_eq (a := [.val [(0, 0)] (.slice (.prod (.int .i64) (.prod (.int .i64) .unit))), .val [] (.int .i64)]) (b := []) (G := fun a r => callC T F k 45 a r K) (fun x y => Eq.trans (by kernel_rfl) (Eq.trans (e45 k x.1 x.2.1 K).symm (by kernel_rfl))) a r
end
section
variable {R : Type}
noncomputable def S30 (k g : Nat) (a : List PV) (r : List RowS) (K : List PV → List RowS → Option R) : Option R := bif g == 45 then s45 k a r K else bif g == 66 then s66 k a r K else bif g == 71 then s71 k a r K else bif g == 76 then s76 k a r K else callC T F k g a r K
theorem S30_eq (k : Nat) : S30 (R := R) k = callC T F k := by
  funext g a r K
  exact pick_eq (fun e => by subst e; exact s45_eq k a r K) (pick_eq (fun e => by subst e; exact s66_eq k a r K) (pick_eq (fun e => by subst e; exact s71_eq k a r K) (pick_eq (fun e => by subst e; exact s76_eq k a r K) (rfl))))
theorem e30 (k : Nat) (a0 : Int) (a1 : Int) (a2 : ByteArray) (a3 : List Int) (a4 : Int) (a5 : List ((Int × (Int × Unit)))) (a6 : Int) (a7 : Int) (K : List PV → List RowS → Option R) : callC T F k 30 [.agg [.val [] (.int .i64) a0, .val [] (.int .i64) a1, .val [] .str a2, .val [(0, 0)] (.slice (.int .u8)) a3, .val [] (.int .i64) a4, .val [(0, 0)] (.slice (.prod (.int .i64) (.prod (.int .i64) .unit))) a5, .val [] (.int .i64) a6, .val [] (.int .i64) a7]] [] K = f30 k a0 a1 a2 a3 a4 a5 a6 a7 (fun z0 => K [.val [] (.int .i64) z0] []) := by
  rw [f30_def]
  cases k with
  | zero => rfl
  | succ k =>
    refine Eq.trans (show _ = exec T an30 (modesOf F) 0 k 87 (callC T F k) (ending T Try.f30 an30 0 K) (bodyOf Try.f30) ⟨argEnv 0 [.agg [.val [] (.int .i64) a0, .val [] (.int .i64) a1, .val [] .str a2, .val [(0, 0)] (.slice (.int .u8)) a3, .val [] (.int .i64) a4, .val [(0, 0)] (.slice (.prod (.int .i64) (.prod (.int .i64) .unit))) a5, .val [] (.int .i64) a6, .val [] (.int .i64) a7]] (fun _ => none), rowsOf []⟩ (ending T Try.f30 an30 0 K) (fun _ _ => none) from by kernel_rfl) ?_
    rw [← S30_eq k, ← execS_eq T an30 (modesOf F) 0 k 87 (S30 k) (fun _ _ _ _ _ => none) (bodyOf Try.f30) (cuts_of _ _ _ _ _ _ _ _ (bodyOf Try.f30) (l := []) (by kernel_rfl) trivial)]
    kernel_rfl
noncomputable def s30 (k : Nat) (a : List PV) (r : List RowS) (K : List PV → List RowS → Option R) : Option R :=
  onShape [.agg [.val [] (.int .i64), .val [] (.int .i64), .val [] .str, .val [(0, 0)] (.slice (.int .u8)), .val [] (.int .i64), .val [(0, 0)] (.slice (.prod (.int .i64) (.prod (.int .i64) .unit))), .val [] (.int .i64), .val [] (.int .i64)]] [] (fun v => f30 k v.1.1.1 v.1.1.2.1 v.1.1.2.2.1 v.1.1.2.2.2.1 v.1.1.2.2.2.2.1 v.1.1.2.2.2.2.2.1 v.1.1.2.2.2.2.2.2.1 v.1.1.2.2.2.2.2.2.2.1 (fun z0 => K [.val [] (.int .i64) z0] [])) (callC T F k 30 a r K) a r
theorem s30_eq (k : Nat) (a : List PV) (r : List RowS) (K : List PV → List RowS → Option R) : s30 k a r K = callC T F k 30 a r K := by
  unfold s30
  exact onShape_eq (a := [.agg [.val [] (.int .i64), .val [] (.int .i64), .val [] .str, .val [(0, 0)] (.slice (.int .u8)), .val [] (.int .i64), .val [(0, 0)] (.slice (.prod (.int .i64) (.prod (.int .i64) .unit))), .val [] (.int .i64), .val [] (.int .i64)]]) (b := []) (G := fun a r => callC T F k 30 a r K) (fun x y => Eq.trans (by kernel_rfl) (Eq.trans (e30 k x.1.1 x.1.2.1 x.1.2.2.1 x.1.2.2.2.1 x.1.2.2.2.2.1 x.1.2.2.2.2.2.1 x.1.2.2.2.2.2.2.1 x.1.2.2.2.2.2.2.2.1 K).symm (by kernel_rfl))) a r
end
section
variable {R : Type}
noncomputable def S67 (k g : Nat) (a : List PV) (r : List RowS) (K : List PV → List RowS → Option R) : Option R := callC T F k g a r K
theorem S67_eq (k : Nat) : S67 (R := R) k = callC T F k := by
  funext g a r K
  exact rfl
section
variable {R : Type} (k : Nat) (K : List PV → List RowS → Option R)
noncomputable def L67_1000013 (ws : List PV) (rs : List RowS) (N : St → Option R) (X : Nat → St → Option R) : Option R :=
  onShape [.ptr 1 0, .val [] .bool] [.vars [.val [] (.int .i64), .val [] (.int .i64), .val [] .str, .val [] (.int .i64), .val [] (.int .i64), .val [] (.int .i64), .val [(0, 0)] (.slice (.int .u8)), .val [(0, 0)] (.slice (.prod (.int .i64) (.prod (.int .i64) .unit))), .val [] .bool]] (fun v => f67_1000013 k (fun yN_8 => N (sh fi67_13 [.ptr 1 0] [⟨0, .vars [.val [] (.int .i64) v.2.1.1, .val [] (.int .i64) v.2.1.2.1, .val [] .str v.2.1.2.2.1, .val [] (.int .i64) v.2.1.2.2.2.1, .val [] (.int .i64) v.2.1.2.2.2.2.1, .val [] (.int .i64) v.2.1.2.2.2.2.2.1, .val [(0, 0)] (.slice (.int .u8)) v.2.1.2.2.2.2.2.2.1, .val [(0, 0)] (.slice (.prod (.int .i64) (.prod (.int .i64) .unit))) v.2.1.2.2.2.2.2.2.2.1, .val [] .bool yN_8]⟩])) v.1.2.1 v.2.1.1 v.2.1.2.1 v.2.1.2.2.1 v.2.1.2.2.2.1 v.2.1.2.2.2.2.1 v.2.1.2.2.2.2.2.1 v.2.1.2.2.2.2.2.2.1 v.2.1.2.2.2.2.2.2.2.1 v.2.1.2.2.2.2.2.2.2.2.1) (inner T an67 (modesOf F) 0 k 62 (S67 k) (ending T Try.f67 an67 0 K) cd67_1000013 (sh sp67_1000013 ws rs) N X) ws rs
noncomputable def L67_1000011 (ws : List PV) (rs : List RowS) (N : St → Option R) (X : Nat → St → Option R) : Option R :=
  onShape [.ptr 1 0, .val [] (.int .i64), .val [] .bool] [.vars [.val [] (.int .i64), .val [] (.int .i64), .val [] .str, .val [] (.int .i64), .val [] (.int .i64), .val [] (.int .i64), .val [(0, 0)] (.slice (.int .u8)), .val [(0, 0)] (.slice (.prod (.int .i64) (.prod (.int .i64) .unit))), .val [] .bool]] (fun v => f67_1000011 k (fun yN_7 yN_8 => N (sh fi67_11 [.ptr 1 0] [⟨0, .vars [.val [] (.int .i64) v.2.1.1, .val [] (.int .i64) v.2.1.2.1, .val [] .str v.2.1.2.2.1, .val [] (.int .i64) v.2.1.2.2.2.1, .val [] (.int .i64) v.2.1.2.2.2.2.1, .val [] (.int .i64) v.2.1.2.2.2.2.2.1, .val [(0, 0)] (.slice (.int .u8)) v.2.1.2.2.2.2.2.2.1, .val [(0, 0)] (.slice (.prod (.int .i64) (.prod (.int .i64) .unit))) yN_7, .val [] .bool yN_8]⟩])) v.1.2.1 v.1.2.2.1 v.2.1.1 v.2.1.2.1 v.2.1.2.2.1 v.2.1.2.2.2.1 v.2.1.2.2.2.2.1 v.2.1.2.2.2.2.2.1 v.2.1.2.2.2.2.2.2.1 v.2.1.2.2.2.2.2.2.2.1 v.2.1.2.2.2.2.2.2.2.2.1) (inner T an67 (modesOf F) 0 k 62 (S67 k) (ending T Try.f67 an67 0 K) cd67_1000011 (sh sp67_1000011 ws rs) N X) ws rs
noncomputable def L67_1000009 (ws : List PV) (rs : List RowS) (N : St → Option R) (X : Nat → St → Option R) : Option R :=
  onShape [.ptr 1 0, .val [] (.int .i64), .val [] .bool] [.vars [.val [] (.int .i64), .val [] (.int .i64), .val [] .str, .val [] (.int .i64), .val [] (.int .i64), .val [] (.int .i64), .val [(0, 0)] (.slice (.int .u8)), .val [(0, 0)] (.slice (.prod (.int .i64) (.prod (.int .i64) .unit))), .val [] .bool]] (fun v => f67_1000009 k (fun yN_3 yN_4 yN_7 yN_8 => N (sh fi67_9 [.ptr 1 0] [⟨0, .vars [.val [] (.int .i64) v.2.1.1, .val [] (.int .i64) v.2.1.2.1, .val [] .str v.2.1.2.2.1, .val [] (.int .i64) yN_3, .val [] (.int .i64) yN_4, .val [] (.int .i64) v.2.1.2.2.2.2.2.1, .val [(0, 0)] (.slice (.int .u8)) v.2.1.2.2.2.2.2.2.1, .val [(0, 0)] (.slice (.prod (.int .i64) (.prod (.int .i64) .unit))) yN_7, .val [] .bool yN_8]⟩])) v.1.2.1 v.1.2.2.1 v.2.1.1 v.2.1.2.1 v.2.1.2.2.1 v.2.1.2.2.2.1 v.2.1.2.2.2.2.1 v.2.1.2.2.2.2.2.1 v.2.1.2.2.2.2.2.2.1 v.2.1.2.2.2.2.2.2.2.1 v.2.1.2.2.2.2.2.2.2.2.1) (inner T an67 (modesOf F) 0 k 62 (S67 k) (ending T Try.f67 an67 0 K) cd67_1000009 (sh sp67_1000009 ws rs) N X) ws rs
noncomputable def L67_1000007 (ws : List PV) (rs : List RowS) (N : St → Option R) (X : Nat → St → Option R) : Option R :=
  onShape [.ptr 1 0, .val [] (.int .i64), .val [] .bool] [.vars [.val [] (.int .i64), .val [] (.int .i64), .val [] .str, .val [] (.int .i64), .val [] (.int .i64), .val [] (.int .i64), .val [(0, 0)] (.slice (.int .u8)), .val [(0, 0)] (.slice (.prod (.int .i64) (.prod (.int .i64) .unit))), .val [] .bool]] (fun v => f67_1000007 k (fun yN_3 yN_4 yN_5 yN_6 yN_7 yN_8 => N (sh fi67_7 [.ptr 1 0] [⟨0, .vars [.val [] (.int .i64) v.2.1.1, .val [] (.int .i64) v.2.1.2.1, .val [] .str v.2.1.2.2.1, .val [] (.int .i64) yN_3, .val [] (.int .i64) yN_4, .val [] (.int .i64) yN_5, .val [(0, 0)] (.slice (.int .u8)) yN_6, .val [(0, 0)] (.slice (.prod (.int .i64) (.prod (.int .i64) .unit))) yN_7, .val [] .bool yN_8]⟩])) v.1.2.1 v.1.2.2.1 v.2.1.1 v.2.1.2.1 v.2.1.2.2.1 v.2.1.2.2.2.1 v.2.1.2.2.2.2.1 v.2.1.2.2.2.2.2.1 v.2.1.2.2.2.2.2.2.1 v.2.1.2.2.2.2.2.2.2.1 v.2.1.2.2.2.2.2.2.2.2.1) (inner T an67 (modesOf F) 0 k 62 (S67 k) (ending T Try.f67 an67 0 K) cd67_1000007 (sh sp67_1000007 ws rs) N X) ws rs
noncomputable def L67_1000005 (ws : List PV) (rs : List RowS) (N : St → Option R) (X : Nat → St → Option R) : Option R :=
  onShape [.ptr 1 0, .val [] (.int .i64), .val [] .bool] [.vars [.val [] (.int .i64), .val [] (.int .i64), .val [] .str, .val [] (.int .i64), .val [] (.int .i64), .val [] (.int .i64), .val [(0, 0)] (.slice (.int .u8)), .val [(0, 0)] (.slice (.prod (.int .i64) (.prod (.int .i64) .unit))), .val [] .bool]] (fun v => f67_1000005 k (fun yN_2 yN_3 yN_4 yN_5 yN_6 yN_7 yN_8 => N (sh fi67_5 [.ptr 1 0] [⟨0, .vars [.val [] (.int .i64) v.2.1.1, .val [] (.int .i64) v.2.1.2.1, .val [] .str yN_2, .val [] (.int .i64) yN_3, .val [] (.int .i64) yN_4, .val [] (.int .i64) yN_5, .val [(0, 0)] (.slice (.int .u8)) yN_6, .val [(0, 0)] (.slice (.prod (.int .i64) (.prod (.int .i64) .unit))) yN_7, .val [] .bool yN_8]⟩])) v.1.2.1 v.1.2.2.1 v.2.1.1 v.2.1.2.1 v.2.1.2.2.1 v.2.1.2.2.2.1 v.2.1.2.2.2.2.1 v.2.1.2.2.2.2.2.1 v.2.1.2.2.2.2.2.2.1 v.2.1.2.2.2.2.2.2.2.1 v.2.1.2.2.2.2.2.2.2.2.1) (inner T an67 (modesOf F) 0 k 62 (S67 k) (ending T Try.f67 an67 0 K) cd67_1000005 (sh sp67_1000005 ws rs) N X) ws rs
noncomputable def L67 (id : Nat) (ws : List PV) (rs : List RowS) (N : St → Option R) (X : Nat → St → Option R) : Option R := bif id == 1000013 then L67_1000013 k K ws rs N X else bif id == 1000011 then L67_1000011 k K ws rs N X else bif id == 1000009 then L67_1000009 k K ws rs N X else bif id == 1000007 then L67_1000007 k K ws rs N X else bif id == 1000005 then L67_1000005 k K ws rs N X else none
theorem l67_1000013 (ws : List PV) (rs : List RowS) (N : St → Option R) (X : Nat → St → Option R) : L67 k K 1000013 ws rs N X = inner T an67 (modesOf F) 0 k 62 (S67 k) (ending T Try.f67 an67 0 K) cd67_1000013 (sh sp67_1000013 ws rs) N X := by
  show L67_1000013 k K ws rs N X = _
  unfold L67_1000013
  rw [f67_1000013_def]
  exact onShape_eq (a := [.ptr 1 0, .val [] .bool]) (b := [.vars [.val [] (.int .i64), .val [] (.int .i64), .val [] .str, .val [] (.int .i64), .val [] (.int .i64), .val [] (.int .i64), .val [(0, 0)] (.slice (.int .u8)), .val [(0, 0)] (.slice (.prod (.int .i64) (.prod (.int .i64) .unit))), .val [] .bool]]) (G := fun ws rs => inner T an67 (modesOf F) 0 k 62 (S67 k) (ending T Try.f67 an67 0 K) cd67_1000013 (sh sp67_1000013 ws rs) N X) (fun x y => Eq.trans (by kernel_rfl) (innerS_eq T an67 (modesOf F) 0 k 62 (S67 k) (L67 k K) cd67_1000013 (l := []) (by kernel_rfl) trivial _ N X)) ws rs
theorem l67_1000011 (ws : List PV) (rs : List RowS) (N : St → Option R) (X : Nat → St → Option R) : L67 k K 1000011 ws rs N X = inner T an67 (modesOf F) 0 k 62 (S67 k) (ending T Try.f67 an67 0 K) cd67_1000011 (sh sp67_1000011 ws rs) N X := by
  show L67_1000011 k K ws rs N X = _
  unfold L67_1000011
  rw [f67_1000011_def]
  exact onShape_eq (a := [.ptr 1 0, .val [] (.int .i64), .val [] .bool]) (b := [.vars [.val [] (.int .i64), .val [] (.int .i64), .val [] .str, .val [] (.int .i64), .val [] (.int .i64), .val [] (.int .i64), .val [(0, 0)] (.slice (.int .u8)), .val [(0, 0)] (.slice (.prod (.int .i64) (.prod (.int .i64) .unit))), .val [] .bool]]) (G := fun ws rs => inner T an67 (modesOf F) 0 k 62 (S67 k) (ending T Try.f67 an67 0 K) cd67_1000011 (sh sp67_1000011 ws rs) N X) (fun x y => Eq.trans (by kernel_rfl) (innerS_eq T an67 (modesOf F) 0 k 62 (S67 k) (L67 k K) cd67_1000011 (l := [(1000013, sp67_1000013, cd67_1000013)]) (by kernel_rfl) ⟨l67_1000013 k K, trivial⟩ _ N X)) ws rs
theorem l67_1000009 (ws : List PV) (rs : List RowS) (N : St → Option R) (X : Nat → St → Option R) : L67 k K 1000009 ws rs N X = inner T an67 (modesOf F) 0 k 62 (S67 k) (ending T Try.f67 an67 0 K) cd67_1000009 (sh sp67_1000009 ws rs) N X := by
  show L67_1000009 k K ws rs N X = _
  unfold L67_1000009
  rw [f67_1000009_def]
  exact onShape_eq (a := [.ptr 1 0, .val [] (.int .i64), .val [] .bool]) (b := [.vars [.val [] (.int .i64), .val [] (.int .i64), .val [] .str, .val [] (.int .i64), .val [] (.int .i64), .val [] (.int .i64), .val [(0, 0)] (.slice (.int .u8)), .val [(0, 0)] (.slice (.prod (.int .i64) (.prod (.int .i64) .unit))), .val [] .bool]]) (G := fun ws rs => inner T an67 (modesOf F) 0 k 62 (S67 k) (ending T Try.f67 an67 0 K) cd67_1000009 (sh sp67_1000009 ws rs) N X) (fun x y => Eq.trans (by kernel_rfl) (innerS_eq T an67 (modesOf F) 0 k 62 (S67 k) (L67 k K) cd67_1000009 (l := [(1000011, sp67_1000011, cd67_1000011)]) (by kernel_rfl) ⟨l67_1000011 k K, trivial⟩ _ N X)) ws rs
theorem l67_1000007 (ws : List PV) (rs : List RowS) (N : St → Option R) (X : Nat → St → Option R) : L67 k K 1000007 ws rs N X = inner T an67 (modesOf F) 0 k 62 (S67 k) (ending T Try.f67 an67 0 K) cd67_1000007 (sh sp67_1000007 ws rs) N X := by
  show L67_1000007 k K ws rs N X = _
  unfold L67_1000007
  rw [f67_1000007_def]
  exact onShape_eq (a := [.ptr 1 0, .val [] (.int .i64), .val [] .bool]) (b := [.vars [.val [] (.int .i64), .val [] (.int .i64), .val [] .str, .val [] (.int .i64), .val [] (.int .i64), .val [] (.int .i64), .val [(0, 0)] (.slice (.int .u8)), .val [(0, 0)] (.slice (.prod (.int .i64) (.prod (.int .i64) .unit))), .val [] .bool]]) (G := fun ws rs => inner T an67 (modesOf F) 0 k 62 (S67 k) (ending T Try.f67 an67 0 K) cd67_1000007 (sh sp67_1000007 ws rs) N X) (fun x y => Eq.trans (by kernel_rfl) (innerS_eq T an67 (modesOf F) 0 k 62 (S67 k) (L67 k K) cd67_1000007 (l := [(1000009, sp67_1000009, cd67_1000009)]) (by kernel_rfl) ⟨l67_1000009 k K, trivial⟩ _ N X)) ws rs
theorem l67_1000005 (ws : List PV) (rs : List RowS) (N : St → Option R) (X : Nat → St → Option R) : L67 k K 1000005 ws rs N X = inner T an67 (modesOf F) 0 k 62 (S67 k) (ending T Try.f67 an67 0 K) cd67_1000005 (sh sp67_1000005 ws rs) N X := by
  show L67_1000005 k K ws rs N X = _
  unfold L67_1000005
  rw [f67_1000005_def]
  exact onShape_eq (a := [.ptr 1 0, .val [] (.int .i64), .val [] .bool]) (b := [.vars [.val [] (.int .i64), .val [] (.int .i64), .val [] .str, .val [] (.int .i64), .val [] (.int .i64), .val [] (.int .i64), .val [(0, 0)] (.slice (.int .u8)), .val [(0, 0)] (.slice (.prod (.int .i64) (.prod (.int .i64) .unit))), .val [] .bool]]) (G := fun ws rs => inner T an67 (modesOf F) 0 k 62 (S67 k) (ending T Try.f67 an67 0 K) cd67_1000005 (sh sp67_1000005 ws rs) N X) (fun x y => Eq.trans (by kernel_rfl) (innerS_eq T an67 (modesOf F) 0 k 62 (S67 k) (L67 k K) cd67_1000005 (l := [(1000007, sp67_1000007, cd67_1000007)]) (by kernel_rfl) ⟨l67_1000007 k K, trivial⟩ _ N X)) ws rs
end
theorem e67 (k : Nat) (a0 : Int) (a1 : Int) (a2 : ByteArray) (a3 : Int) (a4 : Int) (a5 : Int) (a6 : List Int) (a7 : List ((Int × (Int × Unit)))) (a8 : Bool) (K : List PV → List RowS → Option R) : callC T F k 67 [.agg [.val [] (.int .i64) a0, .val [] (.int .i64) a1, .val [] .str a2, .val [] (.int .i64) a3, .val [] (.int .i64) a4, .val [] (.int .i64) a5, .val [(0, 0)] (.slice (.int .u8)) a6, .val [(0, 0)] (.slice (.prod (.int .i64) (.prod (.int .i64) .unit))) a7, .val [] .bool a8]] [] K = f67 k a0 a1 a2 a3 a4 a5 a6 a7 a8 (fun z0 => K [.val [] .bool z0] []) := by
  rw [f67_def]
  cases k with
  | zero => rfl
  | succ k =>
    refine Eq.trans (show _ = exec T an67 (modesOf F) 0 k 62 (callC T F k) (ending T Try.f67 an67 0 K) (bodyOf Try.f67) ⟨argEnv 0 [.agg [.val [] (.int .i64) a0, .val [] (.int .i64) a1, .val [] .str a2, .val [] (.int .i64) a3, .val [] (.int .i64) a4, .val [] (.int .i64) a5, .val [(0, 0)] (.slice (.int .u8)) a6, .val [(0, 0)] (.slice (.prod (.int .i64) (.prod (.int .i64) .unit))) a7, .val [] .bool a8]] (fun _ => none), rowsOf []⟩ (ending T Try.f67 an67 0 K) (fun _ _ => none) from by kernel_rfl) ?_
    rw [← S67_eq k, ← execS_eq T an67 (modesOf F) 0 k 62 (S67 k) (L67 k K) (bodyOf Try.f67) (cuts_of _ _ _ _ _ _ _ _ (bodyOf Try.f67) (l := [(1000005, sp67_1000005, cd67_1000005)]) (by kernel_rfl) ⟨l67_1000005 k K, trivial⟩)]
    kernel_rfl
noncomputable def s67 (k : Nat) (a : List PV) (r : List RowS) (K : List PV → List RowS → Option R) : Option R :=
  onShape [.agg [.val [] (.int .i64), .val [] (.int .i64), .val [] .str, .val [] (.int .i64), .val [] (.int .i64), .val [] (.int .i64), .val [(0, 0)] (.slice (.int .u8)), .val [(0, 0)] (.slice (.prod (.int .i64) (.prod (.int .i64) .unit))), .val [] .bool]] [] (fun v => f67 k v.1.1.1 v.1.1.2.1 v.1.1.2.2.1 v.1.1.2.2.2.1 v.1.1.2.2.2.2.1 v.1.1.2.2.2.2.2.1 v.1.1.2.2.2.2.2.2.1 v.1.1.2.2.2.2.2.2.2.1 v.1.1.2.2.2.2.2.2.2.2.1 (fun z0 => K [.val [] .bool z0] [])) (callC T F k 67 a r K) a r
theorem s67_eq (k : Nat) (a : List PV) (r : List RowS) (K : List PV → List RowS → Option R) : s67 k a r K = callC T F k 67 a r K := by
  unfold s67
  exact onShape_eq (a := [.agg [.val [] (.int .i64), .val [] (.int .i64), .val [] .str, .val [] (.int .i64), .val [] (.int .i64), .val [] (.int .i64), .val [(0, 0)] (.slice (.int .u8)), .val [(0, 0)] (.slice (.prod (.int .i64) (.prod (.int .i64) .unit))), .val [] .bool]]) (b := []) (G := fun a r => callC T F k 67 a r K) (fun x y => Eq.trans (by kernel_rfl) (Eq.trans (e67 k x.1.1 x.1.2.1 x.1.2.2.1 x.1.2.2.2.1 x.1.2.2.2.2.1 x.1.2.2.2.2.2.1 x.1.2.2.2.2.2.2.1 x.1.2.2.2.2.2.2.2.1 x.1.2.2.2.2.2.2.2.2.1 K).symm (by kernel_rfl))) a r
end
section
variable {R : Type}
noncomputable def S70 (k g : Nat) (a : List PV) (r : List RowS) (K : List PV → List RowS → Option R) : Option R := bif g == 66 then s66 k a r K else callC T F k g a r K
theorem S70_eq (k : Nat) : S70 (R := R) k = callC T F k := by
  funext g a r K
  exact pick_eq (fun e => by subst e; exact s66_eq k a r K) (rfl)
theorem e70 (k : Nat) (a0 : Int) (a1 : Int) (a2 : Int) (K : List PV → List RowS → Option R) : callC T F k 70 [.val [] (.int .i64) a0, .val [] (.int .i64) a1, .val [] (.int .i64) a2] [] K = f70 k a0 a1 a2 (fun z0 => K [.val [] (.int .i64) z0] []) := by
  rw [f70_def]
  cases k with
  | zero => rfl
  | succ k =>
    refine Eq.trans (show _ = exec T an70 (modesOf F) 0 k 12 (callC T F k) (ending T Try.f70 an70 0 K) (bodyOf Try.f70) ⟨argEnv 0 [.val [] (.int .i64) a0, .val [] (.int .i64) a1, .val [] (.int .i64) a2] (fun _ => none), rowsOf []⟩ (ending T Try.f70 an70 0 K) (fun _ _ => none) from by kernel_rfl) ?_
    rw [← S70_eq k, ← execS_eq T an70 (modesOf F) 0 k 12 (S70 k) (fun _ _ _ _ _ => none) (bodyOf Try.f70) (cuts_of _ _ _ _ _ _ _ _ (bodyOf Try.f70) (l := []) (by kernel_rfl) trivial)]
    kernel_rfl
noncomputable def s70 (k : Nat) (a : List PV) (r : List RowS) (K : List PV → List RowS → Option R) : Option R :=
  onShape [.val [] (.int .i64), .val [] (.int .i64), .val [] (.int .i64)] [] (fun v => f70 k v.1.1 v.1.2.1 v.1.2.2.1 (fun z0 => K [.val [] (.int .i64) z0] [])) (callC T F k 70 a r K) a r
theorem s70_eq (k : Nat) (a : List PV) (r : List RowS) (K : List PV → List RowS → Option R) : s70 k a r K = callC T F k 70 a r K := by
  unfold s70
  exact onShape_eq (a := [.val [] (.int .i64), .val [] (.int .i64), .val [] (.int .i64)]) (b := []) (G := fun a r => callC T F k 70 a r K) (fun x y => Eq.trans (by kernel_rfl) (Eq.trans (e70 k x.1 x.2.1 x.2.2.1 K).symm (by kernel_rfl))) a r
end
section
variable {R : Type}
noncomputable def S69 (k g : Nat) (a : List PV) (r : List RowS) (K : List PV → List RowS → Option R) : Option R := callC T F k g a r K
theorem S69_eq (k : Nat) : S69 (R := R) k = callC T F k := by
  funext g a r K
  exact rfl
section
variable {R : Type} (k : Nat) (K : List PV → List RowS → Option R)
noncomputable def L69_0 (ws : List PV) (rs : List RowS) (N : St → Option R) (X : Nat → St → Option R) : Option R :=
  onShape [.val [(0, 0)] (.slice (.int .i64)), .val [] (.int .i64), .val [] (.int .i64)] [] (fun v => f69_0 k (fun z0 => K [.val [] (.int .i64) z0] []) (N (sh jn69_0 [] [])) v.1.1 v.1.2.1 k v.1.2.2.1) (inner T an69 (modesOf F) 0 k 15 (S69 k) (ending T Try.f69 an69 0 K) cd69_0 (sh sp69_0 ws rs) N X) ws rs
noncomputable def L69 (id : Nat) (ws : List PV) (rs : List RowS) (N : St → Option R) (X : Nat → St → Option R) : Option R := bif id == 0 then L69_0 k K ws rs N X else none
theorem b69_0 (rec : St → Option R) (N : St → Option R) (X : Nat → St → Option R) (v0_0 : List Int) (v0_1 : Int) (v0_2 : Int) :
    execS T an69 (modesOf F) 0 k 15 (S69 k) (L69 k K) (ending T Try.f69 an69 0 K) bd69_0 (sh sp69_0 [.val [(0, 0)] (.slice (.int .i64)) v0_0, .val [] (.int .i64) v0_1, .val [] (.int .i64) v0_2] []) (fun st => atHead an69 0 bd69_0 st rec) (outX an69 0 0 N X) =
      f69_0b k (fun v0_2 => rec (sh sp69_0 [.val [(0, 0)] (.slice (.int .i64)) v0_0, .val [] (.int .i64) v0_1, .val [] (.int .i64) v0_2] [])) (fun z0 => K [.val [] (.int .i64) z0] []) (N (sh jn69_0 [] [])) v0_0 v0_1 v0_2 := by kernel_rfl
theorem i69_0 (N : St → Option R) (X : Nat → St → Option R) (v0_0 : List Int) (v0_1 : Int) (m : Nat) : ∀ (v0_2 : Int),
    iter (atHead an69 0 bd69_0) m (fun st N' => exec T an69 (modesOf F) 0 k 15 (S69 k) (ending T Try.f69 an69 0 K) bd69_0 st N' (outX an69 0 0 N X)) (sh sp69_0 [.val [(0, 0)] (.slice (.int .i64)) v0_0, .val [] (.int .i64) v0_1, .val [] (.int .i64) v0_2] []) = f69_0d k (fun z0 => K [.val [] (.int .i64) z0] []) (N (sh jn69_0 [] [])) v0_0 v0_1 m v0_2 := by
  induction m with
  | zero => intros; rfl
  | succ m ih =>
    intro v0_2
    simp only [iter]
    rw [← execS_eq T an69 (modesOf F) 0 k 15 (S69 k) (L69 k K) bd69_0 (cuts_of _ _ _ _ _ _ _ _ bd69_0 (l := []) (by kernel_rfl) trivial)]
    refine (b69_0 k K _ N X v0_0 v0_1 v0_2).trans ?_
    simp only [f69_0d, ih]
theorem l69_0 (ws : List PV) (rs : List RowS) (N : St → Option R) (X : Nat → St → Option R) : L69 k K 0 ws rs N X = inner T an69 (modesOf F) 0 k 15 (S69 k) (ending T Try.f69 an69 0 K) cd69_0 (sh sp69_0 ws rs) N X := by
  show L69_0 k K ws rs N X = _
  unfold L69_0
  rw [f69_0_def]
  exact onShape_eq (a := [.val [(0, 0)] (.slice (.int .i64)), .val [] (.int .i64), .val [] (.int .i64)]) (b := []) (G := fun ws rs => inner T an69 (modesOf F) 0 k 15 (S69 k) (ending T Try.f69 an69 0 K) cd69_0 (sh sp69_0 ws rs) N X) (fun x y => Eq.trans (by kernel_rfl) (Eq.trans (i69_0 k K N X x.1 x.2.1 k x.2.2.1).symm (by kernel_rfl))) ws rs
end
theorem e69 (k : Nat) (a0 : List Int) (K : List PV → List RowS → Option R) : callC T F k 69 [.val [(0, 0)] (.slice (.int .i64)) a0] [] K = f69 k a0 (fun z0 => K [.val [] (.int .i64) z0] []) := by
  rw [f69_def]
  cases k with
  | zero => rfl
  | succ k =>
    refine Eq.trans (show _ = exec T an69 (modesOf F) 0 k 15 (callC T F k) (ending T Try.f69 an69 0 K) (bodyOf Try.f69) ⟨argEnv 0 [.val [(0, 0)] (.slice (.int .i64)) a0] (fun _ => none), rowsOf []⟩ (ending T Try.f69 an69 0 K) (fun _ _ => none) from by kernel_rfl) ?_
    rw [← S69_eq k, ← execS_eq T an69 (modesOf F) 0 k 15 (S69 k) (L69 k K) (bodyOf Try.f69) (cuts_of _ _ _ _ _ _ _ _ (bodyOf Try.f69) (l := [(0, sp69_0, cd69_0)]) (by kernel_rfl) ⟨l69_0 k K, trivial⟩)]
    kernel_rfl
noncomputable def s69 (k : Nat) (a : List PV) (r : List RowS) (K : List PV → List RowS → Option R) : Option R :=
  onShape [.val [(0, 0)] (.slice (.int .i64))] [] (fun v => f69 k v.1.1 (fun z0 => K [.val [] (.int .i64) z0] [])) (callC T F k 69 a r K) a r
theorem s69_eq (k : Nat) (a : List PV) (r : List RowS) (K : List PV → List RowS → Option R) : s69 k a r K = callC T F k 69 a r K := by
  unfold s69
  exact onShape_eq (a := [.val [(0, 0)] (.slice (.int .i64))]) (b := []) (G := fun a r => callC T F k 69 a r K) (fun x y => Eq.trans (by kernel_rfl) (Eq.trans (e69 k x.1 K).symm (by kernel_rfl))) a r
end
section
variable {R : Type}
noncomputable def S20 (k g : Nat) (a : List PV) (r : List RowS) (K : List PV → List RowS → Option R) : Option R := bif g == 45 then s45 k a r K else bif g == 66 then s66 k a r K else bif g == 67 then s67 k a r K else bif g == 68 then s68 k a r K else bif g == 69 then s69 k a r K else bif g == 70 then s70 k a r K else bif g == 71 then s71 k a r K else callC T F k g a r K
theorem S20_eq (k : Nat) : S20 (R := R) k = callC T F k := by
  funext g a r K
  exact pick_eq (fun e => by subst e; exact s45_eq k a r K) (pick_eq (fun e => by subst e; exact s66_eq k a r K) (pick_eq (fun e => by subst e; exact s67_eq k a r K) (pick_eq (fun e => by subst e; exact s68_eq k a r K) (pick_eq (fun e => by subst e; exact s69_eq k a r K) (pick_eq (fun e => by subst e; exact s70_eq k a r K) (pick_eq (fun e => by subst e; exact s71_eq k a r K) (rfl)))))))
section
variable {R : Type} (k : Nat) (K : List PV → List RowS → Option R)
noncomputable def L20_1000015 (ws : List PV) (rs : List RowS) (N : St → Option R) (X : Nat → St → Option R) : Option R :=
  onShape [.ptr 1 0, .val [] (.int .i64), .val [] .bool] [.vars [.val [] (.int .i64), .val [] (.int .i64), .val [] .str, .val [] (.int .i64), .val [] (.int .i64), .val [] (.int .i64), .val [(0, 0)] (.slice (.int .u8)), .val [(0, 0)] (.slice (.prod (.int .i64) (.prod (.int .i64) .unit))), .val [] .bool]] (fun v => f20_1000015 k (fun z0 => K [.val [] (.int .i64) z0] []) (N (sh fi20_15 [] [])) v.1.2.1 v.1.2.2.1 v.2.1.1 v.2.1.2.1 v.2.1.2.2.1 v.2.1.2.2.2.1 v.2.1.2.2.2.2.1 v.2.1.2.2.2.2.2.1 v.2.1.2.2.2.2.2.2.1 v.2.1.2.2.2.2.2.2.2.1 v.2.1.2.2.2.2.2.2.2.2.1) (inner T an20 (modesOf F) 0 k 81 (S20 k) (ending T Try.f20 an20 0 K) cd20_1000015 (sh sp20_1000015 ws rs) N X) ws rs
noncomputable def L20 (id : Nat) (ws : List PV) (rs : List RowS) (N : St → Option R) (X : Nat → St → Option R) : Option R := bif id == 1000015 then L20_1000015 k K ws rs N X else none
theorem l20_1000015 (ws : List PV) (rs : List RowS) (N : St → Option R) (X : Nat → St → Option R) : L20 k K 1000015 ws rs N X = inner T an20 (modesOf F) 0 k 81 (S20 k) (ending T Try.f20 an20 0 K) cd20_1000015 (sh sp20_1000015 ws rs) N X := by
  show L20_1000015 k K ws rs N X = _
  unfold L20_1000015
  rw [f20_1000015_def]
  exact onShape_eq (a := [.ptr 1 0, .val [] (.int .i64), .val [] .bool]) (b := [.vars [.val [] (.int .i64), .val [] (.int .i64), .val [] .str, .val [] (.int .i64), .val [] (.int .i64), .val [] (.int .i64), .val [(0, 0)] (.slice (.int .u8)), .val [(0, 0)] (.slice (.prod (.int .i64) (.prod (.int .i64) .unit))), .val [] .bool]]) (G := fun ws rs => inner T an20 (modesOf F) 0 k 81 (S20 k) (ending T Try.f20 an20 0 K) cd20_1000015 (sh sp20_1000015 ws rs) N X) (fun x y => Eq.trans (by kernel_rfl) (innerS_eq T an20 (modesOf F) 0 k 81 (S20 k) (L20 k K) cd20_1000015 (l := []) (by kernel_rfl) trivial _ N X)) ws rs
end
theorem e20 (k : Nat) (a0 : Int) (a1 : Int) (a2 : ByteArray) (a3 : Int) (a4 : Int) (a5 : Int) (a6 : List Int) (a7 : List ((Int × (Int × Unit)))) (a8 : Bool) (K : List PV → List RowS → Option R) : callC T F k 20 [.agg [.val [] (.int .i64) a0, .val [] (.int .i64) a1, .val [] .str a2, .val [] (.int .i64) a3, .val [] (.int .i64) a4, .val [] (.int .i64) a5, .val [(0, 0)] (.slice (.int .u8)) a6, .val [(0, 0)] (.slice (.prod (.int .i64) (.prod (.int .i64) .unit))) a7, .val [] .bool a8]] [] K = f20 k a0 a1 a2 a3 a4 a5 a6 a7 a8 (fun z0 => K [.val [] (.int .i64) z0] []) := by
  rw [f20_def]
  cases k with
  | zero => rfl
  | succ k =>
    refine Eq.trans (show _ = exec T an20 (modesOf F) 0 k 81 (callC T F k) (ending T Try.f20 an20 0 K) (bodyOf Try.f20) ⟨argEnv 0 [.agg [.val [] (.int .i64) a0, .val [] (.int .i64) a1, .val [] .str a2, .val [] (.int .i64) a3, .val [] (.int .i64) a4, .val [] (.int .i64) a5, .val [(0, 0)] (.slice (.int .u8)) a6, .val [(0, 0)] (.slice (.prod (.int .i64) (.prod (.int .i64) .unit))) a7, .val [] .bool a8]] (fun _ => none), rowsOf []⟩ (ending T Try.f20 an20 0 K) (fun _ _ => none) from by kernel_rfl) ?_
    rw [← S20_eq k, ← execS_eq T an20 (modesOf F) 0 k 81 (S20 k) (L20 k K) (bodyOf Try.f20) (cuts_of _ _ _ _ _ _ _ _ (bodyOf Try.f20) (l := [(1000015, sp20_1000015, cd20_1000015)]) (by kernel_rfl) ⟨l20_1000015 k K, trivial⟩)]
    kernel_rfl
noncomputable def s20 (k : Nat) (a : List PV) (r : List RowS) (K : List PV → List RowS → Option R) : Option R :=
  onShape [.agg [.val [] (.int .i64), .val [] (.int .i64), .val [] .str, .val [] (.int .i64), .val [] (.int .i64), .val [] (.int .i64), .val [(0, 0)] (.slice (.int .u8)), .val [(0, 0)] (.slice (.prod (.int .i64) (.prod (.int .i64) .unit))), .val [] .bool]] [] (fun v => f20 k v.1.1.1 v.1.1.2.1 v.1.1.2.2.1 v.1.1.2.2.2.1 v.1.1.2.2.2.2.1 v.1.1.2.2.2.2.2.1 v.1.1.2.2.2.2.2.2.1 v.1.1.2.2.2.2.2.2.2.1 v.1.1.2.2.2.2.2.2.2.2.1 (fun z0 => K [.val [] (.int .i64) z0] [])) (callC T F k 20 a r K) a r
theorem s20_eq (k : Nat) (a : List PV) (r : List RowS) (K : List PV → List RowS → Option R) : s20 k a r K = callC T F k 20 a r K := by
  unfold s20
  exact onShape_eq (a := [.agg [.val [] (.int .i64), .val [] (.int .i64), .val [] .str, .val [] (.int .i64), .val [] (.int .i64), .val [] (.int .i64), .val [(0, 0)] (.slice (.int .u8)), .val [(0, 0)] (.slice (.prod (.int .i64) (.prod (.int .i64) .unit))), .val [] .bool]]) (b := []) (G := fun a r => callC T F k 20 a r K) (fun x y => Eq.trans (by kernel_rfl) (Eq.trans (e20 k x.1.1 x.1.2.1 x.1.2.2.1 x.1.2.2.2.1 x.1.2.2.2.2.1 x.1.2.2.2.2.2.1 x.1.2.2.2.2.2.2.1 x.1.2.2.2.2.2.2.2.1 x.1.2.2.2.2.2.2.2.2.1 K).symm (by kernel_rfl))) a r
end
section
variable {R : Type}
theorem e77 (k : Nat) (a0 : List Int) (K : List PV → List RowS → Option R) : callC T F k 77 [.val [(0, 0)] (.slice (.int .u8)) a0] [] K = f77 k a0 (fun z0 => K [.rw 1] [⟨0, .arr [] (.int .u8) z0⟩]) := by
  rw [f77_def]
  cases k with
  | zero => rfl
  | succ k => exact clone_call (m := [.lend (.int .u8)]) (ty := (.int .u8)) (bytes := 1) (by kernel_rfl) a0 K
noncomputable def s77 (k : Nat) (a : List PV) (r : List RowS) (K : List PV → List RowS → Option R) : Option R :=
  onShape [.val [(0, 0)] (.slice (.int .u8))] [] (fun v => f77 k v.1.1 (fun z0 => K [.rw 1] [⟨0, .arr [] (.int .u8) z0⟩])) (callC T F k 77 a r K) a r
theorem s77_eq (k : Nat) (a : List PV) (r : List RowS) (K : List PV → List RowS → Option R) : s77 k a r K = callC T F k 77 a r K := by
  unfold s77
  exact onShape_eq (a := [.val [(0, 0)] (.slice (.int .u8))]) (b := []) (G := fun a r => callC T F k 77 a r K) (fun x y => Eq.trans (by kernel_rfl) (Eq.trans (e77 k x.1 K).symm (by kernel_rfl))) a r
end
section
variable {R : Type}
theorem e109 (k : Nat) (a0 : List ((Int × (Int × Unit)))) (K : List PV → List RowS → Option R) : callC T F k 109 [.val [(0, 0)] (.slice (.prod (.int .i64) (.prod (.int .i64) .unit))) a0] [] K = f109 k a0 (fun z0 => K [.rw 1] [⟨0, .arr [] (.prod (.int .i64) (.prod (.int .i64) .unit)) z0⟩]) := by
  rw [f109_def]
  cases k with
  | zero => rfl
  | succ k => exact clone_call (m := [.lend (.prod (.int .i64) (.prod (.int .i64) .unit))]) (ty := (.prod (.int .i64) (.prod (.int .i64) .unit))) (bytes := 16) (by kernel_rfl) a0 K
noncomputable def s109 (k : Nat) (a : List PV) (r : List RowS) (K : List PV → List RowS → Option R) : Option R :=
  onShape [.val [(0, 0)] (.slice (.prod (.int .i64) (.prod (.int .i64) .unit)))] [] (fun v => f109 k v.1.1 (fun z0 => K [.rw 1] [⟨0, .arr [] (.prod (.int .i64) (.prod (.int .i64) .unit)) z0⟩])) (callC T F k 109 a r K) a r
theorem s109_eq (k : Nat) (a : List PV) (r : List RowS) (K : List PV → List RowS → Option R) : s109 k a r K = callC T F k 109 a r K := by
  unfold s109
  exact onShape_eq (a := [.val [(0, 0)] (.slice (.prod (.int .i64) (.prod (.int .i64) .unit)))]) (b := []) (G := fun a r => callC T F k 109 a r K) (fun x y => Eq.trans (by kernel_rfl) (Eq.trans (e109 k x.1 K).symm (by kernel_rfl))) a r
end
section
variable {R : Type}
noncomputable def S80 (k g : Nat) (a : List PV) (r : List RowS) (K : List PV → List RowS → Option R) : Option R := bif g == 77 then s77 k a r K else bif g == 109 then s109 k a r K else callC T F k g a r K
theorem S80_eq (k : Nat) : S80 (R := R) k = callC T F k := by
  funext g a r K
  exact pick_eq (fun e => by subst e; exact s77_eq k a r K) (pick_eq (fun e => by subst e; exact s109_eq k a r K) (rfl))
theorem e80 (k : Nat) (a0 : Int) (a1 : Int) (a2 : ByteArray) (a3 : List Int) (a4 : Int) (a5 : List ((Int × (Int × Unit)))) (a6 : Int) (a7 : Int) (K : List PV → List RowS → Option R) : callC T F k 80 [.agg [.val [] (.int .i64) a0, .val [] (.int .i64) a1, .val [] .str a2, .val [(0, 0)] (.slice (.int .u8)) a3, .val [] (.int .i64) a4, .val [(0, 0)] (.slice (.prod (.int .i64) (.prod (.int .i64) .unit))) a5, .val [] (.int .i64) a6, .val [] (.int .i64) a7]] [] K = f80 k a0 a1 a2 a3 a4 a5 a6 a7 (fun z0 z1 z2 z3 z4 z5 z6 z7 => K [.agg [.val [] (.int .i64) z0, .val [] (.int .i64) z1, .val [] .str z2, .rw 1, .val [] (.int .i64) z3, .rw 2, .val [] (.int .i64) z4, .val [] (.int .i64) z5]] [⟨0, .arr [] (.int .u8) z6⟩, ⟨0, .arr [] (.prod (.int .i64) (.prod (.int .i64) .unit)) z7⟩]) := by
  rw [f80_def]
  cases k with
  | zero => rfl
  | succ k =>
    refine Eq.trans (show _ = exec T an80 (modesOf F) 0 k 12 (callC T F k) (ending T Try.f80 an80 0 K) (bodyOf Try.f80) ⟨argEnv 0 [.agg [.val [] (.int .i64) a0, .val [] (.int .i64) a1, .val [] .str a2, .val [(0, 0)] (.slice (.int .u8)) a3, .val [] (.int .i64) a4, .val [(0, 0)] (.slice (.prod (.int .i64) (.prod (.int .i64) .unit))) a5, .val [] (.int .i64) a6, .val [] (.int .i64) a7]] (fun _ => none), rowsOf []⟩ (ending T Try.f80 an80 0 K) (fun _ _ => none) from by kernel_rfl) ?_
    rw [← S80_eq k, ← execS_eq T an80 (modesOf F) 0 k 12 (S80 k) (fun _ _ _ _ _ => none) (bodyOf Try.f80) (cuts_of _ _ _ _ _ _ _ _ (bodyOf Try.f80) (l := []) (by kernel_rfl) trivial)]
    kernel_rfl
noncomputable def s80 (k : Nat) (a : List PV) (r : List RowS) (K : List PV → List RowS → Option R) : Option R :=
  onShape [.agg [.val [] (.int .i64), .val [] (.int .i64), .val [] .str, .val [(0, 0)] (.slice (.int .u8)), .val [] (.int .i64), .val [(0, 0)] (.slice (.prod (.int .i64) (.prod (.int .i64) .unit))), .val [] (.int .i64), .val [] (.int .i64)]] [] (fun v => f80 k v.1.1.1 v.1.1.2.1 v.1.1.2.2.1 v.1.1.2.2.2.1 v.1.1.2.2.2.2.1 v.1.1.2.2.2.2.2.1 v.1.1.2.2.2.2.2.2.1 v.1.1.2.2.2.2.2.2.2.1 (fun z0 z1 z2 z3 z4 z5 z6 z7 => K [.agg [.val [] (.int .i64) z0, .val [] (.int .i64) z1, .val [] .str z2, .rw 1, .val [] (.int .i64) z3, .rw 2, .val [] (.int .i64) z4, .val [] (.int .i64) z5]] [⟨0, .arr [] (.int .u8) z6⟩, ⟨0, .arr [] (.prod (.int .i64) (.prod (.int .i64) .unit)) z7⟩])) (callC T F k 80 a r K) a r
theorem s80_eq (k : Nat) (a : List PV) (r : List RowS) (K : List PV → List RowS → Option R) : s80 k a r K = callC T F k 80 a r K := by
  unfold s80
  exact onShape_eq (a := [.agg [.val [] (.int .i64), .val [] (.int .i64), .val [] .str, .val [(0, 0)] (.slice (.int .u8)), .val [] (.int .i64), .val [(0, 0)] (.slice (.prod (.int .i64) (.prod (.int .i64) .unit))), .val [] (.int .i64), .val [] (.int .i64)]]) (b := []) (G := fun a r => callC T F k 80 a r K) (fun x y => Eq.trans (by kernel_rfl) (Eq.trans (e80 k x.1.1 x.1.2.1 x.1.2.2.1 x.1.2.2.2.1 x.1.2.2.2.2.1 x.1.2.2.2.2.2.1 x.1.2.2.2.2.2.2.1 x.1.2.2.2.2.2.2.2.1 K).symm (by kernel_rfl))) a r
end
section
variable {R : Type}
noncomputable def S132 (k g : Nat) (a : List PV) (r : List RowS) (K : List PV → List RowS → Option R) : Option R := callC T F k g a r K
theorem S132_eq (k : Nat) : S132 (R := R) k = callC T F k := by
  funext g a r K
  exact rfl
section
variable {R : Type} (k : Nat) (K : List PV → List RowS → Option R)
noncomputable def L132_1000002 (ws : List PV) (rs : List RowS) (N : St → Option R) (X : Nat → St → Option R) : Option R :=
  onShape [.nils, .val [] (.int .i64), .val [] .bool] [] (fun v => f132_1000002 k (N (sh fi132_2 [.nils, .val [] (.int .i64) v.1.2.1] [])) v.1.2.1 v.1.2.2.1) (inner T an132 (modesOf F) 0 k 27 (S132 k) (ending T Try.f132 an132 0 K) cd132_1000002 (sh sp132_1000002 ws rs) N X) ws rs
noncomputable def L132_1000005 (ws : List PV) (rs : List RowS) (N : St → Option R) (X : Nat → St → Option R) : Option R :=
  onShape [.nils, .val [] (.int .i64), .val [] .bool] [] (fun v => f132_1000005 k (fun yN_0 => N (sh fi132_5 [.rw 1] [⟨0, .arr [] (.prod (.int .i64) (.prod (.int .i64) .unit)) yN_0⟩])) v.1.2.1 v.1.2.2.1) (inner T an132 (modesOf F) 0 k 27 (S132 k) (ending T Try.f132 an132 0 K) cd132_1000005 (sh sp132_1000005 ws rs) N X) ws rs
noncomputable def L132 (id : Nat) (ws : List PV) (rs : List RowS) (N : St → Option R) (X : Nat → St → Option R) : Option R := bif id == 1000002 then L132_1000002 k K ws rs N X else bif id == 1000005 then L132_1000005 k K ws rs N X else none
theorem l132_1000002 (ws : List PV) (rs : List RowS) (N : St → Option R) (X : Nat → St → Option R) : L132 k K 1000002 ws rs N X = inner T an132 (modesOf F) 0 k 27 (S132 k) (ending T Try.f132 an132 0 K) cd132_1000002 (sh sp132_1000002 ws rs) N X := by
  show L132_1000002 k K ws rs N X = _
  unfold L132_1000002
  rw [f132_1000002_def]
  exact onShape_eq (a := [.nils, .val [] (.int .i64), .val [] .bool]) (b := []) (G := fun ws rs => inner T an132 (modesOf F) 0 k 27 (S132 k) (ending T Try.f132 an132 0 K) cd132_1000002 (sh sp132_1000002 ws rs) N X) (fun x y => Eq.trans (by kernel_rfl) (innerS_eq T an132 (modesOf F) 0 k 27 (S132 k) (L132 k K) cd132_1000002 (l := []) (by kernel_rfl) trivial _ N X)) ws rs
theorem l132_1000005 (ws : List PV) (rs : List RowS) (N : St → Option R) (X : Nat → St → Option R) : L132 k K 1000005 ws rs N X = inner T an132 (modesOf F) 0 k 27 (S132 k) (ending T Try.f132 an132 0 K) cd132_1000005 (sh sp132_1000005 ws rs) N X := by
  show L132_1000005 k K ws rs N X = _
  unfold L132_1000005
  rw [f132_1000005_def]
  exact onShape_eq (a := [.nils, .val [] (.int .i64), .val [] .bool]) (b := []) (G := fun ws rs => inner T an132 (modesOf F) 0 k 27 (S132 k) (ending T Try.f132 an132 0 K) cd132_1000005 (sh sp132_1000005 ws rs) N X) (fun x y => Eq.trans (by kernel_rfl) (innerS_eq T an132 (modesOf F) 0 k 27 (S132 k) (L132 k K) cd132_1000005 (l := []) (by kernel_rfl) trivial _ N X)) ws rs
end
theorem e132 (k : Nat) (a0 : Int) (K : List PV → List RowS → Option R) : callC T F k 132 [.nils, .val [] (.int .i64) a0] [] K = f132 k a0 (fun z0 => K [.rw 1] [⟨0, .arr [] (.prod (.int .i64) (.prod (.int .i64) .unit)) z0⟩]) := by
  rw [f132_def]
  cases k with
  | zero => rfl
  | succ k =>
    refine Eq.trans (show _ = exec T an132 (modesOf F) 0 k 27 (callC T F k) (ending T Try.f132 an132 0 K) (bodyOf Try.f132) ⟨argEnv 0 [.nils, .val [] (.int .i64) a0] (fun _ => none), rowsOf []⟩ (ending T Try.f132 an132 0 K) (fun _ _ => none) from by kernel_rfl) ?_
    rw [← S132_eq k, ← execS_eq T an132 (modesOf F) 0 k 27 (S132 k) (L132 k K) (bodyOf Try.f132) (cuts_of _ _ _ _ _ _ _ _ (bodyOf Try.f132) (l := [(1000002, sp132_1000002, cd132_1000002), (1000005, sp132_1000005, cd132_1000005)]) (by kernel_rfl) ⟨l132_1000002 k K, l132_1000005 k K, trivial⟩)]
    kernel_rfl
noncomputable def s132 (k : Nat) (a : List PV) (r : List RowS) (K : List PV → List RowS → Option R) : Option R :=
  onShape [.nils, .val [] (.int .i64)] [] (fun v => f132 k v.1.2.1 (fun z0 => K [.rw 1] [⟨0, .arr [] (.prod (.int .i64) (.prod (.int .i64) .unit)) z0⟩])) (callC T F k 132 a r K) a r
theorem s132_eq (k : Nat) (a : List PV) (r : List RowS) (K : List PV → List RowS → Option R) : s132 k a r K = callC T F k 132 a r K := by
  unfold s132
  exact onShape_eq (a := [.nils, .val [] (.int .i64)]) (b := []) (G := fun a r => callC T F k 132 a r K) (fun x y => Eq.trans (by kernel_rfl) (Eq.trans (e132 k x.2.1 K).symm (by kernel_rfl))) a r
end
section
variable {R : Type}
noncomputable def S114 (k g : Nat) (a : List PV) (r : List RowS) (K : List PV → List RowS → Option R) : Option R := bif g == 132 then s132 k a r K else callC T F k g a r K
theorem S114_eq (k : Nat) : S114 (R := R) k = callC T F k := by
  funext g a r K
  exact pick_eq (fun e => by subst e; exact s132_eq k a r K) (rfl)
section
variable {R : Type} (k : Nat) (K : List PV → List RowS → Option R)
noncomputable def L114_1000007 (ws : List PV) (rs : List RowS) (N : St → Option R) (X : Nat → St → Option R) : Option R :=
  onShape [.val [(0, 0)] (.slice (.slice (.prod (.int .i64) (.prod (.int .i64) .unit)))), .val [] (.int .i64), .val [(0, 0)] (.slice (.slice (.prod (.int .i64) (.prod (.int .i64) .unit)))), .val [] (.int .i64), .val [] (.int .i64), .val [] .bool] [] (fun v => f114_1000007 k (N (sh fi114_7 [.val [(0, 0)] (.slice (.slice (.prod (.int .i64) (.prod (.int .i64) .unit)))) v.1.1, .val [] (.int .i64) v.1.2.1, .val [(0, 0)] (.slice (.slice (.prod (.int .i64) (.prod (.int .i64) .unit)))) v.1.2.2.1, .val [] (.int .i64) v.1.2.2.2.1, .val [] (.int .i64) v.1.2.2.2.2.1] [])) v.1.1 v.1.2.1 v.1.2.2.1 v.1.2.2.2.1 v.1.2.2.2.2.1 v.1.2.2.2.2.2.1) (inner T an114 (modesOf F) 0 k 36 (S114 k) (ending T Try.f114 an114 0 K) cd114_1000007 (sh sp114_1000007 ws rs) N X) ws rs
noncomputable def L114_0 (ws : List PV) (rs : List RowS) (N : St → Option R) (X : Nat → St → Option R) : Option R :=
  onShape [.val [(0, 0)] (.slice (.slice (.prod (.int .i64) (.prod (.int .i64) .unit)))), .val [] (.int .i64), .val [(0, 0)] (.slice (.slice (.prod (.int .i64) (.prod (.int .i64) .unit)))), .val [] (.int .i64), .val [] (.int .i64)] [] (fun v => f114_0 k (fun y0_1 => N (sh jn114_0 [.val [(0, 0)] (.slice (.slice (.prod (.int .i64) (.prod (.int .i64) .unit)))) v.1.1, .val [] (.int .i64) y0_1] [])) v.1.1 v.1.2.2.1 v.1.2.2.2.1 k v.1.2.1 v.1.2.2.2.2.1) (inner T an114 (modesOf F) 0 k 36 (S114 k) (ending T Try.f114 an114 0 K) cd114_0 (sh sp114_0 ws rs) N X) ws rs
noncomputable def L114_2 (ws : List PV) (rs : List RowS) (N : St → Option R) (X : Nat → St → Option R) : Option R :=
  onShape [.rw 1, .val [(0, 0)] (.slice (.slice (.prod (.int .i64) (.prod (.int .i64) .unit)))), .val [] (.int .i64), .val [] (.int .i64)] [.arr [] (.prod (.int .i64) (.prod (.int .i64) .unit))] (fun v => f114_2 k (fun y2_0 => N (sh jn114_2 [.rw 1] [⟨0, .arr [] (.prod (.int .i64) (.prod (.int .i64) .unit)) y2_0⟩])) v.1.2.1 v.1.2.2.1 k v.1.2.2.2.1 v.2.1) (inner T an114 (modesOf F) 0 k 36 (S114 k) (ending T Try.f114 an114 0 K) cd114_2 (sh sp114_2 ws rs) N X) ws rs
noncomputable def L114 (id : Nat) (ws : List PV) (rs : List RowS) (N : St → Option R) (X : Nat → St → Option R) : Option R := bif id == 1000007 then L114_1000007 k K ws rs N X else bif id == 0 then L114_0 k K ws rs N X else bif id == 2 then L114_2 k K ws rs N X else none
theorem l114_1000007 (ws : List PV) (rs : List RowS) (N : St → Option R) (X : Nat → St → Option R) : L114 k K 1000007 ws rs N X = inner T an114 (modesOf F) 0 k 36 (S114 k) (ending T Try.f114 an114 0 K) cd114_1000007 (sh sp114_1000007 ws rs) N X := by
  show L114_1000007 k K ws rs N X = _
  unfold L114_1000007
  rw [f114_1000007_def]
  exact onShape_eq (a := [.val [(0, 0)] (.slice (.slice (.prod (.int .i64) (.prod (.int .i64) .unit)))), .val [] (.int .i64), .val [(0, 0)] (.slice (.slice (.prod (.int .i64) (.prod (.int .i64) .unit)))), .val [] (.int .i64), .val [] (.int .i64), .val [] .bool]) (b := []) (G := fun ws rs => inner T an114 (modesOf F) 0 k 36 (S114 k) (ending T Try.f114 an114 0 K) cd114_1000007 (sh sp114_1000007 ws rs) N X) (fun x y => Eq.trans (by kernel_rfl) (innerS_eq T an114 (modesOf F) 0 k 36 (S114 k) (L114 k K) cd114_1000007 (l := []) (by kernel_rfl) trivial _ N X)) ws rs
theorem b114_0 (rec : St → Option R) (N : St → Option R) (X : Nat → St → Option R) (v0_0 : List (List ((Int × (Int × Unit))))) (v0_2 : List (List ((Int × (Int × Unit))))) (v0_3 : Int) (v0_1 : Int) (v0_4 : Int) :
    execS T an114 (modesOf F) 0 k 36 (S114 k) (L114 k K) (ending T Try.f114 an114 0 K) bd114_0 (sh sp114_0 [.val [(0, 0)] (.slice (.slice (.prod (.int .i64) (.prod (.int .i64) .unit)))) v0_0, .val [] (.int .i64) v0_1, .val [(0, 0)] (.slice (.slice (.prod (.int .i64) (.prod (.int .i64) .unit)))) v0_2, .val [] (.int .i64) v0_3, .val [] (.int .i64) v0_4] []) (fun st => atHead an114 0 bd114_0 st rec) (outX an114 0 0 N X) =
      f114_0b k (fun v0_1 v0_4 => rec (sh sp114_0 [.val [(0, 0)] (.slice (.slice (.prod (.int .i64) (.prod (.int .i64) .unit)))) v0_0, .val [] (.int .i64) v0_1, .val [(0, 0)] (.slice (.slice (.prod (.int .i64) (.prod (.int .i64) .unit)))) v0_2, .val [] (.int .i64) v0_3, .val [] (.int .i64) v0_4] [])) (fun y0_1 => N (sh jn114_0 [.val [(0, 0)] (.slice (.slice (.prod (.int .i64) (.prod (.int .i64) .unit)))) v0_0, .val [] (.int .i64) y0_1] [])) v0_0 v0_2 v0_3 v0_1 v0_4 := by kernel_rfl
theorem i114_0 (N : St → Option R) (X : Nat → St → Option R) (v0_0 : List (List ((Int × (Int × Unit))))) (v0_2 : List (List ((Int × (Int × Unit))))) (v0_3 : Int) (m : Nat) : ∀ (v0_1 : Int) (v0_4 : Int),
    iter (atHead an114 0 bd114_0) m (fun st N' => exec T an114 (modesOf F) 0 k 36 (S114 k) (ending T Try.f114 an114 0 K) bd114_0 st N' (outX an114 0 0 N X)) (sh sp114_0 [.val [(0, 0)] (.slice (.slice (.prod (.int .i64) (.prod (.int .i64) .unit)))) v0_0, .val [] (.int .i64) v0_1, .val [(0, 0)] (.slice (.slice (.prod (.int .i64) (.prod (.int .i64) .unit)))) v0_2, .val [] (.int .i64) v0_3, .val [] (.int .i64) v0_4] []) = f114_0d k (fun y0_1 => N (sh jn114_0 [.val [(0, 0)] (.slice (.slice (.prod (.int .i64) (.prod (.int .i64) .unit)))) v0_0, .val [] (.int .i64) y0_1] [])) v0_0 v0_2 v0_3 m v0_1 v0_4 := by
  induction m with
  | zero => intros; rfl
  | succ m ih =>
    intro v0_1 v0_4
    simp only [iter]
    rw [← execS_eq T an114 (modesOf F) 0 k 36 (S114 k) (L114 k K) bd114_0 (cuts_of _ _ _ _ _ _ _ _ bd114_0 (l := [(1000007, sp114_1000007, cd114_1000007)]) (by kernel_rfl) ⟨l114_1000007 k K, trivial⟩)]
    refine (b114_0 k K _ N X v0_0 v0_2 v0_3 v0_1 v0_4).trans ?_
    simp only [f114_0d, ih]
theorem l114_0 (ws : List PV) (rs : List RowS) (N : St → Option R) (X : Nat → St → Option R) : L114 k K 0 ws rs N X = inner T an114 (modesOf F) 0 k 36 (S114 k) (ending T Try.f114 an114 0 K) cd114_0 (sh sp114_0 ws rs) N X := by
  show L114_0 k K ws rs N X = _
  unfold L114_0
  rw [f114_0_def]
  exact onShape_eq (a := [.val [(0, 0)] (.slice (.slice (.prod (.int .i64) (.prod (.int .i64) .unit)))), .val [] (.int .i64), .val [(0, 0)] (.slice (.slice (.prod (.int .i64) (.prod (.int .i64) .unit)))), .val [] (.int .i64), .val [] (.int .i64)]) (b := []) (G := fun ws rs => inner T an114 (modesOf F) 0 k 36 (S114 k) (ending T Try.f114 an114 0 K) cd114_0 (sh sp114_0 ws rs) N X) (fun x y => Eq.trans (by kernel_rfl) (Eq.trans (i114_0 k K N X x.1 x.2.2.1 x.2.2.2.1 k x.2.1 x.2.2.2.2.1).symm (by kernel_rfl))) ws rs
theorem b114_2 (rec : St → Option R) (N : St → Option R) (X : Nat → St → Option R) (v2_0 : List (List ((Int × (Int × Unit))))) (v2_1 : Int) (v2_2 : Int) (v2_3 : List (Int × (Int × Unit))) :
    execS T an114 (modesOf F) 0 k 36 (S114 k) (L114 k K) (ending T Try.f114 an114 0 K) bd114_2 (sh sp114_2 [.rw 1, .val [(0, 0)] (.slice (.slice (.prod (.int .i64) (.prod (.int .i64) .unit)))) v2_0, .val [] (.int .i64) v2_1, .val [] (.int .i64) v2_2] [⟨0, .arr [] (.prod (.int .i64) (.prod (.int .i64) .unit)) v2_3⟩]) (fun st => atHead an114 0 bd114_2 st rec) (outX an114 0 2 N X) =
      f114_2b k (fun v2_2 v2_3 => rec (sh sp114_2 [.rw 1, .val [(0, 0)] (.slice (.slice (.prod (.int .i64) (.prod (.int .i64) .unit)))) v2_0, .val [] (.int .i64) v2_1, .val [] (.int .i64) v2_2] [⟨0, .arr [] (.prod (.int .i64) (.prod (.int .i64) .unit)) v2_3⟩])) (fun y2_0 => N (sh jn114_2 [.rw 1] [⟨0, .arr [] (.prod (.int .i64) (.prod (.int .i64) .unit)) y2_0⟩])) v2_0 v2_1 v2_2 v2_3 := by kernel_rfl
theorem i114_2 (N : St → Option R) (X : Nat → St → Option R) (v2_0 : List (List ((Int × (Int × Unit))))) (v2_1 : Int) (m : Nat) : ∀ (v2_2 : Int) (v2_3 : List (Int × (Int × Unit))),
    iter (atHead an114 0 bd114_2) m (fun st N' => exec T an114 (modesOf F) 0 k 36 (S114 k) (ending T Try.f114 an114 0 K) bd114_2 st N' (outX an114 0 2 N X)) (sh sp114_2 [.rw 1, .val [(0, 0)] (.slice (.slice (.prod (.int .i64) (.prod (.int .i64) .unit)))) v2_0, .val [] (.int .i64) v2_1, .val [] (.int .i64) v2_2] [⟨0, .arr [] (.prod (.int .i64) (.prod (.int .i64) .unit)) v2_3⟩]) = f114_2d k (fun y2_0 => N (sh jn114_2 [.rw 1] [⟨0, .arr [] (.prod (.int .i64) (.prod (.int .i64) .unit)) y2_0⟩])) v2_0 v2_1 m v2_2 v2_3 := by
  induction m with
  | zero => intros; rfl
  | succ m ih =>
    intro v2_2 v2_3
    simp only [iter]
    rw [← execS_eq T an114 (modesOf F) 0 k 36 (S114 k) (L114 k K) bd114_2 (cuts_of _ _ _ _ _ _ _ _ bd114_2 (l := []) (by kernel_rfl) trivial)]
    refine (b114_2 k K _ N X v2_0 v2_1 v2_2 v2_3).trans ?_
    simp only [f114_2d, ih]
theorem l114_2 (ws : List PV) (rs : List RowS) (N : St → Option R) (X : Nat → St → Option R) : L114 k K 2 ws rs N X = inner T an114 (modesOf F) 0 k 36 (S114 k) (ending T Try.f114 an114 0 K) cd114_2 (sh sp114_2 ws rs) N X := by
  show L114_2 k K ws rs N X = _
  unfold L114_2
  rw [f114_2_def]
  exact onShape_eq (a := [.rw 1, .val [(0, 0)] (.slice (.slice (.prod (.int .i64) (.prod (.int .i64) .unit)))), .val [] (.int .i64), .val [] (.int .i64)]) (b := [.arr [] (.prod (.int .i64) (.prod (.int .i64) .unit))]) (G := fun ws rs => inner T an114 (modesOf F) 0 k 36 (S114 k) (ending T Try.f114 an114 0 K) cd114_2 (sh sp114_2 ws rs) N X) (fun x y => Eq.trans (by kernel_rfl) (Eq.trans (i114_2 k K N X x.2.1 x.2.2.1 k x.2.2.2.1 y.1).symm (by kernel_rfl))) ws rs
end
theorem e114 (k : Nat) (a0 : List (List ((Int × (Int × Unit))))) (K : List PV → List RowS → Option R) : callC T F k 114 [.val [(0, 0)] (.slice (.slice (.prod (.int .i64) (.prod (.int .i64) .unit)))) a0] [] K = f114 k a0 (fun z0 => K [.rw 1] [⟨0, .arr [] (.prod (.int .i64) (.prod (.int .i64) .unit)) z0⟩]) := by
  rw [f114_def]
  cases k with
  | zero => rfl
  | succ k =>
    refine Eq.trans (show _ = exec T an114 (modesOf F) 0 k 36 (callC T F k) (ending T Try.f114 an114 0 K) (bodyOf Try.f114) ⟨argEnv 0 [.val [(0, 0)] (.slice (.slice (.prod (.int .i64) (.prod (.int .i64) .unit)))) a0] (fun _ => none), rowsOf []⟩ (ending T Try.f114 an114 0 K) (fun _ _ => none) from by kernel_rfl) ?_
    rw [← S114_eq k, ← execS_eq T an114 (modesOf F) 0 k 36 (S114 k) (L114 k K) (bodyOf Try.f114) (cuts_of _ _ _ _ _ _ _ _ (bodyOf Try.f114) (l := [(0, sp114_0, cd114_0), (2, sp114_2, cd114_2)]) (by kernel_rfl) ⟨l114_0 k K, l114_2 k K, trivial⟩)]
    kernel_rfl
noncomputable def s114 (k : Nat) (a : List PV) (r : List RowS) (K : List PV → List RowS → Option R) : Option R :=
  onShape [.val [(0, 0)] (.slice (.slice (.prod (.int .i64) (.prod (.int .i64) .unit))))] [] (fun v => f114 k v.1.1 (fun z0 => K [.rw 1] [⟨0, .arr [] (.prod (.int .i64) (.prod (.int .i64) .unit)) z0⟩])) (callC T F k 114 a r K) a r
theorem s114_eq (k : Nat) (a : List PV) (r : List RowS) (K : List PV → List RowS → Option R) : s114 k a r K = callC T F k 114 a r K := by
  unfold s114
  exact onShape_eq (a := [.val [(0, 0)] (.slice (.slice (.prod (.int .i64) (.prod (.int .i64) .unit))))]) (b := []) (G := fun a r => callC T F k 114 a r K) (fun x y => Eq.trans (by kernel_rfl) (Eq.trans (e114 k x.1 K).symm (by kernel_rfl))) a r
end
section
variable {R : Type}
theorem e115 (k : Nat) (a0 : List (Int × (Int × Unit))) (K : List PV → List RowS → Option R) : callC T F k 115 [.rw 1, .fn 116 []] [⟨0, .arr [] (.prod (.int .i64) (.prod (.int .i64) .unit)) a0⟩] K = f115 k a0 (fun z0 => K [] [⟨0, .arr [] (.prod (.int .i64) (.prod (.int .i64) .unit)) z0⟩]) := by
  rw [f115_def]
  cases k with
  | zero => rfl
  | succ k => exact sort_call (m := [.any, .any]) (c := 116) (by kernel_rfl) a0 K
noncomputable def s115 (k : Nat) (a : List PV) (r : List RowS) (K : List PV → List RowS → Option R) : Option R :=
  onShape [.rw 1, .fn 116 []] [.arr [] (.prod (.int .i64) (.prod (.int .i64) .unit))] (fun v => f115 k v.2.1 (fun z0 => K [] [⟨0, .arr [] (.prod (.int .i64) (.prod (.int .i64) .unit)) z0⟩])) (callC T F k 115 a r K) a r
theorem s115_eq (k : Nat) (a : List PV) (r : List RowS) (K : List PV → List RowS → Option R) : s115 k a r K = callC T F k 115 a r K := by
  unfold s115
  exact onShape_eq (a := [.rw 1, .fn 116 []]) (b := [.arr [] (.prod (.int .i64) (.prod (.int .i64) .unit))]) (G := fun a r => callC T F k 115 a r K) (fun x y => Eq.trans (by kernel_rfl) (Eq.trans (e115 k y.1 K).symm (by kernel_rfl))) a r
end
section
variable {R : Type}
noncomputable def S86 (k g : Nat) (a : List PV) (r : List RowS) (K : List PV → List RowS → Option R) : Option R := bif g == 114 then s114 k a r K else bif g == 115 then s115 k a r K else callC T F k g a r K
theorem S86_eq (k : Nat) : S86 (R := R) k = callC T F k := by
  funext g a r K
  exact pick_eq (fun e => by subst e; exact s114_eq k a r K) (pick_eq (fun e => by subst e; exact s115_eq k a r K) (rfl))
section
variable {R : Type} (k : Nat) (K : List PV → List RowS → Option R)
noncomputable def L86_1000009 (ws : List PV) (rs : List RowS) (N : St → Option R) (X : Nat → St → Option R) : Option R :=
  onShape [.rw 1, .ptr 2 0, .val [] (.int .i64), .rw 3, .val [] (.int .i64), .val [] (.int .i64), .val [] .bool] [.arr [] (.prod (.int .i64) (.prod (.int .i64) .unit)), .vars [.val [] (.int .i64), .val [] (.int .i64)], .arr [] (.prod (.int .i64) (.prod (.int .i64) .unit))] (fun v => f86_1000009 k (fun yN_2 => N (sh fi86_9 [.rw 1, .rw 2, .val [] (.int .i64) v.1.2.2.2.2.1, .val [] (.int .i64) v.1.2.2.2.2.2.1] [⟨0, .arr [] (.prod (.int .i64) (.prod (.int .i64) .unit)) yN_2⟩, ⟨0, .arr [] (.prod (.int .i64) (.prod (.int .i64) .unit)) v.2.2.2.1⟩])) v.1.2.2.1 v.1.2.2.2.2.1 v.1.2.2.2.2.2.1 v.1.2.2.2.2.2.2.1 v.2.1 v.2.2.1.1 v.2.2.1.2.1 v.2.2.2.1) (inner T an86 (modesOf F) 0 k 57 (S86 k) (ending T Try.f86 an86 0 K) cd86_1000009 (sh sp86_1000009 ws rs) N X) ws rs
noncomputable def L86_0 (ws : List PV) (rs : List RowS) (N : St → Option R) (X : Nat → St → Option R) : Option R :=
  onShape [.rw 1, .rw 2, .val [] (.int .i64), .val [] (.int .i64)] [.arr [] (.prod (.int .i64) (.prod (.int .i64) .unit)), .arr [] (.prod (.int .i64) (.prod (.int .i64) .unit))] (fun v => f86_0 k (fun y0_0 => N (sh jn86_0 [.rw 1] [⟨0, .arr [] (.prod (.int .i64) (.prod (.int .i64) .unit)) y0_0⟩])) v.1.2.2.1 v.2.2.1 k v.1.2.2.2.1 v.2.1) (inner T an86 (modesOf F) 0 k 57 (S86 k) (ending T Try.f86 an86 0 K) cd86_0 (sh sp86_0 ws rs) N X) ws rs
noncomputable def L86 (id : Nat) (ws : List PV) (rs : List RowS) (N : St → Option R) (X : Nat → St → Option R) : Option R := bif id == 1000009 then L86_1000009 k K ws rs N X else bif id == 0 then L86_0 k K ws rs N X else none
theorem l86_1000009 (ws : List PV) (rs : List RowS) (N : St → Option R) (X : Nat → St → Option R) : L86 k K 1000009 ws rs N X = inner T an86 (modesOf F) 0 k 57 (S86 k) (ending T Try.f86 an86 0 K) cd86_1000009 (sh sp86_1000009 ws rs) N X := by
  show L86_1000009 k K ws rs N X = _
  unfold L86_1000009
  rw [f86_1000009_def]
  exact onShape_eq (a := [.rw 1, .ptr 2 0, .val [] (.int .i64), .rw 3, .val [] (.int .i64), .val [] (.int .i64), .val [] .bool]) (b := [.arr [] (.prod (.int .i64) (.prod (.int .i64) .unit)), .vars [.val [] (.int .i64), .val [] (.int .i64)], .arr [] (.prod (.int .i64) (.prod (.int .i64) .unit))]) (G := fun ws rs => inner T an86 (modesOf F) 0 k 57 (S86 k) (ending T Try.f86 an86 0 K) cd86_1000009 (sh sp86_1000009 ws rs) N X) (fun x y => Eq.trans (by kernel_rfl) (innerS_eq T an86 (modesOf F) 0 k 57 (S86 k) (L86 k K) cd86_1000009 (l := []) (by kernel_rfl) trivial _ N X)) ws rs
theorem b86_0 (rec : St → Option R) (N : St → Option R) (X : Nat → St → Option R) (v0_0 : Int) (v0_3 : List (Int × (Int × Unit))) (v0_1 : Int) (v0_2 : List (Int × (Int × Unit))) :
    execS T an86 (modesOf F) 0 k 57 (S86 k) (L86 k K) (ending T Try.f86 an86 0 K) bd86_0 (sh sp86_0 [.rw 1, .rw 2, .val [] (.int .i64) v0_0, .val [] (.int .i64) v0_1] [⟨0, .arr [] (.prod (.int .i64) (.prod (.int .i64) .unit)) v0_2⟩, ⟨0, .arr [] (.prod (.int .i64) (.prod (.int .i64) .unit)) v0_3⟩]) (fun st => atHead an86 0 bd86_0 st rec) (outX an86 0 0 N X) =
      f86_0b k (fun v0_1 v0_2 => rec (sh sp86_0 [.rw 1, .rw 2, .val [] (.int .i64) v0_0, .val [] (.int .i64) v0_1] [⟨0, .arr [] (.prod (.int .i64) (.prod (.int .i64) .unit)) v0_2⟩, ⟨0, .arr [] (.prod (.int .i64) (.prod (.int .i64) .unit)) v0_3⟩])) (fun y0_0 => N (sh jn86_0 [.rw 1] [⟨0, .arr [] (.prod (.int .i64) (.prod (.int .i64) .unit)) y0_0⟩])) v0_0 v0_3 v0_1 v0_2 := by kernel_rfl
theorem i86_0 (N : St → Option R) (X : Nat → St → Option R) (v0_0 : Int) (v0_3 : List (Int × (Int × Unit))) (m : Nat) : ∀ (v0_1 : Int) (v0_2 : List (Int × (Int × Unit))),
    iter (atHead an86 0 bd86_0) m (fun st N' => exec T an86 (modesOf F) 0 k 57 (S86 k) (ending T Try.f86 an86 0 K) bd86_0 st N' (outX an86 0 0 N X)) (sh sp86_0 [.rw 1, .rw 2, .val [] (.int .i64) v0_0, .val [] (.int .i64) v0_1] [⟨0, .arr [] (.prod (.int .i64) (.prod (.int .i64) .unit)) v0_2⟩, ⟨0, .arr [] (.prod (.int .i64) (.prod (.int .i64) .unit)) v0_3⟩]) = f86_0d k (fun y0_0 => N (sh jn86_0 [.rw 1] [⟨0, .arr [] (.prod (.int .i64) (.prod (.int .i64) .unit)) y0_0⟩])) v0_0 v0_3 m v0_1 v0_2 := by
  induction m with
  | zero => intros; rfl
  | succ m ih =>
    intro v0_1 v0_2
    simp only [iter]
    rw [← execS_eq T an86 (modesOf F) 0 k 57 (S86 k) (L86 k K) bd86_0 (cuts_of _ _ _ _ _ _ _ _ bd86_0 (l := [(1000009, sp86_1000009, cd86_1000009)]) (by kernel_rfl) ⟨l86_1000009 k K, trivial⟩)]
    refine (b86_0 k K _ N X v0_0 v0_3 v0_1 v0_2).trans ?_
    simp only [f86_0d, ih]
theorem l86_0 (ws : List PV) (rs : List RowS) (N : St → Option R) (X : Nat → St → Option R) : L86 k K 0 ws rs N X = inner T an86 (modesOf F) 0 k 57 (S86 k) (ending T Try.f86 an86 0 K) cd86_0 (sh sp86_0 ws rs) N X := by
  show L86_0 k K ws rs N X = _
  unfold L86_0
  rw [f86_0_def]
  exact onShape_eq (a := [.rw 1, .rw 2, .val [] (.int .i64), .val [] (.int .i64)]) (b := [.arr [] (.prod (.int .i64) (.prod (.int .i64) .unit)), .arr [] (.prod (.int .i64) (.prod (.int .i64) .unit))]) (G := fun ws rs => inner T an86 (modesOf F) 0 k 57 (S86 k) (ending T Try.f86 an86 0 K) cd86_0 (sh sp86_0 ws rs) N X) (fun x y => Eq.trans (by kernel_rfl) (Eq.trans (i86_0 k K N X x.2.2.1 y.2.1 k x.2.2.2.1 y.1).symm (by kernel_rfl))) ws rs
end
theorem e86 (k : Nat) (a0 : List ((Int × (Int × Unit)))) (a1 : List ((Int × (Int × Unit)))) (K : List PV → List RowS → Option R) : callC T F k 86 [.val [(0, 0)] (.slice (.prod (.int .i64) (.prod (.int .i64) .unit))) a0, .val [(0, 0)] (.slice (.prod (.int .i64) (.prod (.int .i64) .unit))) a1] [] K = f86 k a0 a1 (fun z0 => K [.rw 1] [⟨0, .arr [] (.prod (.int .i64) (.prod (.int .i64) .unit)) z0⟩]) := by
  rw [f86_def]
  cases k with
  | zero => rfl
  | succ k =>
    refine Eq.trans (show _ = exec T an86 (modesOf F) 0 k 57 (callC T F k) (ending T Try.f86 an86 0 K) (bodyOf Try.f86) ⟨argEnv 0 [.val [(0, 0)] (.slice (.prod (.int .i64) (.prod (.int .i64) .unit))) a0, .val [(0, 0)] (.slice (.prod (.int .i64) (.prod (.int .i64) .unit))) a1] (fun _ => none), rowsOf []⟩ (ending T Try.f86 an86 0 K) (fun _ _ => none) from by kernel_rfl) ?_
    rw [← S86_eq k, ← execS_eq T an86 (modesOf F) 0 k 57 (S86 k) (L86 k K) (bodyOf Try.f86) (cuts_of _ _ _ _ _ _ _ _ (bodyOf Try.f86) (l := [(0, sp86_0, cd86_0)]) (by kernel_rfl) ⟨l86_0 k K, trivial⟩)]
    kernel_rfl
noncomputable def s86 (k : Nat) (a : List PV) (r : List RowS) (K : List PV → List RowS → Option R) : Option R :=
  onShape [.val [(0, 0)] (.slice (.prod (.int .i64) (.prod (.int .i64) .unit))), .val [(0, 0)] (.slice (.prod (.int .i64) (.prod (.int .i64) .unit)))] [] (fun v => f86 k v.1.1 v.1.2.1 (fun z0 => K [.rw 1] [⟨0, .arr [] (.prod (.int .i64) (.prod (.int .i64) .unit)) z0⟩])) (callC T F k 86 a r K) a r
theorem s86_eq (k : Nat) (a : List PV) (r : List RowS) (K : List PV → List RowS → Option R) : s86 k a r K = callC T F k 86 a r K := by
  unfold s86
  exact onShape_eq (a := [.val [(0, 0)] (.slice (.prod (.int .i64) (.prod (.int .i64) .unit))), .val [(0, 0)] (.slice (.prod (.int .i64) (.prod (.int .i64) .unit)))]) (b := []) (G := fun a r => callC T F k 86 a r K) (fun x y => Eq.trans (by kernel_rfl) (Eq.trans (e86 k x.1 x.2.1 K).symm (by kernel_rfl))) a r
end
section
variable {R : Type}
noncomputable def S131 (k g : Nat) (a : List PV) (r : List RowS) (K : List PV → List RowS → Option R) : Option R := bif g == 104 then s104 k a r K else bif g == 114 then s114 k a r K else callC T F k g a r K
theorem S131_eq (k : Nat) : S131 (R := R) k = callC T F k := by
  funext g a r K
  exact pick_eq (fun e => by subst e; exact s104_eq k a r K) (pick_eq (fun e => by subst e; exact s114_eq k a r K) (rfl))
theorem e131 (k : Nat) (a0 : List ((Int × (Int × Unit)))) (a1 : Bool) (K : List PV → List RowS → Option R) : callC T F k 131 [.val [(0, 0)] (.slice (.prod (.int .i64) (.prod (.int .i64) .unit))) a0, .val [] .bool a1] [] K = f131 k a0 a1 (fun z0 => K [.val [(0, 0)] (.slice (.prod (.int .i64) (.prod (.int .i64) .unit))) z0] []) := by
  rw [f131_def]
  cases k with
  | zero => rfl
  | succ k =>
    refine Eq.trans (show _ = exec T an131 (modesOf F) 0 k 12 (callC T F k) (ending T Try.f131 an131 0 K) (bodyOf Try.f131) ⟨argEnv 0 [.val [(0, 0)] (.slice (.prod (.int .i64) (.prod (.int .i64) .unit))) a0, .val [] .bool a1] (fun _ => none), rowsOf []⟩ (ending T Try.f131 an131 0 K) (fun _ _ => none) from by kernel_rfl) ?_
    rw [← S131_eq k, ← execS_eq T an131 (modesOf F) 0 k 12 (S131 k) (fun _ _ _ _ _ => none) (bodyOf Try.f131) (cuts_of _ _ _ _ _ _ _ _ (bodyOf Try.f131) (l := []) (by kernel_rfl) trivial)]
    kernel_rfl
noncomputable def s131 (k : Nat) (a : List PV) (r : List RowS) (K : List PV → List RowS → Option R) : Option R :=
  onShape [.val [(0, 0)] (.slice (.prod (.int .i64) (.prod (.int .i64) .unit))), .val [] .bool] [] (fun v => f131 k v.1.1 v.1.2.1 (fun z0 => K [.val [(0, 0)] (.slice (.prod (.int .i64) (.prod (.int .i64) .unit))) z0] [])) (callC T F k 131 a r K) a r
theorem s131_eq (k : Nat) (a : List PV) (r : List RowS) (K : List PV → List RowS → Option R) : s131 k a r K = callC T F k 131 a r K := by
  unfold s131
  exact onShape_eq (a := [.val [(0, 0)] (.slice (.prod (.int .i64) (.prod (.int .i64) .unit))), .val [] .bool]) (b := []) (G := fun a r => callC T F k 131 a r K) (fun x y => Eq.trans (by kernel_rfl) (Eq.trans (e131 k x.1 x.2.1 K).symm (by kernel_rfl))) a r
end
section
variable {R : Type}
noncomputable def S117 (k g : Nat) (a : List PV) (r : List RowS) (K : List PV → List RowS → Option R) : Option R := bif g == 71 then s71 k a r K else bif g == 86 then s86 k a r K else bif g == 131 then s131 k a r K else callC T F k g a r K
theorem S117_eq (k : Nat) : S117 (R := R) k = callC T F k := by
  funext g a r K
  exact pick_eq (fun e => by subst e; exact s71_eq k a r K) (pick_eq (fun e => by subst e; exact s86_eq k a r K) (pick_eq (fun e => by subst e; exact s131_eq k a r K) (rfl)))
section
variable {R : Type} (k : Nat) (K : List PV → List RowS → Option R)
noncomputable def L117_1000008 (ws : List PV) (rs : List RowS) (N : St → Option R) (X : Nat → St → Option R) : Option R :=
  onShape [.ptr 1 0, .ptr 2 0, .val [] .bool, .val [(0, 0)] (.slice (.prod (.int .i64) (.prod (.int .i64) .unit))), .val [] .bool, .rw 3, .ptr 4 0, .val [(0, 0)] (.slice (.prod (.int .i64) (.prod (.int .i64) .unit))), .val [] (.int .i64), .val [] (.int .i64), .val [] .bool] [.vars [.val [] (.int .i64), .val [] (.int .i64), .val [] .str, .val [(0, 0)] (.slice (.int .u8)), .val [] (.int .i64), .val [(0, 0)] (.slice (.prod (.int .i64) (.prod (.int .i64) .unit))), .val [] (.int .i64), .val [] (.int .i64)], .vars [.val [] (.int .i64), .val [] (.int .i64), .val [] .str, .nils, .val [] (.int .i64), .nils, .val [] (.int .i64), .val [] (.int .i64)], .arr [] (.prod (.int .i64) (.prod (.int .i64) .unit)), .vars [.val [] (.int .i64), .val [] (.int .i64)]] (fun v => f117_1000008 k (fun yN_20 => N (sh fi117_8 [.ptr 1 0, .ptr 2 0, .val [] .bool v.1.2.2.1, .val [(0, 0)] (.slice (.prod (.int .i64) (.prod (.int .i64) .unit))) v.1.2.2.2.1, .val [] .bool v.1.2.2.2.2.1, .rw 3, .val [(0, 0)] (.slice (.prod (.int .i64) (.prod (.int .i64) .unit))) v.1.2.2.2.2.2.2.2.1, .val [] (.int .i64) v.1.2.2.2.2.2.2.2.2.1, .val [] (.int .i64) v.1.2.2.2.2.2.2.2.2.2.1] [⟨0, .vars [.val [] (.int .i64) v.2.1.1, .val [] (.int .i64) v.2.1.2.1, .val [] .str v.2.1.2.2.1, .val [(0, 0)] (.slice (.int .u8)) v.2.1.2.2.2.1, .val [] (.int .i64) v.2.1.2.2.2.2.1, .val [(0, 0)] (.slice (.prod (.int .i64) (.prod (.int .i64) .unit))) v.2.1.2.2.2.2.2.1, .val [] (.int .i64) v.2.1.2.2.2.2.2.2.1, .val [] (.int .i64) v.2.1.2.2.2.2.2.2.2.1]⟩, ⟨0, .vars [.val [] (.int .i64) v.2.2.1.1, .val [] (.int .i64) v.2.2.1.2.1, .val [] .str v.2.2.1.2.2.1, .nils, .val [] (.int .i64) v.2.2.1.2.2.2.2.1, .nils, .val [] (.int .i64) v.2.2.1.2.2.2.2.2.2.1, .val [] (.int .i64) v.2.2.1.2.2.2.2.2.2.2.1]⟩, ⟨0, .arr [] (.prod (.int .i64) (.prod (.int .i64) .unit)) yN_20⟩])) v.1.2.2.1 v.1.2.2.2.1 v.1.2.2.2.2.1 v.1.2.2.2.2.2.2.2.1 v.1.2.2.2.2.2.2.2.2.1 v.1.2.2.2.2.2.2.2.2.2.1 v.1.2.2.2.2.2.2.2.2.2.2.1 v.2.1.1 v.2.1.2.1 v.2.1.2.2.1 v.2.1.2.2.2.1 v.2.1.2.2.2.2.1 v.2.1.2.2.2.2.2.1 v.2.1.2.2.2.2.2.2.1 v.2.1.2.2.2.2.2.2.2.1 v.2.2.1.1 v.2.2.1.2.1 v.2.2.1.2.2.1 v.2.2.1.2.2.2.2.1 v.2.2.1.2.2.2.2.2.2.1 v.2.2.1.2.2.2.2.2.2.2.1 v.2.2.2.1 v.2.2.2.2.1.1 v.2.2.2.2.1.2.1) (inner T an117 (modesOf F) 0 k 67 (S117 k) (ending T Try.f117 an117 0 K) cd117_1000008 (sh sp117_1000008 ws rs) N X) ws rs
noncomputable def L117_0 (ws : List PV) (rs : List RowS) (N : St → Option R) (X : Nat → St → Option R) : Option R :=
  onShape [.ptr 1 0, .ptr 2 0, .val [] .bool, .val [(0, 0)] (.slice (.prod (.int .i64) (.prod (.int .i64) .unit))), .val [] .bool, .rw 3, .val [(0, 0)] (.slice (.prod (.int .i64) (.prod (.int .i64) .unit))), .val [] (.int .i64), .val [] (.int .i64)] [.vars [.val [] (.int .i64), .val [] (.int .i64), .val [] .str, .val [(0, 0)] (.slice (.int .u8)), .val [] (.int .i64), .val [(0, 0)] (.slice (.prod (.int .i64) (.prod (.int .i64) .unit))), .val [] (.int .i64), .val [] (.int .i64)], .vars [.val [] (.int .i64), .val [] (.int .i64), .val [] .str, .nils, .val [] (.int .i64), .nils, .val [] (.int .i64), .val [] (.int .i64)], .arr [] (.prod (.int .i64) (.prod (.int .i64) .unit))] (fun v => f117_0 k (fun y0_17 => N (sh jn117_0 [.ptr 1 0, .ptr 2 0, .val [] .bool v.1.2.2.1, .val [(0, 0)] (.slice (.prod (.int .i64) (.prod (.int .i64) .unit))) v.1.2.2.2.1, .val [] .bool v.1.2.2.2.2.1, .rw 3] [⟨0, .vars [.val [] (.int .i64) v.2.1.1, .val [] (.int .i64) v.2.1.2.1, .val [] .str v.2.1.2.2.1, .val [(0, 0)] (.slice (.int .u8)) v.2.1.2.2.2.1, .val [] (.int .i64) v.2.1.2.2.2.2.1, .val [(0, 0)] (.slice (.prod (.int .i64) (.prod (.int .i64) .unit))) v.2.1.2.2.2.2.2.1, .val [] (.int .i64) v.2.1.2.2.2.2.2.2.1, .val [] (.int .i64) v.2.1.2.2.2.2.2.2.2.1]⟩, ⟨0, .vars [.val [] (.int .i64) v.2.2.1.1, .val [] (.int .i64) v.2.2.1.2.1, .val [] .str v.2.2.1.2.2.1, .nils, .val [] (.int .i64) v.2.2.1.2.2.2.2.1, .nils, .val [] (.int .i64) v.2.2.1.2.2.2.2.2.2.1, .val [] (.int .i64) v.2.2.1.2.2.2.2.2.2.2.1]⟩, ⟨0, .arr [] (.prod (.int .i64) (.prod (.int .i64) .unit)) y0_17⟩])) v.1.2.2.1 v.1.2.2.2.1 v.1.2.2.2.2.1 v.1.2.2.2.2.2.2.1 v.1.2.2.2.2.2.2.2.1 v.2.1.1 v.2.1.2.1 v.2.1.2.2.1 v.2.1.2.2.2.1 v.2.1.2.2.2.2.1 v.2.1.2.2.2.2.2.1 v.2.1.2.2.2.2.2.2.1 v.2.1.2.2.2.2.2.2.2.1 v.2.2.1.1 v.2.2.1.2.1 v.2.2.1.2.2.1 v.2.2.1.2.2.2.2.1 v.2.2.1.2.2.2.2.2.2.1 v.2.2.1.2.2.2.2.2.2.2.1 k v.1.2.2.2.2.2.2.2.2.1 v.2.2.2.1) (inner T an117 (modesOf F) 0 k 67 (S117 k) (ending T Try.f117 an117 0 K) cd117_0 (sh sp117_0 ws rs) N X) ws rs
noncomputable def L117_1000016 (ws : List PV) (rs : List RowS) (N : St → Option R) (X : Nat → St → Option R) : Option R :=
  onShape [.ptr 1 0, .ptr 2 0, .val [] .bool] [.vars [.val [] (.int .i64), .val [] (.int .i64), .val [] .str, .val [(0, 0)] (.slice (.int .u8)), .val [] (.int .i64), .val [(0, 0)] (.slice (.prod (.int .i64) (.prod (.int .i64) .unit))), .val [] (.int .i64), .val [] (.int .i64)], .vars [.val [] (.int .i64), .val [] (.int .i64), .val [] .str, .nils, .val [] (.int .i64), .nils, .val [] (.int .i64), .val [] (.int .i64)]] (fun v => f117_1000016 k (fun yN_0 yN_6 => N (sh fi117_16 [.ptr 1 0, .ptr 2 0] [⟨0, .vars [.val [] (.int .i64) yN_0, .val [] (.int .i64) v.2.1.2.1, .val [] .str v.2.1.2.2.1, .val [(0, 0)] (.slice (.int .u8)) v.2.1.2.2.2.1, .val [] (.int .i64) v.2.1.2.2.2.2.1, .val [(0, 0)] (.slice (.prod (.int .i64) (.prod (.int .i64) .unit))) v.2.1.2.2.2.2.2.1, .val [] (.int .i64) yN_6, .val [] (.int .i64) v.2.1.2.2.2.2.2.2.2.1]⟩, ⟨0, .vars [.val [] (.int .i64) v.2.2.1.1, .val [] (.int .i64) v.2.2.1.2.1, .val [] .str v.2.2.1.2.2.1, .nils, .val [] (.int .i64) v.2.2.1.2.2.2.2.1, .nils, .val [] (.int .i64) v.2.2.1.2.2.2.2.2.2.1, .val [] (.int .i64) v.2.2.1.2.2.2.2.2.2.2.1]⟩])) v.1.2.2.1 v.2.1.1 v.2.1.2.1 v.2.1.2.2.1 v.2.1.2.2.2.1 v.2.1.2.2.2.2.1 v.2.1.2.2.2.2.2.1 v.2.1.2.2.2.2.2.2.1 v.2.1.2.2.2.2.2.2.2.1 v.2.2.1.1 v.2.2.1.2.1 v.2.2.1.2.2.1 v.2.2.1.2.2.2.2.1 v.2.2.1.2.2.2.2.2.2.1 v.2.2.1.2.2.2.2.2.2.2.1) (inner T an117 (modesOf F) 0 k 67 (S117 k) (ending T Try.f117 an117 0 K) cd117_1000016 (sh sp117_1000016 ws rs) N X) ws rs
noncomputable def L117 (id : Nat) (ws : List PV) (rs : List RowS) (N : St → Option R) (X : Nat → St → Option R) : Option R := bif id == 1000008 then L117_1000008 k K ws rs N X else bif id == 0 then L117_0 k K ws rs N X else bif id == 1000016 then L117_1000016 k K ws rs N X else none
theorem l117_1000008 (ws : List PV) (rs : List RowS) (N : St → Option R) (X : Nat → St → Option R) : L117 k K 1000008 ws rs N X = inner T an117 (modesOf F) 0 k 67 (S117 k) (ending T Try.f117 an117 0 K) cd117_1000008 (sh sp117_1000008 ws rs) N X := by
  show L117_1000008 k K ws rs N X = _
  unfold L117_1000008
  rw [f117_1000008_def]
  exact onShape_eq (a := [.ptr 1 0, .ptr 2 0, .val [] .bool, .val [(0, 0)] (.slice (.prod (.int .i64) (.prod (.int .i64) .unit))), .val [] .bool, .rw 3, .ptr 4 0, .val [(0, 0)] (.slice (.prod (.int .i64) (.prod (.int .i64) .unit))), .val [] (.int .i64), .val [] (.int .i64), .val [] .bool]) (b := [.vars [.val [] (.int .i64), .val [] (.int .i64), .val [] .str, .val [(0, 0)] (.slice (.int .u8)), .val [] (.int .i64), .val [(0, 0)] (.slice (.prod (.int .i64) (.prod (.int .i64) .unit))), .val [] (.int .i64), .val [] (.int .i64)], .vars [.val [] (.int .i64), .val [] (.int .i64), .val [] .str, .nils, .val [] (.int .i64), .nils, .val [] (.int .i64), .val [] (.int .i64)], .arr [] (.prod (.int .i64) (.prod (.int .i64) .unit)), .vars [.val [] (.int .i64), .val [] (.int .i64)]]) (G := fun ws rs => inner T an117 (modesOf F) 0 k 67 (S117 k) (ending T Try.f117 an117 0 K) cd117_1000008 (sh sp117_1000008 ws rs) N X) (fun x y => Eq.trans (by kernel_rfl) (innerS_eq T an117 (modesOf F) 0 k 67 (S117 k) (L117 k K) cd117_1000008 (l := []) (by kernel_rfl) trivial _ N X)) ws rs
theorem b117_0 (rec : St → Option R) (N : St → Option R) (X : Nat → St → Option R) (v0_0 : Bool) (v0_1 : List ((Int × (Int × Unit)))) (v0_2 : Bool) (v0_3 : List ((Int × (Int × Unit)))) (v0_4 : Int) (v0_6 : Int) (v0_7 : Int) (v0_8 : ByteArray) (v0_9 : List Int) (v0_10 : Int) (v0_11 : List ((Int × (Int × Unit)))) (v0_12 : Int) (v0_13 : Int) (v0_14 : Int) (v0_15 : Int) (v0_16 : ByteArray) (v0_17 : Int) (v0_18 : Int) (v0_19 : Int) (v0_5 : Int) (v0_20 : List (Int × (Int × Unit))) :
    execS T an117 (modesOf F) 0 k 67 (S117 k) (L117 k K) (ending T Try.f117 an117 0 K) bd117_0 (sh sp117_0 [.ptr 1 0, .ptr 2 0, .val [] .bool v0_0, .val [(0, 0)] (.slice (.prod (.int .i64) (.prod (.int .i64) .unit))) v0_1, .val [] .bool v0_2, .rw 3, .val [(0, 0)] (.slice (.prod (.int .i64) (.prod (.int .i64) .unit))) v0_3, .val [] (.int .i64) v0_4, .val [] (.int .i64) v0_5] [⟨0, .vars [.val [] (.int .i64) v0_6, .val [] (.int .i64) v0_7, .val [] .str v0_8, .val [(0, 0)] (.slice (.int .u8)) v0_9, .val [] (.int .i64) v0_10, .val [(0, 0)] (.slice (.prod (.int .i64) (.prod (.int .i64) .unit))) v0_11, .val [] (.int .i64) v0_12, .val [] (.int .i64) v0_13]⟩, ⟨0, .vars [.val [] (.int .i64) v0_14, .val [] (.int .i64) v0_15, .val [] .str v0_16, .nils, .val [] (.int .i64) v0_17, .nils, .val [] (.int .i64) v0_18, .val [] (.int .i64) v0_19]⟩, ⟨0, .arr [] (.prod (.int .i64) (.prod (.int .i64) .unit)) v0_20⟩]) (fun st => atHead an117 0 bd117_0 st rec) (outX an117 0 0 N X) =
      f117_0b k (fun v0_5 v0_20 => rec (sh sp117_0 [.ptr 1 0, .ptr 2 0, .val [] .bool v0_0, .val [(0, 0)] (.slice (.prod (.int .i64) (.prod (.int .i64) .unit))) v0_1, .val [] .bool v0_2, .rw 3, .val [(0, 0)] (.slice (.prod (.int .i64) (.prod (.int .i64) .unit))) v0_3, .val [] (.int .i64) v0_4, .val [] (.int .i64) v0_5] [⟨0, .vars [.val [] (.int .i64) v0_6, .val [] (.int .i64) v0_7, .val [] .str v0_8, .val [(0, 0)] (.slice (.int .u8)) v0_9, .val [] (.int .i64) v0_10, .val [(0, 0)] (.slice (.prod (.int .i64) (.prod (.int .i64) .unit))) v0_11, .val [] (.int .i64) v0_12, .val [] (.int .i64) v0_13]⟩, ⟨0, .vars [.val [] (.int .i64) v0_14, .val [] (.int .i64) v0_15, .val [] .str v0_16, .nils, .val [] (.int .i64) v0_17, .nils, .val [] (.int .i64) v0_18, .val [] (.int .i64) v0_19]⟩, ⟨0, .arr [] (.prod (.int .i64) (.prod (.int .i64) .unit)) v0_20⟩])) (fun y0_17 => N (sh jn117_0 [.ptr 1 0, .ptr 2 0, .val [] .bool v0_0, .val [(0, 0)] (.slice (.prod (.int .i64) (.prod (.int .i64) .unit))) v0_1, .val [] .bool v0_2, .rw 3] [⟨0, .vars [.val [] (.int .i64) v0_6, .val [] (.int .i64) v0_7, .val [] .str v0_8, .val [(0, 0)] (.slice (.int .u8)) v0_9, .val [] (.int .i64) v0_10, .val [(0, 0)] (.slice (.prod (.int .i64) (.prod (.int .i64) .unit))) v0_11, .val [] (.int .i64) v0_12, .val [] (.int .i64) v0_13]⟩, ⟨0, .vars [.val [] (.int .i64) v0_14, .val [] (.int .i64) v0_15, .val [] .str v0_16, .nils, .val [] (.int .i64) v0_17, .nils, .val [] (.int .i64) v0_18, .val [] (.int .i64) v0_19]⟩, ⟨0, .arr [] (.prod (.int .i64) (.prod (.int .i64) .unit)) y0_17⟩])) v0_0 v0_1 v0_2 v0_3 v0_4 v0_6 v0_7 v0_8 v0_9 v0_10 v0_11 v0_12 v0_13 v0_14 v0_15 v0_16 v0_17 v0_18 v0_19 v0_5 v0_20 := by kernel_rfl
theorem i117_0 (N : St → Option R) (X : Nat → St → Option R) (v0_0 : Bool) (v0_1 : List ((Int × (Int × Unit)))) (v0_2 : Bool) (v0_3 : List ((Int × (Int × Unit)))) (v0_4 : Int) (v0_6 : Int) (v0_7 : Int) (v0_8 : ByteArray) (v0_9 : List Int) (v0_10 : Int) (v0_11 : List ((Int × (Int × Unit)))) (v0_12 : Int) (v0_13 : Int) (v0_14 : Int) (v0_15 : Int) (v0_16 : ByteArray) (v0_17 : Int) (v0_18 : Int) (v0_19 : Int) (m : Nat) : ∀ (v0_5 : Int) (v0_20 : List (Int × (Int × Unit))),
    iter (atHead an117 0 bd117_0) m (fun st N' => exec T an117 (modesOf F) 0 k 67 (S117 k) (ending T Try.f117 an117 0 K) bd117_0 st N' (outX an117 0 0 N X)) (sh sp117_0 [.ptr 1 0, .ptr 2 0, .val [] .bool v0_0, .val [(0, 0)] (.slice (.prod (.int .i64) (.prod (.int .i64) .unit))) v0_1, .val [] .bool v0_2, .rw 3, .val [(0, 0)] (.slice (.prod (.int .i64) (.prod (.int .i64) .unit))) v0_3, .val [] (.int .i64) v0_4, .val [] (.int .i64) v0_5] [⟨0, .vars [.val [] (.int .i64) v0_6, .val [] (.int .i64) v0_7, .val [] .str v0_8, .val [(0, 0)] (.slice (.int .u8)) v0_9, .val [] (.int .i64) v0_10, .val [(0, 0)] (.slice (.prod (.int .i64) (.prod (.int .i64) .unit))) v0_11, .val [] (.int .i64) v0_12, .val [] (.int .i64) v0_13]⟩, ⟨0, .vars [.val [] (.int .i64) v0_14, .val [] (.int .i64) v0_15, .val [] .str v0_16, .nils, .val [] (.int .i64) v0_17, .nils, .val [] (.int .i64) v0_18, .val [] (.int .i64) v0_19]⟩, ⟨0, .arr [] (.prod (.int .i64) (.prod (.int .i64) .unit)) v0_20⟩]) = f117_0d k (fun y0_17 => N (sh jn117_0 [.ptr 1 0, .ptr 2 0, .val [] .bool v0_0, .val [(0, 0)] (.slice (.prod (.int .i64) (.prod (.int .i64) .unit))) v0_1, .val [] .bool v0_2, .rw 3] [⟨0, .vars [.val [] (.int .i64) v0_6, .val [] (.int .i64) v0_7, .val [] .str v0_8, .val [(0, 0)] (.slice (.int .u8)) v0_9, .val [] (.int .i64) v0_10, .val [(0, 0)] (.slice (.prod (.int .i64) (.prod (.int .i64) .unit))) v0_11, .val [] (.int .i64) v0_12, .val [] (.int .i64) v0_13]⟩, ⟨0, .vars [.val [] (.int .i64) v0_14, .val [] (.int .i64) v0_15, .val [] .str v0_16, .nils, .val [] (.int .i64) v0_17, .nils, .val [] (.int .i64) v0_18, .val [] (.int .i64) v0_19]⟩, ⟨0, .arr [] (.prod (.int .i64) (.prod (.int .i64) .unit)) y0_17⟩])) v0_0 v0_1 v0_2 v0_3 v0_4 v0_6 v0_7 v0_8 v0_9 v0_10 v0_11 v0_12 v0_13 v0_14 v0_15 v0_16 v0_17 v0_18 v0_19 m v0_5 v0_20 := by
  induction m with
  | zero => intros; rfl
  | succ m ih =>
    intro v0_5 v0_20
    simp only [iter]
    rw [← execS_eq T an117 (modesOf F) 0 k 67 (S117 k) (L117 k K) bd117_0 (cuts_of _ _ _ _ _ _ _ _ bd117_0 (l := [(1000008, sp117_1000008, cd117_1000008)]) (by kernel_rfl) ⟨l117_1000008 k K, trivial⟩)]
    refine (b117_0 k K _ N X v0_0 v0_1 v0_2 v0_3 v0_4 v0_6 v0_7 v0_8 v0_9 v0_10 v0_11 v0_12 v0_13 v0_14 v0_15 v0_16 v0_17 v0_18 v0_19 v0_5 v0_20).trans ?_
    simp only [f117_0d, ih]
theorem l117_0 (ws : List PV) (rs : List RowS) (N : St → Option R) (X : Nat → St → Option R) : L117 k K 0 ws rs N X = inner T an117 (modesOf F) 0 k 67 (S117 k) (ending T Try.f117 an117 0 K) cd117_0 (sh sp117_0 ws rs) N X := by
  show L117_0 k K ws rs N X = _
  unfold L117_0
  rw [f117_0_def]
  exact onShape_eq (a := [.ptr 1 0, .ptr 2 0, .val [] .bool, .val [(0, 0)] (.slice (.prod (.int .i64) (.prod (.int .i64) .unit))), .val [] .bool, .rw 3, .val [(0, 0)] (.slice (.prod (.int .i64) (.prod (.int .i64) .unit))), .val [] (.int .i64), .val [] (.int .i64)]) (b := [.vars [.val [] (.int .i64), .val [] (.int .i64), .val [] .str, .val [(0, 0)] (.slice (.int .u8)), .val [] (.int .i64), .val [(0, 0)] (.slice (.prod (.int .i64) (.prod (.int .i64) .unit))), .val [] (.int .i64), .val [] (.int .i64)], .vars [.val [] (.int .i64), .val [] (.int .i64), .val [] .str, .nils, .val [] (.int .i64), .nils, .val [] (.int .i64), .val [] (.int .i64)], .arr [] (.prod (.int .i64) (.prod (.int .i64) .unit))]) (G := fun ws rs => inner T an117 (modesOf F) 0 k 67 (S117 k) (ending T Try.f117 an117 0 K) cd117_0 (sh sp117_0 ws rs) N X) (fun x y => Eq.trans (by kernel_rfl) (Eq.trans (i117_0 k K N X x.2.2.1 x.2.2.2.1 x.2.2.2.2.1 x.2.2.2.2.2.2.1 x.2.2.2.2.2.2.2.1 y.1.1 y.1.2.1 y.1.2.2.1 y.1.2.2.2.1 y.1.2.2.2.2.1 y.1.2.2.2.2.2.1 y.1.2.2.2.2.2.2.1 y.1.2.2.2.2.2.2.2.1 y.2.1.1 y.2.1.2.1 y.2.1.2.2.1 y.2.1.2.2.2.2.1 y.2.1.2.2.2.2.2.2.1 y.2.1.2.2.2.2.2.2.2.1 k x.2.2.2.2.2.2.2.2.1 y.2.2.1).symm (by kernel_rfl))) ws rs
theorem l117_1000016 (ws : List PV) (rs : List RowS) (N : St → Option R) (X : Nat → St → Option R) : L117 k K 1000016 ws rs N X = inner T an117 (modesOf F) 0 k 67 (S117 k) (ending T Try.f117 an117 0 K) cd117_1000016 (sh sp117_1000016 ws rs) N X := by
  show L117_1000016 k K ws rs N X = _
  unfold L117_1000016
  rw [f117_1000016_def]
  exact onShape_eq (a := [.ptr 1 0, .ptr 2 0, .val [] .bool]) (b := [.vars [.val [] (.int .i64), .val [] (.int .i64), .val [] .str, .val [(0, 0)] (.slice (.int .u8)), .val [] (.int .i64), .val [(0, 0)] (.slice (.prod (.int .i64) (.prod (.int .i64) .unit))), .val [] (.int .i64), .val [] (.int .i64)], .vars [.val [] (.int .i64), .val [] (.int .i64), .val [] .str, .nils, .val [] (.int .i64), .nils, .val [] (.int .i64), .val [] (.int .i64)]]) (G := fun ws rs => inner T an117 (modesOf F) 0 k 67 (S117 k) (ending T Try.f117 an117 0 K) cd117_1000016 (sh sp117_1000016 ws rs) N X) (fun x y => Eq.trans (by kernel_rfl) (innerS_eq T an117 (modesOf F) 0 k 67 (S117 k) (L117 k K) cd117_1000016 (l := []) (by kernel_rfl) trivial _ N X)) ws rs
end
theorem e117 (k : Nat) (a0 : Int) (a1 : Int) (a2 : ByteArray) (a3 : List Int) (a4 : Int) (a5 : List ((Int × (Int × Unit)))) (a6 : Int) (a7 : Int) (a8 : List ((Int × (Int × Unit)))) (K : List PV → List RowS → Option R) : callC T F k 117 [.agg [.val [] (.int .i64) a0, .val [] (.int .i64) a1, .val [] .str a2, .val [(0, 0)] (.slice (.int .u8)) a3, .val [] (.int .i64) a4, .val [(0, 0)] (.slice (.prod (.int .i64) (.prod (.int .i64) .unit))) a5, .val [] (.int .i64) a6, .val [] (.int .i64) a7], .val [(0, 0)] (.slice (.prod (.int .i64) (.prod (.int .i64) .unit))) a8] [] K = f117 k a0 a1 a2 a3 a4 a5 a6 a7 a8 (fun z0 z1 z2 z3 z4 z5 z6 z7 z8 => K [.agg [.val [] (.int .i64) z0, .val [] (.int .i64) z1, .val [] .str z2, .val [(0, 0)] (.slice (.int .u8)) z3, .val [] (.int .i64) z4, .val [(0, 0)] (.slice (.prod (.int .i64) (.prod (.int .i64) .unit))) z5, .val [] (.int .i64) z6, .val [] (.int .i64) z7], .val [] (.int .i64) z8] []) := by
  rw [f117_def]
  cases k with
  | zero => rfl
  | succ k =>
    refine Eq.trans (show _ = exec T an117 (modesOf F) 0 k 67 (callC T F k) (ending T Try.f117 an117 0 K) (bodyOf Try.f117) ⟨argEnv 0 [.agg [.val [] (.int .i64) a0, .val [] (.int .i64) a1, .val [] .str a2, .val [(0, 0)] (.slice (.int .u8)) a3, .val [] (.int .i64) a4, .val [(0, 0)] (.slice (.prod (.int .i64) (.prod (.int .i64) .unit))) a5, .val [] (.int .i64) a6, .val [] (.int .i64) a7], .val [(0, 0)] (.slice (.prod (.int .i64) (.prod (.int .i64) .unit))) a8] (fun _ => none), rowsOf []⟩ (ending T Try.f117 an117 0 K) (fun _ _ => none) from by kernel_rfl) ?_
    rw [← S117_eq k, ← execS_eq T an117 (modesOf F) 0 k 67 (S117 k) (L117 k K) (bodyOf Try.f117) (cuts_of _ _ _ _ _ _ _ _ (bodyOf Try.f117) (l := [(0, sp117_0, cd117_0), (1000016, sp117_1000016, cd117_1000016)]) (by kernel_rfl) ⟨l117_0 k K, l117_1000016 k K, trivial⟩)]
    kernel_rfl
noncomputable def s117 (k : Nat) (a : List PV) (r : List RowS) (K : List PV → List RowS → Option R) : Option R :=
  onShape [.agg [.val [] (.int .i64), .val [] (.int .i64), .val [] .str, .val [(0, 0)] (.slice (.int .u8)), .val [] (.int .i64), .val [(0, 0)] (.slice (.prod (.int .i64) (.prod (.int .i64) .unit))), .val [] (.int .i64), .val [] (.int .i64)], .val [(0, 0)] (.slice (.prod (.int .i64) (.prod (.int .i64) .unit)))] [] (fun v => f117 k v.1.1.1 v.1.1.2.1 v.1.1.2.2.1 v.1.1.2.2.2.1 v.1.1.2.2.2.2.1 v.1.1.2.2.2.2.2.1 v.1.1.2.2.2.2.2.2.1 v.1.1.2.2.2.2.2.2.2.1 v.1.2.1 (fun z0 z1 z2 z3 z4 z5 z6 z7 z8 => K [.agg [.val [] (.int .i64) z0, .val [] (.int .i64) z1, .val [] .str z2, .val [(0, 0)] (.slice (.int .u8)) z3, .val [] (.int .i64) z4, .val [(0, 0)] (.slice (.prod (.int .i64) (.prod (.int .i64) .unit))) z5, .val [] (.int .i64) z6, .val [] (.int .i64) z7], .val [] (.int .i64) z8] [])) (callC T F k 117 a r K) a r
theorem s117_eq (k : Nat) (a : List PV) (r : List RowS) (K : List PV → List RowS → Option R) : s117 k a r K = callC T F k 117 a r K := by
  unfold s117
  exact onShape_eq (a := [.agg [.val [] (.int .i64), .val [] (.int .i64), .val [] .str, .val [(0, 0)] (.slice (.int .u8)), .val [] (.int .i64), .val [(0, 0)] (.slice (.prod (.int .i64) (.prod (.int .i64) .unit))), .val [] (.int .i64), .val [] (.int .i64)], .val [(0, 0)] (.slice (.prod (.int .i64) (.prod (.int .i64) .unit)))]) (b := []) (G := fun a r => callC T F k 117 a r K) (fun x y => Eq.trans (by kernel_rfl) (Eq.trans (e117 k x.1.1 x.1.2.1 x.1.2.2.1 x.1.2.2.2.1 x.1.2.2.2.2.1 x.1.2.2.2.2.2.1 x.1.2.2.2.2.2.2.1 x.1.2.2.2.2.2.2.2.1 x.2.1 K).symm (by kernel_rfl))) a r
end
section
variable {R : Type}
noncomputable def S90 (k g : Nat) (a : List PV) (r : List RowS) (K : List PV → List RowS → Option R) : Option R := bif g == 117 then s117 k a r K else callC T F k g a r K
theorem S90_eq (k : Nat) : S90 (R := R) k = callC T F k := by
  funext g a r K
  exact pick_eq (fun e => by subst e; exact s117_eq k a r K) (rfl)
section
variable {R : Type} (k : Nat) (K : List PV → List RowS → Option R)
noncomputable def L90_1000008 (ws : List PV) (rs : List RowS) (N : St → Option R) (X : Nat → St → Option R) : Option R :=
  onShape [.ptr 1 0, .ptr 2 0, .val [] .bool] [.vars [.val [] (.int .i64), .val [] (.int .i64), .val [] .str, .val [(0, 0)] (.slice (.int .u8)), .val [] (.int .i64), .val [(0, 0)] (.slice (.prod (.int .i64) (.prod (.int .i64) .unit))), .val [] (.int .i64), .val [] (.int .i64)], .vars [.val [] (.int .i64), .val [] (.int .i64), .val [] .str, .nils, .val [] (.int .i64), .nils, .val [] (.int .i64), .val [] (.int .i64)]] (fun v => f90_1000008 k (fun yN_0 yN_5 yN_6 => N (sh fi90_8 [.ptr 1 0, .ptr 2 0] [⟨0, .vars [.val [] (.int .i64) yN_0, .val [] (.int .i64) v.2.1.2.1, .val [] .str v.2.1.2.2.1, .val [(0, 0)] (.slice (.int .u8)) v.2.1.2.2.2.1, .val [] (.int .i64) v.2.1.2.2.2.2.1, .val [(0, 0)] (.slice (.prod (.int .i64) (.prod (.int .i64) .unit))) yN_5, .val [] (.int .i64) yN_6, .val [] (.int .i64) v.2.1.2.2.2.2.2.2.2.1]⟩, ⟨0, .vars [.val [] (.int .i64) v.2.2.1.1, .val [] (.int .i64) v.2.2.1.2.1, .val [] .str v.2.2.1.2.2.1, .nils, .val [] (.int .i64) v.2.2.1.2.2.2.2.1, .nils, .val [] (.int .i64) v.2.2.1.2.2.2.2.2.2.1, .val [] (.int .i64) v.2.2.1.2.2.2.2.2.2.2.1]⟩])) v.1.2.2.1 v.2.1.1 v.2.1.2.1 v.2.1.2.2.1 v.2.1.2.2.2.1 v.2.1.2.2.2.2.1 v.2.1.2.2.2.2.2.1 v.2.1.2.2.2.2.2.2.1 v.2.1.2.2.2.2.2.2.2.1 v.2.2.1.1 v.2.2.1.2.1 v.2.2.1.2.2.1 v.2.2.1.2.2.2.2.1 v.2.2.1.2.2.2.2.2.2.1 v.2.2.1.2.2.2.2.2.2.2.1) (inner T an90 (modesOf F) 0 k 56 (S90 k) (ending T Try.f90 an90 0 K) cd90_1000008 (sh sp90_1000008 ws rs) N X) ws rs
noncomputable def L90_1000006 (ws : List PV) (rs : List RowS) (N : St → Option R) (X : Nat → St → Option R) : Option R :=
  onShape [.ptr 1 0, .ptr 2 0, .ptr 3 0, .val [] .bool] [.vars [.val [] (.int .i64), .val [] (.int .i64), .val [] .str, .val [(0, 0)] (.slice (.int .u8)), .val [] (.int .i64), .val [(0, 0)] (.slice (.prod (.int .i64) (.prod (.int .i64) .unit))), .val [] (.int .i64), .val [] (.int .i64)], .vars [.val [] (.int .i64), .val [] (.int .i64), .val [] .str, .val [] (.int .i64), .val [] (.int .i64), .val [] (.int .i64), .val [(0, 0)] (.slice (.int .u8)), .val [(0, 0)] (.slice (.prod (.int .i64) (.prod (.int .i64) .unit))), .val [] .bool], .vars [.val [] (.int .i64), .val [] (.int .i64), .val [] .str, .nils, .val [] (.int .i64), .nils, .val [] (.int .i64), .val [] (.int .i64)]] (fun v => f90_1000006 k (fun yN_0 yN_5 yN_6 => N (sh fi90_6 [.ptr 1 0, .ptr 2 0] [⟨0, .vars [.val [] (.int .i64) yN_0, .val [] (.int .i64) v.2.1.2.1, .val [] .str v.2.1.2.2.1, .val [(0, 0)] (.slice (.int .u8)) v.2.1.2.2.2.1, .val [] (.int .i64) v.2.1.2.2.2.2.1, .val [(0, 0)] (.slice (.prod (.int .i64) (.prod (.int .i64) .unit))) yN_5, .val [] (.int .i64) yN_6, .val [] (.int .i64) v.2.1.2.2.2.2.2.2.2.1]⟩, ⟨0, .vars [.val [] (.int .i64) v.2.2.2.1.1, .val [] (.int .i64) v.2.2.2.1.2.1, .val [] .str v.2.2.2.1.2.2.1, .nils, .val [] (.int .i64) v.2.2.2.1.2.2.2.2.1, .nils, .val [] (.int .i64) v.2.2.2.1.2.2.2.2.2.2.1, .val [] (.int .i64) v.2.2.2.1.2.2.2.2.2.2.2.1]⟩])) v.1.2.2.2.1 v.2.1.1 v.2.1.2.1 v.2.1.2.2.1 v.2.1.2.2.2.1 v.2.1.2.2.2.2.1 v.2.1.2.2.2.2.2.1 v.2.1.2.2.2.2.2.2.1 v.2.1.2.2.2.2.2.2.2.1 v.2.2.1.1 v.2.2.1.2.1 v.2.2.1.2.2.1 v.2.2.1.2.2.2.1 v.2.2.1.2.2.2.2.1 v.2.2.1.2.2.2.2.2.1 v.2.2.1.2.2.2.2.2.2.1 v.2.2.1.2.2.2.2.2.2.2.1 v.2.2.1.2.2.2.2.2.2.2.2.1 v.2.2.2.1.1 v.2.2.2.1.2.1 v.2.2.2.1.2.2.1 v.2.2.2.1.2.2.2.2.1 v.2.2.2.1.2.2.2.2.2.2.1 v.2.2.2.1.2.2.2.2.2.2.2.1) (inner T an90 (modesOf F) 0 k 56 (S90 k) (ending T Try.f90 an90 0 K) cd90_1000006 (sh sp90_1000006 ws rs) N X) ws rs
noncomputable def L90 (id : Nat) (ws : List PV) (rs : List RowS) (N : St → Option R) (X : Nat → St → Option R) : Option R := bif id == 1000008 then L90_1000008 k K ws rs N X else bif id == 1000006 then L90_1000006 k K ws rs N X else none
theorem l90_1000008 (ws : List PV) (rs : List RowS) (N : St → Option R) (X : Nat → St → Option R) : L90 k K 1000008 ws rs N X = inner T an90 (modesOf F) 0 k 56 (S90 k) (ending T Try.f90 an90 0 K) cd90_1000008 (sh sp90_1000008 ws rs) N X := by
  show L90_1000008 k K ws rs N X = _
  unfold L90_1000008
  rw [f90_1000008_def]
  exact onShape_eq (a := [.ptr 1 0, .ptr 2 0, .val [] .bool]) (b := [.vars [.val [] (.int .i64), .val [] (.int .i64), .val [] .str, .val [(0, 0)] (.slice (.int .u8)), .val [] (.int .i64), .val [(0, 0)] (.slice (.prod (.int .i64) (.prod (.int .i64) .unit))), .val [] (.int .i64), .val [] (.int .i64)], .vars [.val [] (.int .i64), .val [] (.int .i64), .val [] .str, .nils, .val [] (.int .i64), .nils, .val [] (.int .i64), .val [] (.int .i64)]]) (G := fun ws rs => inner T an90 (modesOf F) 0 k 56 (S90 k) (ending T Try.f90 an90 0 K) cd90_1000008 (sh sp90_1000008 ws rs) N X) (fun x y => Eq.trans (by kernel_rfl) (innerS_eq T an90 (modesOf F) 0 k 56 (S90 k) (L90 k K) cd90_1000008 (l := []) (by kernel_rfl) trivial _ N X)) ws rs
theorem l90_1000006 (ws : List PV) (rs : List RowS) (N : St → Option R) (X : Nat → St → Option R) : L90 k K 1000006 ws rs N X = inner T an90 (modesOf F) 0 k 56 (S90 k) (ending T Try.f90 an90 0 K) cd90_1000006 (sh sp90_1000006 ws rs) N X := by
  show L90_1000006 k K ws rs N X = _
  unfold L90_1000006
  rw [f90_1000006_def]
  exact onShape_eq (a := [.ptr 1 0, .ptr 2 0, .ptr 3 0, .val [] .bool]) (b := [.vars [.val [] (.int .i64), .val [] (.int .i64), .val [] .str, .val [(0, 0)] (.slice (.int .u8)), .val [] (.int .i64), .val [(0, 0)] (.slice (.prod (.int .i64) (.prod (.int .i64) .unit))), .val [] (.int .i64), .val [] (.int .i64)], .vars [.val [] (.int .i64), .val [] (.int .i64), .val [] .str, .val [] (.int .i64), .val [] (.int .i64), .val [] (.int .i64), .val [(0, 0)] (.slice (.int .u8)), .val [(0, 0)] (.slice (.prod (.int .i64) (.prod (.int .i64) .unit))), .val [] .bool], .vars [.val [] (.int .i64), .val [] (.int .i64), .val [] .str, .nils, .val [] (.int .i64), .nils, .val [] (.int .i64), .val [] (.int .i64)]]) (G := fun ws rs => inner T an90 (modesOf F) 0 k 56 (S90 k) (ending T Try.f90 an90 0 K) cd90_1000006 (sh sp90_1000006 ws rs) N X) (fun x y => Eq.trans (by kernel_rfl) (innerS_eq T an90 (modesOf F) 0 k 56 (S90 k) (L90 k K) cd90_1000006 (l := [(1000008, sp90_1000008, cd90_1000008)]) (by kernel_rfl) ⟨l90_1000008 k K, trivial⟩ _ N X)) ws rs
end
theorem e90 (k : Nat) (a0 : Int) (a1 : Int) (a2 : ByteArray) (a3 : List Int) (a4 : Int) (a5 : List ((Int × (Int × Unit)))) (a6 : Int) (a7 : Int) (a8 : Int) (a9 : Int) (a10 : ByteArray) (a11 : Int) (a12 : Int) (a13 : Int) (a14 : List Int) (a15 : List ((Int × (Int × Unit)))) (a16 : Bool) (K : List PV → List RowS → Option R) : callC T F k 90 [.agg [.val [] (.int .i64) a0, .val [] (.int .i64) a1, .val [] .str a2, .val [(0, 0)] (.slice (.int .u8)) a3, .val [] (.int .i64) a4, .val [(0, 0)] (.slice (.prod (.int .i64) (.prod (.int .i64) .unit))) a5, .val [] (.int .i64) a6, .val [] (.int .i64) a7], .agg [.val [] (.int .i64) a8, .val [] (.int .i64) a9, .val [] .str a10, .val [] (.int .i64) a11, .val [] (.int .i64) a12, .val [] (.int .i64) a13, .val [(0, 0)] (.slice (.int .u8)) a14, .val [(0, 0)] (.slice (.prod (.int .i64) (.prod (.int .i64) .unit))) a15, .val [] .bool a16]] [] K = f90 k a0 a1 a2 a3 a4 a5 a6 a7 a8 a9 a10 a11 a12 a13 a14 a15 a16 (fun z0 z1 z2 z3 z4 z5 z6 z7 z8 => K [.agg [.val [] (.int .i64) z0, .val [] (.int .i64) z1, .val [] .str z2, .val [(0, 0)] (.slice (.int .u8)) z3, .val [] (.int .i64) z4, .val [(0, 0)] (.slice (.prod (.int .i64) (.prod (.int .i64) .unit))) z5, .val [] (.int .i64) z6, .val [] (.int .i64) z7], .val [] (.int .i64) z8] []) := by
  rw [f90_def]
  cases k with
  | zero => rfl
  | succ k =>
    refine Eq.trans (show _ = exec T an90 (modesOf F) 0 k 56 (callC T F k) (ending T Try.f90 an90 0 K) (bodyOf Try.f90) ⟨argEnv 0 [.agg [.val [] (.int .i64) a0, .val [] (.int .i64) a1, .val [] .str a2, .val [(0, 0)] (.slice (.int .u8)) a3, .val [] (.int .i64) a4, .val [(0, 0)] (.slice (.prod (.int .i64) (.prod (.int .i64) .unit))) a5, .val [] (.int .i64) a6, .val [] (.int .i64) a7], .agg [.val [] (.int .i64) a8, .val [] (.int .i64) a9, .val [] .str a10, .val [] (.int .i64) a11, .val [] (.int .i64) a12, .val [] (.int .i64) a13, .val [(0, 0)] (.slice (.int .u8)) a14, .val [(0, 0)] (.slice (.prod (.int .i64) (.prod (.int .i64) .unit))) a15, .val [] .bool a16]] (fun _ => none), rowsOf []⟩ (ending T Try.f90 an90 0 K) (fun _ _ => none) from by kernel_rfl) ?_
    rw [← S90_eq k, ← execS_eq T an90 (modesOf F) 0 k 56 (S90 k) (L90 k K) (bodyOf Try.f90) (cuts_of _ _ _ _ _ _ _ _ (bodyOf Try.f90) (l := [(1000006, sp90_1000006, cd90_1000006)]) (by kernel_rfl) ⟨l90_1000006 k K, trivial⟩)]
    kernel_rfl
noncomputable def s90 (k : Nat) (a : List PV) (r : List RowS) (K : List PV → List RowS → Option R) : Option R :=
  onShape [.agg [.val [] (.int .i64), .val [] (.int .i64), .val [] .str, .val [(0, 0)] (.slice (.int .u8)), .val [] (.int .i64), .val [(0, 0)] (.slice (.prod (.int .i64) (.prod (.int .i64) .unit))), .val [] (.int .i64), .val [] (.int .i64)], .agg [.val [] (.int .i64), .val [] (.int .i64), .val [] .str, .val [] (.int .i64), .val [] (.int .i64), .val [] (.int .i64), .val [(0, 0)] (.slice (.int .u8)), .val [(0, 0)] (.slice (.prod (.int .i64) (.prod (.int .i64) .unit))), .val [] .bool]] [] (fun v => f90 k v.1.1.1 v.1.1.2.1 v.1.1.2.2.1 v.1.1.2.2.2.1 v.1.1.2.2.2.2.1 v.1.1.2.2.2.2.2.1 v.1.1.2.2.2.2.2.2.1 v.1.1.2.2.2.2.2.2.2.1 v.1.2.1.1 v.1.2.1.2.1 v.1.2.1.2.2.1 v.1.2.1.2.2.2.1 v.1.2.1.2.2.2.2.1 v.1.2.1.2.2.2.2.2.1 v.1.2.1.2.2.2.2.2.2.1 v.1.2.1.2.2.2.2.2.2.2.1 v.1.2.1.2.2.2.2.2.2.2.2.1 (fun z0 z1 z2 z3 z4 z5 z6 z7 z8 => K [.agg [.val [] (.int .i64) z0, .val [] (.int .i64) z1, .val [] .str z2, .val [(0, 0)] (.slice (.int .u8)) z3, .val [] (.int .i64) z4, .val [(0, 0)] (.slice (.prod (.int .i64) (.prod (.int .i64) .unit))) z5, .val [] (.int .i64) z6, .val [] (.int .i64) z7], .val [] (.int .i64) z8] [])) (callC T F k 90 a r K) a r
theorem s90_eq (k : Nat) (a : List PV) (r : List RowS) (K : List PV → List RowS → Option R) : s90 k a r K = callC T F k 90 a r K := by
  unfold s90
  exact onShape_eq (a := [.agg [.val [] (.int .i64), .val [] (.int .i64), .val [] .str, .val [(0, 0)] (.slice (.int .u8)), .val [] (.int .i64), .val [(0, 0)] (.slice (.prod (.int .i64) (.prod (.int .i64) .unit))), .val [] (.int .i64), .val [] (.int .i64)], .agg [.val [] (.int .i64), .val [] (.int .i64), .val [] .str, .val [] (.int .i64), .val [] (.int .i64), .val [] (.int .i64), .val [(0, 0)] (.slice (.int .u8)), .val [(0, 0)] (.slice (.prod (.int .i64) (.prod (.int .i64) .unit))), .val [] .bool]]) (b := []) (G := fun a r => callC T F k 90 a r K) (fun x y => Eq.trans (by kernel_rfl) (Eq.trans (e90 k x.1.1 x.1.2.1 x.1.2.2.1 x.1.2.2.2.1 x.1.2.2.2.2.1 x.1.2.2.2.2.2.1 x.1.2.2.2.2.2.2.1 x.1.2.2.2.2.2.2.2.1 x.2.1.1 x.2.1.2.1 x.2.1.2.2.1 x.2.1.2.2.2.1 x.2.1.2.2.2.2.1 x.2.1.2.2.2.2.2.1 x.2.1.2.2.2.2.2.2.1 x.2.1.2.2.2.2.2.2.2.1 x.2.1.2.2.2.2.2.2.2.2.1 K).symm (by kernel_rfl))) a r
end
section
variable {R : Type}
noncomputable def S47 (k g : Nat) (a : List PV) (r : List RowS) (K : List PV → List RowS → Option R) : Option R := bif g == 20 then s20 k a r K else bif g == 30 then s30 k a r K else bif g == 80 then s80 k a r K else bif g == 90 then s90 k a r K else callC T F k g a r K
theorem S47_eq (k : Nat) : S47 (R := R) k = callC T F k := by
  funext g a r K
  exact pick_eq (fun e => by subst e; exact s20_eq k a r K) (pick_eq (fun e => by subst e; exact s30_eq k a r K) (pick_eq (fun e => by subst e; exact s80_eq k a r K) (pick_eq (fun e => by subst e; exact s90_eq k a r K) (rfl))))
theorem e47 (k : Nat) (a0 : Int) (a1 : Int) (a2 : ByteArray) (a3 : List Int) (a4 : Int) (a5 : List ((Int × (Int × Unit)))) (a6 : Int) (a7 : Int) (a8 : Int) (a9 : Int) (a10 : ByteArray) (a11 : Int) (a12 : Int) (a13 : Int) (a14 : List Int) (a15 : List ((Int × (Int × Unit)))) (a16 : Bool) (K : List PV → List RowS → Option R) : callC T F k 47 [.agg [.val [] (.int .i64) a0, .val [] (.int .i64) a1, .val [] .str a2, .val [(0, 0)] (.slice (.int .u8)) a3, .val [] (.int .i64) a4, .val [(0, 0)] (.slice (.prod (.int .i64) (.prod (.int .i64) .unit))) a5, .val [] (.int .i64) a6, .val [] (.int .i64) a7], .agg [.val [] (.int .i64) a8, .val [] (.int .i64) a9, .val [] .str a10, .val [] (.int .i64) a11, .val [] (.int .i64) a12, .val [] (.int .i64) a13, .val [(0, 0)] (.slice (.int .u8)) a14, .val [(0, 0)] (.slice (.prod (.int .i64) (.prod (.int .i64) .unit))) a15, .val [] .bool a16]] [] K = f47 k a0 a1 a2 a3 a4 a5 a6 a7 a8 a9 a10 a11 a12 a13 a14 a15 a16 (fun z0 z1 z2 z3 z4 z5 z6 z7 z8 => K [.agg [.val [] (.int .i64) z0, .val [] (.int .i64) z1, .val [] .str z2, .val [(0, 0)] (.slice (.int .u8)) z3, .val [] (.int .i64) z4, .val [(0, 0)] (.slice (.prod (.int .i64) (.prod (.int .i64) .unit))) z5, .val [] (.int .i64) z6, .val [] (.int .i64) z7], .val [] (.int .i64) z8] []) := by
  rw [f47_def]
  cases k with
  | zero => rfl
  | succ k =>
    refine Eq.trans (show _ = exec T an47 (modesOf F) 0 k 26 (callC T F k) (ending T Try.f47 an47 0 K) (bodyOf Try.f47) ⟨argEnv 0 [.agg [.val [] (.int .i64) a0, .val [] (.int .i64) a1, .val [] .str a2, .val [(0, 0)] (.slice (.int .u8)) a3, .val [] (.int .i64) a4, .val [(0, 0)] (.slice (.prod (.int .i64) (.prod (.int .i64) .unit))) a5, .val [] (.int .i64) a6, .val [] (.int .i64) a7], .agg [.val [] (.int .i64) a8, .val [] (.int .i64) a9, .val [] .str a10, .val [] (.int .i64) a11, .val [] (.int .i64) a12, .val [] (.int .i64) a13, .val [(0, 0)] (.slice (.int .u8)) a14, .val [(0, 0)] (.slice (.prod (.int .i64) (.prod (.int .i64) .unit))) a15, .val [] .bool a16]] (fun _ => none), rowsOf []⟩ (ending T Try.f47 an47 0 K) (fun _ _ => none) from by kernel_rfl) ?_
    rw [← S47_eq k, ← execS_eq T an47 (modesOf F) 0 k 26 (S47 k) (fun _ _ _ _ _ => none) (bodyOf Try.f47) (cuts_of _ _ _ _ _ _ _ _ (bodyOf Try.f47) (l := []) (by kernel_rfl) trivial)]
    kernel_rfl
noncomputable def s47 (k : Nat) (a : List PV) (r : List RowS) (K : List PV → List RowS → Option R) : Option R :=
  onShape [.agg [.val [] (.int .i64), .val [] (.int .i64), .val [] .str, .val [(0, 0)] (.slice (.int .u8)), .val [] (.int .i64), .val [(0, 0)] (.slice (.prod (.int .i64) (.prod (.int .i64) .unit))), .val [] (.int .i64), .val [] (.int .i64)], .agg [.val [] (.int .i64), .val [] (.int .i64), .val [] .str, .val [] (.int .i64), .val [] (.int .i64), .val [] (.int .i64), .val [(0, 0)] (.slice (.int .u8)), .val [(0, 0)] (.slice (.prod (.int .i64) (.prod (.int .i64) .unit))), .val [] .bool]] [] (fun v => f47 k v.1.1.1 v.1.1.2.1 v.1.1.2.2.1 v.1.1.2.2.2.1 v.1.1.2.2.2.2.1 v.1.1.2.2.2.2.2.1 v.1.1.2.2.2.2.2.2.1 v.1.1.2.2.2.2.2.2.2.1 v.1.2.1.1 v.1.2.1.2.1 v.1.2.1.2.2.1 v.1.2.1.2.2.2.1 v.1.2.1.2.2.2.2.1 v.1.2.1.2.2.2.2.2.1 v.1.2.1.2.2.2.2.2.2.1 v.1.2.1.2.2.2.2.2.2.2.1 v.1.2.1.2.2.2.2.2.2.2.2.1 (fun z0 z1 z2 z3 z4 z5 z6 z7 z8 => K [.agg [.val [] (.int .i64) z0, .val [] (.int .i64) z1, .val [] .str z2, .val [(0, 0)] (.slice (.int .u8)) z3, .val [] (.int .i64) z4, .val [(0, 0)] (.slice (.prod (.int .i64) (.prod (.int .i64) .unit))) z5, .val [] (.int .i64) z6, .val [] (.int .i64) z7], .val [] (.int .i64) z8] [])) (callC T F k 47 a r K) a r
theorem s47_eq (k : Nat) (a : List PV) (r : List RowS) (K : List PV → List RowS → Option R) : s47 k a r K = callC T F k 47 a r K := by
  unfold s47
  exact onShape_eq (a := [.agg [.val [] (.int .i64), .val [] (.int .i64), .val [] .str, .val [(0, 0)] (.slice (.int .u8)), .val [] (.int .i64), .val [(0, 0)] (.slice (.prod (.int .i64) (.prod (.int .i64) .unit))), .val [] (.int .i64), .val [] (.int .i64)], .agg [.val [] (.int .i64), .val [] (.int .i64), .val [] .str, .val [] (.int .i64), .val [] (.int .i64), .val [] (.int .i64), .val [(0, 0)] (.slice (.int .u8)), .val [(0, 0)] (.slice (.prod (.int .i64) (.prod (.int .i64) .unit))), .val [] .bool]]) (b := []) (G := fun a r => callC T F k 47 a r K) (fun x y => Eq.trans (by kernel_rfl) (Eq.trans (e47 k x.1.1 x.1.2.1 x.1.2.2.1 x.1.2.2.2.1 x.1.2.2.2.2.1 x.1.2.2.2.2.2.1 x.1.2.2.2.2.2.2.1 x.1.2.2.2.2.2.2.2.1 x.2.1.1 x.2.1.2.1 x.2.1.2.2.1 x.2.1.2.2.2.1 x.2.1.2.2.2.2.1 x.2.1.2.2.2.2.2.1 x.2.1.2.2.2.2.2.2.1 x.2.1.2.2.2.2.2.2.2.1 x.2.1.2.2.2.2.2.2.2.2.1 K).symm (by kernel_rfl))) a r
end
section
variable {R : Type}
noncomputable def S72 (k g : Nat) (a : List PV) (r : List RowS) (K : List PV → List RowS → Option R) : Option R := callC T F k g a r K
theorem S72_eq (k : Nat) : S72 (R := R) k = callC T F k := by
  funext g a r K
  exact rfl
theorem e72 (k : Nat) (a0 : Int) (a1 : Int) (a2 : Int) (K : List PV → List RowS → Option R) : callC T F k 72 [.val [] (.int .i64) a0, .val [] (.int .i64) a1, .val [] (.int .i64) a2] [] K = f72 k a0 a1 a2 (fun z0 => K [.val [] .bool z0] []) := by
  rw [f72_def]
  cases k with
  | zero => rfl
  | succ k =>
    refine Eq.trans (show _ = exec T an72 (modesOf F) 0 k 15 (callC T F k) (ending T Try.f72 an72 0 K) (bodyOf Try.f72) ⟨argEnv 0 [.val [] (.int .i64) a0, .val [] (.int .i64) a1, .val [] (.int .i64) a2] (fun _ => none), rowsOf []⟩ (ending T Try.f72 an72 0 K) (fun _ _ => none) from by kernel_rfl) ?_
    rw [← S72_eq k, ← execS_eq T an72 (modesOf F) 0 k 15 (S72 k) (fun _ _ _ _ _ => none) (bodyOf Try.f72) (cuts_of _ _ _ _ _ _ _ _ (bodyOf Try.f72) (l := []) (by kernel_rfl) trivial)]
    kernel_rfl
noncomputable def s72 (k : Nat) (a : List PV) (r : List RowS) (K : List PV → List RowS → Option R) : Option R :=
  onShape [.val [] (.int .i64), .val [] (.int .i64), .val [] (.int .i64)] [] (fun v => f72 k v.1.1 v.1.2.1 v.1.2.2.1 (fun z0 => K [.val [] .bool z0] [])) (callC T F k 72 a r K) a r
theorem s72_eq (k : Nat) (a : List PV) (r : List RowS) (K : List PV → List RowS → Option R) : s72 k a r K = callC T F k 72 a r K := by
  unfold s72
  exact onShape_eq (a := [.val [] (.int .i64), .val [] (.int .i64), .val [] (.int .i64)]) (b := []) (G := fun a r => callC T F k 72 a r K) (fun x y => Eq.trans (by kernel_rfl) (Eq.trans (e72 k x.1 x.2.1 x.2.2.1 K).symm (by kernel_rfl))) a r
end
section
variable {R : Type}
noncomputable def S105 (k g : Nat) (a : List PV) (r : List RowS) (K : List PV → List RowS → Option R) : Option R := callC T F k g a r K
theorem S105_eq (k : Nat) : S105 (R := R) k = callC T F k := by
  funext g a r K
  exact rfl
theorem e105 (k : Nat) (a0 : Int) (a1 : Int) (a2 : Int) (K : List PV → List RowS → Option R) : callC T F k 105 [.val [] (.int .i64) a0, .val [] (.int .i64) a1, .val [] (.int .i64) a2] [] K = f105 k a0 a1 a2 (fun z0 => K [.val [] .bool z0] []) := by
  rw [f105_def]
  cases k with
  | zero => rfl
  | succ k =>
    refine Eq.trans (show _ = exec T an105 (modesOf F) 0 k 15 (callC T F k) (ending T Try.f105 an105 0 K) (bodyOf Try.f105) ⟨argEnv 0 [.val [] (.int .i64) a0, .val [] (.int .i64) a1, .val [] (.int .i64) a2] (fun _ => none), rowsOf []⟩ (ending T Try.f105 an105 0 K) (fun _ _ => none) from by kernel_rfl) ?_
    rw [← S105_eq k, ← execS_eq T an105 (modesOf F) 0 k 15 (S105 k) (fun _ _ _ _ _ => none) (bodyOf Try.f105) (cuts_of _ _ _ _ _ _ _ _ (bodyOf Try.f105) (l := []) (by kernel_rfl) trivial)]
    kernel_rfl
noncomputable def s105 (k : Nat) (a : List PV) (r : List RowS) (K : List PV → List RowS → Option R) : Option R :=
  onShape [.val [] (.int .i64), .val [] (.int .i64), .val [] (.int .i64)] [] (fun v => f105 k v.1.1 v.1.2.1 v.1.2.2.1 (fun z0 => K [.val [] .bool z0] [])) (callC T F k 105 a r K) a r
theorem s105_eq (k : Nat) (a : List PV) (r : List RowS) (K : List PV → List RowS → Option R) : s105 k a r K = callC T F k 105 a r K := by
  unfold s105
  exact onShape_eq (a := [.val [] (.int .i64), .val [] (.int .i64), .val [] (.int .i64)]) (b := []) (G := fun a r => callC T F k 105 a r K) (fun x y => Eq.trans (by kernel_rfl) (Eq.trans (e105 k x.1 x.2.1 x.2.2.1 K).symm (by kernel_rfl))) a r
end
section
variable {R : Type}
noncomputable def S74 (k g : Nat) (a : List PV) (r : List RowS) (K : List PV → List RowS → Option R) : Option R := bif g == 105 then s105 k a r K else callC T F k g a r K
theorem S74_eq (k : Nat) : S74 (R := R) k = callC T F k := by
  funext g a r K
  exact pick_eq (fun e => by subst e; exact s105_eq k a r K) (rfl)
section
variable {R : Type} (k : Nat) (K : List PV → List RowS → Option R)
noncomputable def L74_0 (ws : List PV) (rs : List RowS) (N : St → Option R) (X : Nat → St → Option R) : Option R :=
  onShape [.val [] .str, .val [] (.int .i64)] [] (fun v => f74_0 k (fun z0 => K [.val [] .bool z0] []) (N (sh jn74_0 [.val [] .str v.1.1] [])) v.1.1 k v.1.2.1) (inner T an74 (modesOf F) 0 k 47 (S74 k) (ending T Try.f74 an74 0 K) cd74_0 (sh sp74_0 ws rs) N X) ws rs
noncomputable def L74 (id : Nat) (ws : List PV) (rs : List RowS) (N : St → Option R) (X : Nat → St → Option R) : Option R := bif id == 0 then L74_0 k K ws rs N X else none
theorem b74_0 (rec : St → Option R) (N : St → Option R) (X : Nat → St → Option R) (v0_0 : ByteArray) (v0_1 : Int) :
    execS T an74 (modesOf F) 0 k 47 (S74 k) (L74 k K) (ending T Try.f74 an74 0 K) bd74_0 (sh sp74_0 [.val [] .str v0_0, .val [] (.int .i64) v0_1] []) (fun st => atHead an74 0 bd74_0 st rec) (outX an74 0 0 N X) =
      f74_0b k (fun v0_1 => rec (sh sp74_0 [.val [] .str v0_0, .val [] (.int .i64) v0_1] [])) (fun z0 => K [.val [] .bool z0] []) (N (sh jn74_0 [.val [] .str v0_0] [])) v0_0 v0_1 := by kernel_rfl
theorem i74_0 (N : St → Option R) (X : Nat → St → Option R) (v0_0 : ByteArray) (m : Nat) : ∀ (v0_1 : Int),
    iter (atHead an74 0 bd74_0) m (fun st N' => exec T an74 (modesOf F) 0 k 47 (S74 k) (ending T Try.f74 an74 0 K) bd74_0 st N' (outX an74 0 0 N X)) (sh sp74_0 [.val [] .str v0_0, .val [] (.int .i64) v0_1] []) = f74_0d k (fun z0 => K [.val [] .bool z0] []) (N (sh jn74_0 [.val [] .str v0_0] [])) v0_0 m v0_1 := by
  induction m with
  | zero => intros; rfl
  | succ m ih =>
    intro v0_1
    simp only [iter]
    rw [← execS_eq T an74 (modesOf F) 0 k 47 (S74 k) (L74 k K) bd74_0 (cuts_of _ _ _ _ _ _ _ _ bd74_0 (l := []) (by kernel_rfl) trivial)]
    refine (b74_0 k K _ N X v0_0 v0_1).trans ?_
    simp only [f74_0d, ih]
theorem l74_0 (ws : List PV) (rs : List RowS) (N : St → Option R) (X : Nat → St → Option R) : L74 k K 0 ws rs N X = inner T an74 (modesOf F) 0 k 47 (S74 k) (ending T Try.f74 an74 0 K) cd74_0 (sh sp74_0 ws rs) N X := by
  show L74_0 k K ws rs N X = _
  unfold L74_0
  rw [f74_0_def]
  exact onShape_eq (a := [.val [] .str, .val [] (.int .i64)]) (b := []) (G := fun ws rs => inner T an74 (modesOf F) 0 k 47 (S74 k) (ending T Try.f74 an74 0 K) cd74_0 (sh sp74_0 ws rs) N X) (fun x y => Eq.trans (by kernel_rfl) (Eq.trans (i74_0 k K N X x.1 k x.2.1).symm (by kernel_rfl))) ws rs
end
theorem e74 (k : Nat) (a0 : ByteArray) (K : List PV → List RowS → Option R) : callC T F k 74 [.val [] .str a0] [] K = f74 k a0 (fun z0 => K [.val [] .bool z0] []) := by
  rw [f74_def]
  cases k with
  | zero => rfl
  | succ k =>
    refine Eq.trans (show _ = exec T an74 (modesOf F) 0 k 47 (callC T F k) (ending T Try.f74 an74 0 K) (bodyOf Try.f74) ⟨argEnv 0 [.val [] .str a0] (fun _ => none), rowsOf []⟩ (ending T Try.f74 an74 0 K) (fun _ _ => none) from by kernel_rfl) ?_
    rw [← S74_eq k, ← execS_eq T an74 (modesOf F) 0 k 47 (S74 k) (L74 k K) (bodyOf Try.f74) (cuts_of _ _ _ _ _ _ _ _ (bodyOf Try.f74) (l := [(0, sp74_0, cd74_0)]) (by kernel_rfl) ⟨l74_0 k K, trivial⟩)]
    kernel_rfl
noncomputable def s74 (k : Nat) (a : List PV) (r : List RowS) (K : List PV → List RowS → Option R) : Option R :=
  onShape [.val [] .str] [] (fun v => f74 k v.1.1 (fun z0 => K [.val [] .bool z0] [])) (callC T F k 74 a r K) a r
theorem s74_eq (k : Nat) (a : List PV) (r : List RowS) (K : List PV → List RowS → Option R) : s74 k a r K = callC T F k 74 a r K := by
  unfold s74
  exact onShape_eq (a := [.val [] .str]) (b := []) (G := fun a r => callC T F k 74 a r K) (fun x y => Eq.trans (by kernel_rfl) (Eq.trans (e74 k x.1 K).symm (by kernel_rfl))) a r
end
section
variable {R : Type}
noncomputable def S78 (k g : Nat) (a : List PV) (r : List RowS) (K : List PV → List RowS → Option R) : Option R := bif g == 72 then s72 k a r K else bif g == 74 then s74 k a r K else callC T F k g a r K
theorem S78_eq (k : Nat) : S78 (R := R) k = callC T F k := by
  funext g a r K
  exact pick_eq (fun e => by subst e; exact s72_eq k a r K) (pick_eq (fun e => by subst e; exact s74_eq k a r K) (rfl))
theorem e78 (k : Nat) (a0 : Int) (a1 : ByteArray) (a2 : List Int) (K : List PV → List RowS → Option R) : callC T F k 78 [.val [] (.int .i64) a0, .val [] .str a1, .val [(0, 0)] (.slice (.int .u8)) a2] [] K = f78 k a0 a1 a2 (fun z0 => K [.val [] (.int .i64) z0] []) := by
  rw [f78_def]
  cases k with
  | zero => rfl
  | succ k =>
    refine Eq.trans (show _ = exec T an78 (modesOf F) 0 k 16 (callC T F k) (ending T Try.f78 an78 0 K) (bodyOf Try.f78) ⟨argEnv 0 [.val [] (.int .i64) a0, .val [] .str a1, .val [(0, 0)] (.slice (.int .u8)) a2] (fun _ => none), rowsOf []⟩ (ending T Try.f78 an78 0 K) (fun _ _ => none) from by kernel_rfl) ?_
    rw [← S78_eq k, ← execS_eq T an78 (modesOf F) 0 k 16 (S78 k) (fun _ _ _ _ _ => none) (bodyOf Try.f78) (cuts_of _ _ _ _ _ _ _ _ (bodyOf Try.f78) (l := []) (by kernel_rfl) trivial)]
    kernel_rfl
noncomputable def s78 (k : Nat) (a : List PV) (r : List RowS) (K : List PV → List RowS → Option R) : Option R :=
  onShape [.val [] (.int .i64), .val [] .str, .val [(0, 0)] (.slice (.int .u8))] [] (fun v => f78 k v.1.1 v.1.2.1 v.1.2.2.1 (fun z0 => K [.val [] (.int .i64) z0] [])) (callC T F k 78 a r K) a r
theorem s78_eq (k : Nat) (a : List PV) (r : List RowS) (K : List PV → List RowS → Option R) : s78 k a r K = callC T F k 78 a r K := by
  unfold s78
  exact onShape_eq (a := [.val [] (.int .i64), .val [] .str, .val [(0, 0)] (.slice (.int .u8))]) (b := []) (G := fun a r => callC T F k 78 a r K) (fun x y => Eq.trans (by kernel_rfl) (Eq.trans (e78 k x.1 x.2.1 x.2.2.1 K).symm (by kernel_rfl))) a r
end
section
variable {R : Type}
noncomputable def S106 (k g : Nat) (a : List PV) (r : List RowS) (K : List PV → List RowS → Option R) : Option R := callC T F k g a r K
theorem S106_eq (k : Nat) : S106 (R := R) k = callC T F k := by
  funext g a r K
  exact rfl
theorem e106 (k : Nat) (K : List PV → List RowS → Option R) : callC T F k 106 [] [] K = f106 k (fun z0 z1 => K [.agg [.val [] (.int .i64) z0, .val [] (.int .i64) z1]] []) := by
  rw [f106_def]
  cases k with
  | zero => rfl
  | succ k =>
    refine Eq.trans (show _ = exec T an106 (modesOf F) 0 k 2 (callC T F k) (ending T Try.f106 an106 0 K) (bodyOf Try.f106) ⟨argEnv 0 [] (fun _ => none), rowsOf []⟩ (ending T Try.f106 an106 0 K) (fun _ _ => none) from by kernel_rfl) ?_
    rw [← S106_eq k, ← execS_eq T an106 (modesOf F) 0 k 2 (S106 k) (fun _ _ _ _ _ => none) (bodyOf Try.f106) (cuts_of _ _ _ _ _ _ _ _ (bodyOf Try.f106) (l := []) (by kernel_rfl) trivial)]
    kernel_rfl
noncomputable def s106 (k : Nat) (a : List PV) (r : List RowS) (K : List PV → List RowS → Option R) : Option R :=
  onShape [] [] (fun v => f106 k (fun z0 z1 => K [.agg [.val [] (.int .i64) z0, .val [] (.int .i64) z1]] [])) (callC T F k 106 a r K) a r
theorem s106_eq (k : Nat) (a : List PV) (r : List RowS) (K : List PV → List RowS → Option R) : s106 k a r K = callC T F k 106 a r K := by
  unfold s106
  exact onShape_eq (a := []) (b := []) (G := fun a r => callC T F k 106 a r K) (fun x y => Eq.trans (by kernel_rfl) (Eq.trans (e106 k K).symm (by kernel_rfl))) a r
end
section
variable {R : Type}
noncomputable def S75 (k g : Nat) (a : List PV) (r : List RowS) (K : List PV → List RowS → Option R) : Option R := bif g == 106 then s106 k a r K else callC T F k g a r K
theorem S75_eq (k : Nat) : S75 (R := R) k = callC T F k := by
  funext g a r K
  exact pick_eq (fun e => by subst e; exact s106_eq k a r K) (rfl)
theorem e75 (k : Nat) (a0 : List ((Int × (Int × Unit)))) (K : List PV → List RowS → Option R) : callC T F k 75 [.val [(0, 0)] (.slice (.prod (.int .i64) (.prod (.int .i64) .unit))) a0] [] K = f75 k a0 (fun z0 z1 => K [.val [] .bool z0, .val [(0, 0)] (.slice (.prod (.int .i64) (.prod (.int .i64) .unit))) z1] []) := by
  rw [f75_def]
  cases k with
  | zero => rfl
  | succ k =>
    refine Eq.trans (show _ = exec T an75 (modesOf F) 0 k 17 (callC T F k) (ending T Try.f75 an75 0 K) (bodyOf Try.f75) ⟨argEnv 0 [.val [(0, 0)] (.slice (.prod (.int .i64) (.prod (.int .i64) .unit))) a0] (fun _ => none), rowsOf []⟩ (ending T Try.f75 an75 0 K) (fun _ _ => none) from by kernel_rfl) ?_
    rw [← S75_eq k, ← execS_eq T an75 (modesOf F) 0 k 17 (S75 k) (fun _ _ _ _ _ => none) (bodyOf Try.f75) (cuts_of _ _ _ _ _ _ _ _ (bodyOf Try.f75) (l := []) (by kernel_rfl) trivial)]
    kernel_rfl
noncomputable def s75 (k : Nat) (a : List PV) (r : List RowS) (K : List PV → List RowS → Option R) : Option R :=
  onShape [.val [(0, 0)] (.slice (.prod (.int .i64) (.prod (.int .i64) .unit)))] [] (fun v => f75 k v.1.1 (fun z0 z1 => K [.val [] .bool z0, .val [(0, 0)] (.slice (.prod (.int .i64) (.prod (.int .i64) .unit))) z1] [])) (callC T F k 75 a r K) a r
theorem s75_eq (k : Nat) (a : List PV) (r : List RowS) (K : List PV → List RowS → Option R) : s75 k a r K = callC T F k 75 a r K := by
  unfold s75
  exact onShape_eq (a := [.val [(0, 0)] (.slice (.prod (.int .i64) (.prod (.int .i64) .unit)))]) (b := []) (G := fun a r => callC T F k 75 a r K) (fun x y => Eq.trans (by kernel_rfl) (Eq.trans (e75 k x.1 K).symm (by kernel_rfl))) a r
end
section
variable {R : Type}
noncomputable def S46 (k g : Nat) (a : List PV) (r : List RowS) (K : List PV → List RowS → Option R) : Option R := bif g == 72 then s72 k a r K else callC T F k g a r K
theorem S46_eq (k : Nat) : S46 (R := R) k = callC T F k := by
  funext g a r K
  exact pick_eq (fun e => by subst e; exact s72_eq k a r K) (rfl)
section
variable {R : Type} (k : Nat) (K : List PV → List RowS → Option R)
noncomputable def L46_0 (ws : List PV) (rs : List RowS) (N : St → Option R) (X : Nat → St → Option R) : Option R :=
  onShape [.val [(0, 0)] (.slice (.prod (.int .i64) (.prod (.int .i64) .unit))), .val [] (.int .i64), .val [] (.int .i64)] [] (fun v => f46_0 k (fun z0 => K [.val [] (.int .i64) z0] []) (N (sh jn46_0 [] [])) v.1.1 v.1.2.1 k v.1.2.2.1) (inner T an46 (modesOf F) 0 k 60 (S46 k) (ending T Try.f46 an46 0 K) cd46_0 (sh sp46_0 ws rs) N X) ws rs
noncomputable def L46 (id : Nat) (ws : List PV) (rs : List RowS) (N : St → Option R) (X : Nat → St → Option R) : Option R := bif id == 0 then L46_0 k K ws rs N X else none
theorem b46_0 (rec : St → Option R) (N : St → Option R) (X : Nat → St → Option R) (v0_0 : List ((Int × (Int × Unit)))) (v0_1 : Int) (v0_2 : Int) :
    execS T an46 (modesOf F) 0 k 60 (S46 k) (L46 k K) (ending T Try.f46 an46 0 K) bd46_0 (sh sp46_0 [.val [(0, 0)] (.slice (.prod (.int .i64) (.prod (.int .i64) .unit))) v0_0, .val [] (.int .i64) v0_1, .val [] (.int .i64) v0_2] []) (fun st => atHead an46 0 bd46_0 st rec) (outX an46 0 0 N X) =
      f46_0b k (fun v0_2 => rec (sh sp46_0 [.val [(0, 0)] (.slice (.prod (.int .i64) (.prod (.int .i64) .unit))) v0_0, .val [] (.int .i64) v0_1, .val [] (.int .i64) v0_2] [])) (fun z0 => K [.val [] (.int .i64) z0] []) (N (sh jn46_0 [] [])) v0_0 v0_1 v0_2 := by kernel_rfl
theorem i46_0 (N : St → Option R) (X : Nat → St → Option R) (v0_0 : List ((Int × (Int × Unit)))) (v0_1 : Int) (m : Nat) : ∀ (v0_2 : Int),
    iter (atHead an46 0 bd46_0) m (fun st N' => exec T an46 (modesOf F) 0 k 60 (S46 k) (ending T Try.f46 an46 0 K) bd46_0 st N' (outX an46 0 0 N X)) (sh sp46_0 [.val [(0, 0)] (.slice (.prod (.int .i64) (.prod (.int .i64) .unit))) v0_0, .val [] (.int .i64) v0_1, .val [] (.int .i64) v0_2] []) = f46_0d k (fun z0 => K [.val [] (.int .i64) z0] []) (N (sh jn46_0 [] [])) v0_0 v0_1 m v0_2 := by
  induction m with
  | zero => intros; rfl
  | succ m ih =>
    intro v0_2
    simp only [iter]
    rw [← execS_eq T an46 (modesOf F) 0 k 60 (S46 k) (L46 k K) bd46_0 (cuts_of _ _ _ _ _ _ _ _ bd46_0 (l := []) (by kernel_rfl) trivial)]
    refine (b46_0 k K _ N X v0_0 v0_1 v0_2).trans ?_
    simp only [f46_0d, ih]
theorem l46_0 (ws : List PV) (rs : List RowS) (N : St → Option R) (X : Nat → St → Option R) : L46 k K 0 ws rs N X = inner T an46 (modesOf F) 0 k 60 (S46 k) (ending T Try.f46 an46 0 K) cd46_0 (sh sp46_0 ws rs) N X := by
  show L46_0 k K ws rs N X = _
  unfold L46_0
  rw [f46_0_def]
  exact onShape_eq (a := [.val [(0, 0)] (.slice (.prod (.int .i64) (.prod (.int .i64) .unit))), .val [] (.int .i64), .val [] (.int .i64)]) (b := []) (G := fun ws rs => inner T an46 (modesOf F) 0 k 60 (S46 k) (ending T Try.f46 an46 0 K) cd46_0 (sh sp46_0 ws rs) N X) (fun x y => Eq.trans (by kernel_rfl) (Eq.trans (i46_0 k K N X x.1 x.2.1 k x.2.2.1).symm (by kernel_rfl))) ws rs
end
theorem e46 (k : Nat) (a0 : List ((Int × (Int × Unit)))) (a1 : Int) (K : List PV → List RowS → Option R) : callC T F k 46 [.val [(0, 0)] (.slice (.prod (.int .i64) (.prod (.int .i64) .unit))) a0, .val [] (.int .i64) a1] [] K = f46 k a0 a1 (fun z0 => K [.val [] (.int .i64) z0] []) := by
  rw [f46_def]
  cases k with
  | zero => rfl
  | succ k =>
    refine Eq.trans (show _ = exec T an46 (modesOf F) 0 k 60 (callC T F k) (ending T Try.f46 an46 0 K) (bodyOf Try.f46) ⟨argEnv 0 [.val [(0, 0)] (.slice (.prod (.int .i64) (.prod (.int .i64) .unit))) a0, .val [] (.int .i64) a1] (fun _ => none), rowsOf []⟩ (ending T Try.f46 an46 0 K) (fun _ _ => none) from by kernel_rfl) ?_
    rw [← S46_eq k, ← execS_eq T an46 (modesOf F) 0 k 60 (S46 k) (L46 k K) (bodyOf Try.f46) (cuts_of _ _ _ _ _ _ _ _ (bodyOf Try.f46) (l := [(0, sp46_0, cd46_0)]) (by kernel_rfl) ⟨l46_0 k K, trivial⟩)]
    kernel_rfl
noncomputable def s46 (k : Nat) (a : List PV) (r : List RowS) (K : List PV → List RowS → Option R) : Option R :=
  onShape [.val [(0, 0)] (.slice (.prod (.int .i64) (.prod (.int .i64) .unit))), .val [] (.int .i64)] [] (fun v => f46 k v.1.1 v.1.2.1 (fun z0 => K [.val [] (.int .i64) z0] [])) (callC T F k 46 a r K) a r
theorem s46_eq (k : Nat) (a : List PV) (r : List RowS) (K : List PV → List RowS → Option R) : s46 k a r K = callC T F k 46 a r K := by
  unfold s46
  exact onShape_eq (a := [.val [(0, 0)] (.slice (.prod (.int .i64) (.prod (.int .i64) .unit))), .val [] (.int .i64)]) (b := []) (G := fun a r => callC T F k 46 a r K) (fun x y => Eq.trans (by kernel_rfl) (Eq.trans (e46 k x.1 x.2.1 K).symm (by kernel_rfl))) a r
end
section
variable {R : Type}
noncomputable def S31 (k g : Nat) (a : List PV) (r : List RowS) (K : List PV → List RowS → Option R) : Option R := bif g == 46 then s46 k a r K else bif g == 72 then s72 k a r K else bif g == 75 then s75 k a r K else bif g == 78 then s78 k a r K else callC T F k g a r K
theorem S31_eq (k : Nat) : S31 (R := R) k = callC T F k := by
  funext g a r K
  exact pick_eq (fun e => by subst e; exact s46_eq k a r K) (pick_eq (fun e => by subst e; exact s72_eq k a r K) (pick_eq (fun e => by subst e; exact s75_eq k a r K) (pick_eq (fun e => by subst e; exact s78_eq k a r K) (rfl))))
theorem e31 (k : Nat) (a0 : Int) (a1 : Int) (a2 : ByteArray) (a3 : List Int) (a4 : Int) (a5 : List ((Int × (Int × Unit)))) (a6 : Int) (a7 : Int) (K : List PV → List RowS → Option R) : callC T F k 31 [.agg [.val [] (.int .i64) a0, .val [] (.int .i64) a1, .val [] .str a2, .val [(0, 0)] (.slice (.int .u8)) a3, .val [] (.int .i64) a4, .val [(0, 0)] (.slice (.prod (.int .i64) (.prod (.int .i64) .unit))) a5, .val [] (.int .i64) a6, .val [] (.int .i64) a7]] [] K = f31 k a0 a1 a2 a3 a4 a5 a6 a7 (fun z0 => K [.val [] (.int .i64) z0] []) := by
  rw [f31_def]
  cases k with
  | zero => rfl
  | succ k =>
    refine Eq.trans (show _ = exec T an31 (modesOf F) 0 k 87 (callC T F k) (ending T Try.f31 an31 0 K) (bodyOf Try.f31) ⟨argEnv 0 [.agg [.val [] (.int .i64) a0, .val [] (.int .i64) a1, .val [] .str a2, .val [(0, 0)] (.slice (.int .u8)) a3, .val [] (.int .i64) a4, .val [(0, 0)] (.slice (.prod (.int .i64) (.prod (.int .i64) .unit))) a5, .val [] (.int .i64) a6, .val [] (.int .i64) a7]] (fun _ => none), rowsOf []⟩ (ending T Try.f31 an31 0 K) (fun _ _ => none) from by kernel_rfl) ?_
    rw [← S31_eq k, ← execS_eq T an31 (modesOf F) 0 k 87 (S31 k) (fun _ _ _ _ _ => none) (bodyOf Try.f31) (cuts_of _ _ _ _ _ _ _ _ (bodyOf Try.f31) (l := []) (by kernel_rfl) trivial)]
    kernel_rfl
noncomputable def s31 (k : Nat) (a : List PV) (r : List RowS) (K : List PV → List RowS → Option R) : Option R :=
  onShape [.agg [.val [] (.int .i64), .val [] (.int .i64), .val [] .str, .val [(0, 0)] (.slice (.int .u8)), .val [] (.int .i64), .val [(0, 0)] (.slice (.prod (.int .i64) (.prod (.int .i64) .unit))), .val [] (.int .i64), .val [] (.int .i64)]] [] (fun v => f31 k v.1.1.1 v.1.1.2.1 v.1.1.2.2.1 v.1.1.2.2.2.1 v.1.1.2.2.2.2.1 v.1.1.2.2.2.2.2.1 v.1.1.2.2.2.2.2.2.1 v.1.1.2.2.2.2.2.2.2.1 (fun z0 => K [.val [] (.int .i64) z0] [])) (callC T F k 31 a r K) a r
theorem s31_eq (k : Nat) (a : List PV) (r : List RowS) (K : List PV → List RowS → Option R) : s31 k a r K = callC T F k 31 a r K := by
  unfold s31
  exact onShape_eq (a := [.agg [.val [] (.int .i64), .val [] (.int .i64), .val [] .str, .val [(0, 0)] (.slice (.int .u8)), .val [] (.int .i64), .val [(0, 0)] (.slice (.prod (.int .i64) (.prod (.int .i64) .unit))), .val [] (.int .i64), .val [] (.int .i64)]]) (b := []) (G := fun a r => callC T F k 31 a r K) (fun x y => Eq.trans (by kernel_rfl) (Eq.trans (e31 k x.1.1 x.1.2.1 x.1.2.2.1 x.1.2.2.2.1 x.1.2.2.2.2.1 x.1.2.2.2.2.2.1 x.1.2.2.2.2.2.2.1 x.1.2.2.2.2.2.2.2.1 K).symm (by kernel_rfl))) a r
end
section
variable {R : Type}
noncomputable def S73 (k g : Nat) (a : List PV) (r : List RowS) (K : List PV → List RowS → Option R) : Option R := callC T F k g a r K
theorem S73_eq (k : Nat) : S73 (R := R) k = callC T F k := by
  funext g a r K
  exact rfl
theorem e73 (k : Nat) (a0 : Int) (a1 : Int) (a2 : ByteArray) (a3 : Int) (a4 : Int) (a5 : Int) (a6 : List Int) (a7 : List ((Int × (Int × Unit)))) (a8 : Bool) (K : List PV → List RowS → Option R) : callC T F k 73 [.agg [.val [] (.int .i64) a0, .val [] (.int .i64) a1, .val [] .str a2, .val [] (.int .i64) a3, .val [] (.int .i64) a4, .val [] (.int .i64) a5, .val [(0, 0)] (.slice (.int .u8)) a6, .val [(0, 0)] (.slice (.prod (.int .i64) (.prod (.int .i64) .unit))) a7, .val [] .bool a8]] [] K = f73 k a0 a1 a2 a3 a4 a5 a6 a7 a8 (fun z0 => K [.val [] .bool z0] []) := by
  rw [f73_def]
  cases k with
  | zero => rfl
  | succ k =>
    refine Eq.trans (show _ = exec T an73 (modesOf F) 0 k 72 (callC T F k) (ending T Try.f73 an73 0 K) (bodyOf Try.f73) ⟨argEnv 0 [.agg [.val [] (.int .i64) a0, .val [] (.int .i64) a1, .val [] .str a2, .val [] (.int .i64) a3, .val [] (.int .i64) a4, .val [] (.int .i64) a5, .val [(0, 0)] (.slice (.int .u8)) a6, .val [(0, 0)] (.slice (.prod (.int .i64) (.prod (.int .i64) .unit))) a7, .val [] .bool a8]] (fun _ => none), rowsOf []⟩ (ending T Try.f73 an73 0 K) (fun _ _ => none) from by kernel_rfl) ?_
    rw [← S73_eq k, ← execS_eq T an73 (modesOf F) 0 k 72 (S73 k) (fun _ _ _ _ _ => none) (bodyOf Try.f73) (cuts_of _ _ _ _ _ _ _ _ (bodyOf Try.f73) (l := []) (by kernel_rfl) trivial)]
    kernel_rfl
noncomputable def s73 (k : Nat) (a : List PV) (r : List RowS) (K : List PV → List RowS → Option R) : Option R :=
  onShape [.agg [.val [] (.int .i64), .val [] (.int .i64), .val [] .str, .val [] (.int .i64), .val [] (.int .i64), .val [] (.int .i64), .val [(0, 0)] (.slice (.int .u8)), .val [(0, 0)] (.slice (.prod (.int .i64) (.prod (.int .i64) .unit))), .val [] .bool]] [] (fun v => f73 k v.1.1.1 v.1.1.2.1 v.1.1.2.2.1 v.1.1.2.2.2.1 v.1.1.2.2.2.2.1 v.1.1.2.2.2.2.2.1 v.1.1.2.2.2.2.2.2.1 v.1.1.2.2.2.2.2.2.2.1 v.1.1.2.2.2.2.2.2.2.2.1 (fun z0 => K [.val [] .bool z0] [])) (callC T F k 73 a r K) a r
theorem s73_eq (k : Nat) (a : List PV) (r : List RowS) (K : List PV → List RowS → Option R) : s73 k a r K = callC T F k 73 a r K := by
  unfold s73
  exact onShape_eq (a := [.agg [.val [] (.int .i64), .val [] (.int .i64), .val [] .str, .val [] (.int .i64), .val [] (.int .i64), .val [] (.int .i64), .val [(0, 0)] (.slice (.int .u8)), .val [(0, 0)] (.slice (.prod (.int .i64) (.prod (.int .i64) .unit))), .val [] .bool]]) (b := []) (G := fun a r => callC T F k 73 a r K) (fun x y => Eq.trans (by kernel_rfl) (Eq.trans (e73 k x.1.1 x.1.2.1 x.1.2.2.1 x.1.2.2.2.1 x.1.2.2.2.2.1 x.1.2.2.2.2.2.1 x.1.2.2.2.2.2.2.1 x.1.2.2.2.2.2.2.2.1 x.1.2.2.2.2.2.2.2.2.1 K).symm (by kernel_rfl))) a r
end
end Go.Proofs.Ytlcklflbhhnnhaa.PM
