/- The small machine's run is the typed form (printed by a program of this work). -/
import Derived.Test.YtlcklflbhhnnhaaPA0
set_option linter.unusedVariables false
set_option linter.unusedSimpArgs false
set_option maxRecDepth 100000
namespace Go.Proofs.Ytlcklflbhhnnhaa.PM
open Go
noncomputable def F : Nat → Option PFn := findN [(66, .code Try.f66 an66), (22, .code Try.f22 an22), (68, .code Try.f68 an68), (45, .code Try.f45 an45), (87, .code Try.f87 an87), (94, .code Try.f94 an94), (95, .code Try.f95 an95), (56, .code Try.f56 an56), (67, .code Try.f67 an67), (70, .code Try.f70 an70), (69, .code Try.f69 an69), (104, .code Try.f104 an104), (71, .code Try.f71 an71), (20, .code Try.f20 an20), (77, .ext [.lend (.int .u8)] (cloneSpec (.int .u8) 1)), (109, .ext [.lend (.prod (.int .i64) (.prod (.int .i64) .unit))] (cloneSpec (.prod (.int .i64) (.prod (.int .i64) .unit)) 16)), (83, .code Try.f83 an83), (119, .code Try.f119 an119), (135, .ext [.lend (.int .u8), .any] repSpec), (132, .code Try.f132 an132), (114, .code Try.f114 an114), (115, .ext [.any, .any] (sortSpec 116)), (86, .code Try.f86 an86), (120, .code Try.f120 an120), (64, .code Try.f64 an64), (131, .code Try.f131 an131), (112, .code Try.f112 an112), (92, .code Try.f92 an92), (52, .code Try.f52 an52), (18, .code Try.f18 an18), (24, .code Try.f24 an24), (51, .code Try.f51 an51), (40, .code Try.f40 an40), (38, .code Try.f38 an38), (11, .code Try.f11 an11)]
section
variable {R : Type}
noncomputable def S66 (k g : Nat) (a : List PV) (r : List RowS) (K : List PV → List RowS → Option R) : Option R := callC T F k g a r K
theorem S66_eq (k : Nat) : S66 (R := R) k = callC T F k := by
  funext g a r K
  exact rfl
theorem e66 (k : Nat) (a0 : Int) (a1 : Int) (a2 : Int) (K : List PV → List RowS → Option R) : callC T F k 66 [zi a0, zi a1, zi a2] [] K = f66 k a0 a1 a2 (fun z0 => K [.val [] .bool z0] []) := by
  rw [f66_def]
  cases k with
  | zero => rfl
  | succ k =>
    refine Eq.trans (show _ = exec T an66 (modesOf F) 0 k 15 (callC T F k) (ending T Try.f66 an66 0 K) (bodyOf Try.f66) ⟨argEnv 0 [zi a0, zi a1, zi a2] (fun _ => none), rowsOf []⟩ (ending T Try.f66 an66 0 K) (fun _ _ => none) from by kernel_rfl) ?_
    rw [← S66_eq k, ← execS_eq T an66 (modesOf F) 0 k 15 (S66 k) (fun _ _ _ _ _ => none) (bodyOf Try.f66) (cuts_of _ _ _ _ _ _ _ _ (bodyOf Try.f66) (l := []) (by kernel_rfl) trivial)]
    kernel_rfl
noncomputable def s66 (k : Nat) (a : List PV) (r : List RowS) (K : List PV → List RowS → Option R) : Option R :=
  onShape [.val [] (.int .i64), .val [] (.int .i64), .val [] (.int .i64)] [] (fun v => f66 k v.1.1 v.1.2.1 v.1.2.2.1 (fun z0 => K [.val [] .bool z0] [])) (callC T F k 66 a r K) a r
theorem s66_eq (k : Nat) (a : List PV) (r : List RowS) (K : List PV → List RowS → Option R) : s66 k a r K = callC T F k 66 a r K := by
  unfold s66
  exact onShape_eq (a := [.val [] (.int .i64), .val [] (.int .i64), .val [] (.int .i64)]) (b := []) (G := fun a r => callC T F k 66 a r K) (fun x y => Eq.trans (by kernel_rfl) (Eq.trans (e66 k x.1 x.2.1 x.2.2.1 K).symm (by kernel_rfl))) a r
end
section
variable {R : Type}
noncomputable def S22 (k g : Nat) (a : List PV) (r : List RowS) (K : List PV → List RowS → Option R) : Option R := bif g == 66 then s66 k a r K else callC T F k g a r K
theorem S22_eq (k : Nat) : S22 (R := R) k = callC T F k := by
  funext g a r K
  exact pick_eq (fun e => by subst e; exact s66_eq k a r K) (rfl)
theorem e22 (k : Nat) (a0 : Int) (a1 : Int) (a2 : Int) (a3 : Int) (a4 : Int) (K : List PV → List RowS → Option R) : callC T F k 22 [.agg [zi a0, zi a1, zi a2, zi a3, zi a4]] [] K = f22 k a0 a1 a2 a3 a4 (fun z0 => K [zi z0] []) := by
  rw [f22_def]
  cases k with
  | zero => rfl
  | succ k =>
    refine Eq.trans (show _ = exec T an22 (modesOf F) 0 k 31 (callC T F k) (ending T Try.f22 an22 0 K) (bodyOf Try.f22) ⟨argEnv 0 [.agg [zi a0, zi a1, zi a2, zi a3, zi a4]] (fun _ => none), rowsOf []⟩ (ending T Try.f22 an22 0 K) (fun _ _ => none) from by kernel_rfl) ?_
    rw [← S22_eq k, ← execS_eq T an22 (modesOf F) 0 k 31 (S22 k) (fun _ _ _ _ _ => none) (bodyOf Try.f22) (cuts_of _ _ _ _ _ _ _ _ (bodyOf Try.f22) (l := []) (by kernel_rfl) trivial)]
    kernel_rfl
noncomputable def s22 (k : Nat) (a : List PV) (r : List RowS) (K : List PV → List RowS → Option R) : Option R :=
  onShape [.agg [.val [] (.int .i64), .val [] (.int .i64), .val [] (.int .i64), .val [] (.int .i64), .val [] (.int .i64)]] [] (fun v => f22 k v.1.1.1 v.1.1.2.1 v.1.1.2.2.1 v.1.1.2.2.2.1 v.1.1.2.2.2.2.1 (fun z0 => K [zi z0] [])) (callC T F k 22 a r K) a r
theorem s22_eq (k : Nat) (a : List PV) (r : List RowS) (K : List PV → List RowS → Option R) : s22 k a r K = callC T F k 22 a r K := by
  unfold s22
  exact onShape_eq (a := [.agg [.val [] (.int .i64), .val [] (.int .i64), .val [] (.int .i64), .val [] (.int .i64), .val [] (.int .i64)]]) (b := []) (G := fun a r => callC T F k 22 a r K) (fun x y => Eq.trans (by kernel_rfl) (Eq.trans (e22 k x.1.1 x.1.2.1 x.1.2.2.1 x.1.2.2.2.1 x.1.2.2.2.2.1 K).symm (by kernel_rfl))) a r
end
section
variable {R : Type}
noncomputable def S68 (k g : Nat) (a : List PV) (r : List RowS) (K : List PV → List RowS → Option R) : Option R := callC T F k g a r K
theorem S68_eq (k : Nat) : S68 (R := R) k = callC T F k := by
  funext g a r K
  exact rfl
section
variable {R : Type} (k : Nat) (K : List PV → List RowS → Option R)
noncomputable def L68_0 (ws : List PV) (rs : List RowS) (N : St → Option R) (X : Nat → St → Option R) : Option R :=
  onShape [.val [] .str, .val [] (.int .i64), .val [] (.int .i64)] [] (fun v => f68_0 k (fun z0 => K [.val [] .bool z0] []) (N (sh jn68_0 [] [])) v.1.1 v.1.2.1 k v.1.2.2.1) (inner T an68 (modesOf F) 0 k 47 (S68 k) (ending T Try.f68 an68 0 K) cd68_0 (sh sp68_0 ws rs) N X) ws rs
noncomputable def L68 (id : Nat) (ws : List PV) (rs : List RowS) (N : St → Option R) (X : Nat → St → Option R) : Option R := bif id == 0 then L68_0 k K ws rs N X else none
theorem b68_0 (rec : St → Option R) (N : St → Option R) (X : Nat → St → Option R) (v0_0 : ByteArray) (v0_1 : Int) (v0_2 : Int) :
    execS T an68 (modesOf F) 0 k 47 (S68 k) (L68 k K) (ending T Try.f68 an68 0 K) bd68_0 (sh sp68_0 [.val [] .str v0_0, zi v0_1, zi v0_2] []) (fun st => atHead an68 0 bd68_0 st rec) (outX an68 0 0 N X) =
      f68_0b k (fun v0_2 => rec (sh sp68_0 [.val [] .str v0_0, zi v0_1, zi v0_2] [])) (fun z0 => K [.val [] .bool z0] []) (N (sh jn68_0 [] [])) v0_0 v0_1 v0_2 := by kernel_rfl
theorem i68_0 (N : St → Option R) (X : Nat → St → Option R) (v0_0 : ByteArray) (v0_1 : Int) (m : Nat) : ∀ (v0_2 : Int),
    iter (atHead an68 0 bd68_0) m (fun st N' => exec T an68 (modesOf F) 0 k 47 (S68 k) (ending T Try.f68 an68 0 K) bd68_0 st N' (outX an68 0 0 N X)) (sh sp68_0 [.val [] .str v0_0, zi v0_1, zi v0_2] []) = f68_0d k (fun z0 => K [.val [] .bool z0] []) (N (sh jn68_0 [] [])) v0_0 v0_1 m v0_2 := by
  induction m with
  | zero => intros; rfl
  | succ m ih =>
    intro v0_2
    simp only [iter]
    rw [← execS_eq T an68 (modesOf F) 0 k 47 (S68 k) (L68 k K) bd68_0 (cuts_of _ _ _ _ _ _ _ _ bd68_0 (l := []) (by kernel_rfl) trivial)]
    refine (b68_0 k K _ N X v0_0 v0_1 v0_2).trans ?_
    simp only [f68_0d, ih]
theorem l68_0 (ws : List PV) (rs : List RowS) (N : St → Option R) (X : Nat → St → Option R) : L68 k K 0 ws rs N X = inner T an68 (modesOf F) 0 k 47 (S68 k) (ending T Try.f68 an68 0 K) cd68_0 (sh sp68_0 ws rs) N X := by
  show L68_0 k K ws rs N X = _
  unfold L68_0
  rw [f68_0_def]
  exact onShape_eq (a := [.val [] .str, .val [] (.int .i64), .val [] (.int .i64)]) (b := []) (G := fun ws rs => inner T an68 (modesOf F) 0 k 47 (S68 k) (ending T Try.f68 an68 0 K) cd68_0 (sh sp68_0 ws rs) N X) (fun x y => Eq.trans (by kernel_rfl) (Eq.trans (i68_0 k K N X x.1 x.2.1 k x.2.2.1).symm (by kernel_rfl))) ws rs
end
theorem e68 (k : Nat) (a0 : ByteArray) (K : List PV → List RowS → Option R) : callC T F k 68 [.val [] .str a0] [] K = f68 k a0 (fun z0 => K [.val [] .bool z0] []) := by
  rw [f68_def]
  cases k with
  | zero => rfl
  | succ k =>
    refine Eq.trans (show _ = exec T an68 (modesOf F) 0 k 47 (callC T F k) (ending T Try.f68 an68 0 K) (bodyOf Try.f68) ⟨argEnv 0 [.val [] .str a0] (fun _ => none), rowsOf []⟩ (ending T Try.f68 an68 0 K) (fun _ _ => none) from by kernel_rfl) ?_
    rw [← S68_eq k, ← execS_eq T an68 (modesOf F) 0 k 47 (S68 k) (L68 k K) (bodyOf Try.f68) (cuts_of _ _ _ _ _ _ _ _ (bodyOf Try.f68) (l := [(0, sp68_0, cd68_0)]) (by kernel_rfl) ⟨l68_0 k K, trivial⟩)]
    kernel_rfl
noncomputable def s68 (k : Nat) (a : List PV) (r : List RowS) (K : List PV → List RowS → Option R) : Option R :=
  onShape [.val [] .str] [] (fun v => f68 k v.1.1 (fun z0 => K [.val [] .bool z0] [])) (callC T F k 68 a r K) a r
theorem s68_eq (k : Nat) (a : List PV) (r : List RowS) (K : List PV → List RowS → Option R) : s68 k a r K = callC T F k 68 a r K := by
  unfold s68
  exact onShape_eq (a := [.val [] .str]) (b := []) (G := fun a r => callC T F k 68 a r K) (fun x y => Eq.trans (by kernel_rfl) (Eq.trans (e68 k x.1 K).symm (by kernel_rfl))) a r
end
section
variable {R : Type}
noncomputable def S45 (k g : Nat) (a : List PV) (r : List RowS) (K : List PV → List RowS → Option R) : Option R := bif g == 66 then s66 k a r K else callC T F k g a r K
theorem S45_eq (k : Nat) : S45 (R := R) k = callC T F k := by
  funext g a r K
  exact pick_eq (fun e => by subst e; exact s66_eq k a r K) (rfl)
section
variable {R : Type} (k : Nat) (K : List PV → List RowS → Option R)
noncomputable def L45_0 (ws : List PV) (rs : List RowS) (N : St → Option R) (X : Nat → St → Option R) : Option R :=
  onShape [.val [(0, 0)] (.slice (.prod (.int .i64) (.prod (.int .i64) .unit))), .val [] (.int .i64), .val [(0, 0)] (.slice (.prod (.int .i64) (.prod (.int .i64) .unit))), .val [] (.int .i64), .val [] (.int .i64)] [] (fun v => f45_0 k (fun z0 => K [zi z0] []) (N (sh jn45_0 [] [])) v.1.1 v.1.2.1 v.1.2.2.1 v.1.2.2.2.1 k v.1.2.2.2.2.1) (inner T an45 (modesOf F) 0 k 51 (S45 k) (ending T Try.f45 an45 0 K) cd45_0 (sh sp45_0 ws rs) N X) ws rs
noncomputable def L45 (id : Nat) (ws : List PV) (rs : List RowS) (N : St → Option R) (X : Nat → St → Option R) : Option R := bif id == 0 then L45_0 k K ws rs N X else none
theorem b45_0 (rec : St → Option R) (N : St → Option R) (X : Nat → St → Option R) (v0_0 : zL3) (v0_1 : Int) (v0_2 : zL3) (v0_3 : Int) (v0_4 : Int) :
    execS T an45 (modesOf F) 0 k 51 (S45 k) (L45 k K) (ending T Try.f45 an45 0 K) bd45_0 (sh sp45_0 [.val [(0, 0)] (.slice (.prod (.int .i64) (.prod (.int .i64) .unit))) v0_0, zi v0_1, .val [(0, 0)] (.slice (.prod (.int .i64) (.prod (.int .i64) .unit))) v0_2, zi v0_3, zi v0_4] []) (fun st => atHead an45 0 bd45_0 st rec) (outX an45 0 0 N X) =
      f45_0b k (fun v0_4 => rec (sh sp45_0 [.val [(0, 0)] (.slice (.prod (.int .i64) (.prod (.int .i64) .unit))) v0_0, zi v0_1, .val [(0, 0)] (.slice (.prod (.int .i64) (.prod (.int .i64) .unit))) v0_2, zi v0_3, zi v0_4] [])) (fun z0 => K [zi z0] []) (N (sh jn45_0 [] [])) v0_0 v0_1 v0_2 v0_3 v0_4 := by kernel_rfl
theorem i45_0 (N : St → Option R) (X : Nat → St → Option R) (v0_0 : zL3) (v0_1 : Int) (v0_2 : zL3) (v0_3 : Int) (m : Nat) : ∀ (v0_4 : Int),
    iter (atHead an45 0 bd45_0) m (fun st N' => exec T an45 (modesOf F) 0 k 51 (S45 k) (ending T Try.f45 an45 0 K) bd45_0 st N' (outX an45 0 0 N X)) (sh sp45_0 [.val [(0, 0)] (.slice (.prod (.int .i64) (.prod (.int .i64) .unit))) v0_0, zi v0_1, .val [(0, 0)] (.slice (.prod (.int .i64) (.prod (.int .i64) .unit))) v0_2, zi v0_3, zi v0_4] []) = f45_0d k (fun z0 => K [zi z0] []) (N (sh jn45_0 [] [])) v0_0 v0_1 v0_2 v0_3 m v0_4 := by
  induction m with
  | zero => intros; rfl
  | succ m ih =>
    intro v0_4
    simp only [iter]
    rw [← execS_eq T an45 (modesOf F) 0 k 51 (S45 k) (L45 k K) bd45_0 (cuts_of _ _ _ _ _ _ _ _ bd45_0 (l := []) (by kernel_rfl) trivial)]
    refine (b45_0 k K _ N X v0_0 v0_1 v0_2 v0_3 v0_4).trans ?_
    simp only [f45_0d, ih]
theorem l45_0 (ws : List PV) (rs : List RowS) (N : St → Option R) (X : Nat → St → Option R) : L45 k K 0 ws rs N X = inner T an45 (modesOf F) 0 k 51 (S45 k) (ending T Try.f45 an45 0 K) cd45_0 (sh sp45_0 ws rs) N X := by
  show L45_0 k K ws rs N X = _
  unfold L45_0
  rw [f45_0_def]
  exact onShape_eq (a := [.val [(0, 0)] (.slice (.prod (.int .i64) (.prod (.int .i64) .unit))), .val [] (.int .i64), .val [(0, 0)] (.slice (.prod (.int .i64) (.prod (.int .i64) .unit))), .val [] (.int .i64), .val [] (.int .i64)]) (b := []) (G := fun ws rs => inner T an45 (modesOf F) 0 k 51 (S45 k) (ending T Try.f45 an45 0 K) cd45_0 (sh sp45_0 ws rs) N X) (fun x y => Eq.trans (by kernel_rfl) (Eq.trans (i45_0 k K N X x.1 x.2.1 x.2.2.1 x.2.2.2.1 k x.2.2.2.2.1).symm (by kernel_rfl))) ws rs
end
theorem e45 (k : Nat) (a0 : zL3) (a1 : Int) (K : List PV → List RowS → Option R) : callC T F k 45 [.val [(0, 0)] (.slice (.prod (.int .i64) (.prod (.int .i64) .unit))) a0, zi a1] [] K = f45 k a0 a1 (fun z0 => K [zi z0] []) := by
  rw [f45_def]
  cases k with
  | zero => rfl
  | succ k =>
    refine Eq.trans (show _ = exec T an45 (modesOf F) 0 k 51 (callC T F k) (ending T Try.f45 an45 0 K) (bodyOf Try.f45) ⟨argEnv 0 [.val [(0, 0)] (.slice (.prod (.int .i64) (.prod (.int .i64) .unit))) a0, zi a1] (fun _ => none), rowsOf []⟩ (ending T Try.f45 an45 0 K) (fun _ _ => none) from by kernel_rfl) ?_
    rw [← S45_eq k, ← execS_eq T an45 (modesOf F) 0 k 51 (S45 k) (L45 k K) (bodyOf Try.f45) (cuts_of _ _ _ _ _ _ _ _ (bodyOf Try.f45) (l := [(0, sp45_0, cd45_0)]) (by kernel_rfl) ⟨l45_0 k K, trivial⟩)]
    kernel_rfl
noncomputable def s45 (k : Nat) (a : List PV) (r : List RowS) (K : List PV → List RowS → Option R) : Option R :=
  onShape [.val [(0, 0)] (.slice (.prod (.int .i64) (.prod (.int .i64) .unit))), .val [] (.int .i64)] [] (fun v => f45 k v.1.1 v.1.2.1 (fun z0 => K [zi z0] [])) (callC T F k 45 a r K) a r
theorem s45_eq (k : Nat) (a : List PV) (r : List RowS) (K : List PV → List RowS → Option R) : s45 k a r K = callC T F k 45 a r K := by
  unfold s45
  exact onShape_eq (a := [.val [(0, 0)] (.slice (.prod (.int .i64) (.prod (.int .i64) .unit))), .val [] (.int .i64)]) (b := []) (G := fun a r => callC T F k 45 a r K) (fun x y => Eq.trans (by kernel_rfl) (Eq.trans (e45 k x.1 x.2.1 K).symm (by kernel_rfl))) a r
end
section
variable {R : Type}
noncomputable def S87 (k g : Nat) (a : List PV) (r : List RowS) (K : List PV → List RowS → Option R) : Option R := callC T F k g a r K
theorem S87_eq (k : Nat) : S87 (R := R) k = callC T F k := by
  funext g a r K
  exact rfl
section
variable {R : Type} (k : Nat) (K : List PV → List RowS → Option R)
noncomputable def L87_1000007 (ws : List PV) (rs : List RowS) (N : St → Option R) (X : Nat → St → Option R) : Option R :=
  onShape [.val [] (.int .i64), .rw 1, .val [] (.int .i64), .ptr 2 0, .val [(0, 0)] (.slice (.prod (.int .i64) (.prod (.int .i64) .unit))), .val [] (.int .i64), .val [] (.int .i64), .val [] .bool] [.arr [] (.prod (.int .i64) (.prod (.int .i64) .unit)), .vars [.val [] (.int .i64), .val [] (.int .i64)]] (fun v => f87_1000007 k (fun yN_4 => N (sh fi87_7 [zi v.1.1, .rw 1, .ptr 2 0, .val [(0, 0)] (.slice (.prod (.int .i64) (.prod (.int .i64) .unit))) v.1.2.2.2.2.1, zi v.1.2.2.2.2.2.1, zi v.1.2.2.2.2.2.2.1] [⟨0, .arr [] (.prod (.int .i64) (.prod (.int .i64) .unit)) yN_4⟩, ⟨0, .vars [zi v.2.2.1.1, zi v.2.2.1.2.1]⟩])) v.1.1 v.1.2.2.1 v.1.2.2.2.2.1 v.1.2.2.2.2.2.1 v.1.2.2.2.2.2.2.1 v.1.2.2.2.2.2.2.2.1 v.2.1 v.2.2.1.1 v.2.2.1.2.1) (inner T an87 (modesOf F) 0 k 39 (S87 k) (ending T Try.f87 an87 0 K) cd87_1000007 (sh sp87_1000007 ws rs) N X) ws rs
noncomputable def L87_0 (ws : List PV) (rs : List RowS) (N : St → Option R) (X : Nat → St → Option R) : Option R :=
  onShape [.val [] (.int .i64), .rw 1, .val [] (.int .i64), .val [(0, 0)] (.slice (.prod (.int .i64) (.prod (.int .i64) .unit))), .val [] (.int .i64), .val [] (.int .i64)] [.arr [] (.prod (.int .i64) (.prod (.int .i64) .unit))] (fun v => f87_0 k (fun y0_1 y0_2 => N (sh jn87_0 [zi v.1.1, .rw 1, zi y0_1] [⟨0, .arr [] (.prod (.int .i64) (.prod (.int .i64) .unit)) y0_2⟩])) v.1.1 v.1.2.2.2.1 v.1.2.2.2.2.1 k v.1.2.2.1 v.1.2.2.2.2.2.1 v.2.1) (inner T an87 (modesOf F) 0 k 39 (S87 k) (ending T Try.f87 an87 0 K) cd87_0 (sh sp87_0 ws rs) N X) ws rs
noncomputable def L87_1000011 (ws : List PV) (rs : List RowS) (N : St → Option R) (X : Nat → St → Option R) : Option R :=
  onShape [.val [] (.int .i64), .rw 1, .val [] (.int .i64), .val [] .bool] [.arr [] (.prod (.int .i64) (.prod (.int .i64) .unit))] (fun v => f87_1000011 k (fun yN_0 => N (sh fi87_11 [.rw 1] [⟨0, .arr [] (.prod (.int .i64) (.prod (.int .i64) .unit)) yN_0⟩])) v.1.1 v.1.2.2.1 v.1.2.2.2.1 v.2.1) (inner T an87 (modesOf F) 0 k 39 (S87 k) (ending T Try.f87 an87 0 K) cd87_1000011 (sh sp87_1000011 ws rs) N X) ws rs
noncomputable def L87 (id : Nat) (ws : List PV) (rs : List RowS) (N : St → Option R) (X : Nat → St → Option R) : Option R := bif id == 1000007 then L87_1000007 k K ws rs N X else bif id == 0 then L87_0 k K ws rs N X else bif id == 1000011 then L87_1000011 k K ws rs N X else none
theorem l87_1000007 (ws : List PV) (rs : List RowS) (N : St → Option R) (X : Nat → St → Option R) : L87 k K 1000007 ws rs N X = inner T an87 (modesOf F) 0 k 39 (S87 k) (ending T Try.f87 an87 0 K) cd87_1000007 (sh sp87_1000007 ws rs) N X := by
  show L87_1000007 k K ws rs N X = _
  unfold L87_1000007
  rw [f87_1000007_def]
  exact onShape_eq (a := [.val [] (.int .i64), .rw 1, .val [] (.int .i64), .ptr 2 0, .val [(0, 0)] (.slice (.prod (.int .i64) (.prod (.int .i64) .unit))), .val [] (.int .i64), .val [] (.int .i64), .val [] .bool]) (b := [.arr [] (.prod (.int .i64) (.prod (.int .i64) .unit)), .vars [.val [] (.int .i64), .val [] (.int .i64)]]) (G := fun ws rs => inner T an87 (modesOf F) 0 k 39 (S87 k) (ending T Try.f87 an87 0 K) cd87_1000007 (sh sp87_1000007 ws rs) N X) (fun x y => Eq.trans (by kernel_rfl) (innerS_eq T an87 (modesOf F) 0 k 39 (S87 k) (L87 k K) cd87_1000007 (l := []) (by kernel_rfl) trivial _ N X)) ws rs
theorem b87_0 (rec : St → Option R) (N : St → Option R) (X : Nat → St → Option R) (v0_0 : Int) (v0_2 : zL3) (v0_3 : Int) (v0_1 : Int) (v0_4 : Int) (v0_5 : zL4) :
    execS T an87 (modesOf F) 0 k 39 (S87 k) (L87 k K) (ending T Try.f87 an87 0 K) bd87_0 (sh sp87_0 [zi v0_0, .rw 1, zi v0_1, .val [(0, 0)] (.slice (.prod (.int .i64) (.prod (.int .i64) .unit))) v0_2, zi v0_3, zi v0_4] [⟨0, .arr [] (.prod (.int .i64) (.prod (.int .i64) .unit)) v0_5⟩]) (fun st => atHead an87 0 bd87_0 st rec) (outX an87 0 0 N X) =
      f87_0b k (fun v0_1 v0_4 v0_5 => rec (sh sp87_0 [zi v0_0, .rw 1, zi v0_1, .val [(0, 0)] (.slice (.prod (.int .i64) (.prod (.int .i64) .unit))) v0_2, zi v0_3, zi v0_4] [⟨0, .arr [] (.prod (.int .i64) (.prod (.int .i64) .unit)) v0_5⟩])) (fun y0_1 y0_2 => N (sh jn87_0 [zi v0_0, .rw 1, zi y0_1] [⟨0, .arr [] (.prod (.int .i64) (.prod (.int .i64) .unit)) y0_2⟩])) v0_0 v0_2 v0_3 v0_1 v0_4 v0_5 := by kernel_rfl
theorem i87_0 (N : St → Option R) (X : Nat → St → Option R) (v0_0 : Int) (v0_2 : zL3) (v0_3 : Int) (m : Nat) : ∀ (v0_1 : Int) (v0_4 : Int) (v0_5 : zL4),
    iter (atHead an87 0 bd87_0) m (fun st N' => exec T an87 (modesOf F) 0 k 39 (S87 k) (ending T Try.f87 an87 0 K) bd87_0 st N' (outX an87 0 0 N X)) (sh sp87_0 [zi v0_0, .rw 1, zi v0_1, .val [(0, 0)] (.slice (.prod (.int .i64) (.prod (.int .i64) .unit))) v0_2, zi v0_3, zi v0_4] [⟨0, .arr [] (.prod (.int .i64) (.prod (.int .i64) .unit)) v0_5⟩]) = f87_0d k (fun y0_1 y0_2 => N (sh jn87_0 [zi v0_0, .rw 1, zi y0_1] [⟨0, .arr [] (.prod (.int .i64) (.prod (.int .i64) .unit)) y0_2⟩])) v0_0 v0_2 v0_3 m v0_1 v0_4 v0_5 := by
  induction m with
  | zero => intros; rfl
  | succ m ih =>
    intro v0_1 v0_4 v0_5
    simp only [iter]
    rw [← execS_eq T an87 (modesOf F) 0 k 39 (S87 k) (L87 k K) bd87_0 (cuts_of _ _ _ _ _ _ _ _ bd87_0 (l := [(1000007, sp87_1000007, cd87_1000007)]) (by kernel_rfl) ⟨l87_1000007 k K, trivial⟩)]
    refine (b87_0 k K _ N X v0_0 v0_2 v0_3 v0_1 v0_4 v0_5).trans ?_
    simp only [f87_0d, ih]
theorem l87_0 (ws : List PV) (rs : List RowS) (N : St → Option R) (X : Nat → St → Option R) : L87 k K 0 ws rs N X = inner T an87 (modesOf F) 0 k 39 (S87 k) (ending T Try.f87 an87 0 K) cd87_0 (sh sp87_0 ws rs) N X := by
  show L87_0 k K ws rs N X = _
  unfold L87_0
  rw [f87_0_def]
  exact onShape_eq (a := [.val [] (.int .i64), .rw 1, .val [] (.int .i64), .val [(0, 0)] (.slice (.prod (.int .i64) (.prod (.int .i64) .unit))), .val [] (.int .i64), .val [] (.int .i64)]) (b := [.arr [] (.prod (.int .i64) (.prod (.int .i64) .unit))]) (G := fun ws rs => inner T an87 (modesOf F) 0 k 39 (S87 k) (ending T Try.f87 an87 0 K) cd87_0 (sh sp87_0 ws rs) N X) (fun x y => Eq.trans (by kernel_rfl) (Eq.trans (i87_0 k K N X x.1 x.2.2.2.1 x.2.2.2.2.1 k x.2.2.1 x.2.2.2.2.2.1 y.1).symm (by kernel_rfl))) ws rs
theorem l87_1000011 (ws : List PV) (rs : List RowS) (N : St → Option R) (X : Nat → St → Option R) : L87 k K 1000011 ws rs N X = inner T an87 (modesOf F) 0 k 39 (S87 k) (ending T Try.f87 an87 0 K) cd87_1000011 (sh sp87_1000011 ws rs) N X := by
  show L87_1000011 k K ws rs N X = _
  unfold L87_1000011
  rw [f87_1000011_def]
  exact onShape_eq (a := [.val [] (.int .i64), .rw 1, .val [] (.int .i64), .val [] .bool]) (b := [.arr [] (.prod (.int .i64) (.prod (.int .i64) .unit))]) (G := fun ws rs => inner T an87 (modesOf F) 0 k 39 (S87 k) (ending T Try.f87 an87 0 K) cd87_1000011 (sh sp87_1000011 ws rs) N X) (fun x y => Eq.trans (by kernel_rfl) (innerS_eq T an87 (modesOf F) 0 k 39 (S87 k) (L87 k K) cd87_1000011 (l := []) (by kernel_rfl) trivial _ N X)) ws rs
end
theorem e87 (k : Nat) (a0 : zL3) (a1 : Int) (K : List PV → List RowS → Option R) : callC T F k 87 [.val [(0, 0)] (.slice (.prod (.int .i64) (.prod (.int .i64) .unit))) a0, zi a1] [] K = f87 k a0 a1 (fun z0 => K [.rw 1] [⟨0, .arr [] (.prod (.int .i64) (.prod (.int .i64) .unit)) z0⟩]) := by
  rw [f87_def]
  cases k with
  | zero => rfl
  | succ k =>
    refine Eq.trans (show _ = exec T an87 (modesOf F) 0 k 39 (callC T F k) (ending T Try.f87 an87 0 K) (bodyOf Try.f87) ⟨argEnv 0 [.val [(0, 0)] (.slice (.prod (.int .i64) (.prod (.int .i64) .unit))) a0, zi a1] (fun _ => none), rowsOf []⟩ (ending T Try.f87 an87 0 K) (fun _ _ => none) from by kernel_rfl) ?_
    rw [← S87_eq k, ← execS_eq T an87 (modesOf F) 0 k 39 (S87 k) (L87 k K) (bodyOf Try.f87) (cuts_of _ _ _ _ _ _ _ _ (bodyOf Try.f87) (l := [(0, sp87_0, cd87_0), (1000011, sp87_1000011, cd87_1000011)]) (by kernel_rfl) ⟨l87_0 k K, l87_1000011 k K, trivial⟩)]
    kernel_rfl
noncomputable def s87 (k : Nat) (a : List PV) (r : List RowS) (K : List PV → List RowS → Option R) : Option R :=
  onShape [.val [(0, 0)] (.slice (.prod (.int .i64) (.prod (.int .i64) .unit))), .val [] (.int .i64)] [] (fun v => f87 k v.1.1 v.1.2.1 (fun z0 => K [.rw 1] [⟨0, .arr [] (.prod (.int .i64) (.prod (.int .i64) .unit)) z0⟩])) (callC T F k 87 a r K) a r
theorem s87_eq (k : Nat) (a : List PV) (r : List RowS) (K : List PV → List RowS → Option R) : s87 k a r K = callC T F k 87 a r K := by
  unfold s87
  exact onShape_eq (a := [.val [(0, 0)] (.slice (.prod (.int .i64) (.prod (.int .i64) .unit))), .val [] (.int .i64)]) (b := []) (G := fun a r => callC T F k 87 a r K) (fun x y => Eq.trans (by kernel_rfl) (Eq.trans (e87 k x.1 x.2.1 K).symm (by kernel_rfl))) a r
end
section
variable {R : Type}
noncomputable def S94 (k g : Nat) (a : List PV) (r : List RowS) (K : List PV → List RowS → Option R) : Option R := bif g == 87 then s87 k a r K else callC T F k g a r K
theorem S94_eq (k : Nat) : S94 (R := R) k = callC T F k := by
  funext g a r K
  exact pick_eq (fun e => by subst e; exact s87_eq k a r K) (rfl)
section
variable {R : Type} (k : Nat) (K : List PV → List RowS → Option R)
noncomputable def L94_1000004 (ws : List PV) (rs : List RowS) (N : St → Option R) (X : Nat → St → Option R) : Option R :=
  onShape [.ptr 1 0, .val [] (.int .i64), .val [] (.int .i64), .val [] .bool] [.vars [.val [] (.int .i64), .val [] (.int .i64), .val [] .str, .val [(0, 0)] (.slice (.int .u8)), .val [(0, 0)] (.slice (.prod (.int .i64) (.prod (.int .i64) .unit))), .val [] (.int .i64), .val [] (.int .i64), .val [] (.int .i64), .val [] (.int .i64)]] (fun v => f94_1000004 k (fun yN_0 => N (sh fi94_4 [.ptr 1 0, zi yN_0] [⟨0, .vars [zi v.2.1.1, zi v.2.1.2.1, .val [] .str v.2.1.2.2.1, .val [(0, 0)] (.slice (.int .u8)) v.2.1.2.2.2.1, .val [(0, 0)] (.slice (.prod (.int .i64) (.prod (.int .i64) .unit))) v.2.1.2.2.2.2.1, zi v.2.1.2.2.2.2.2.1, zi v.2.1.2.2.2.2.2.2.1, zi v.2.1.2.2.2.2.2.2.2.1, zi v.2.1.2.2.2.2.2.2.2.2.1]⟩])) v.1.2.1 v.1.2.2.1 v.1.2.2.2.1 v.2.1.1 v.2.1.2.1 v.2.1.2.2.1 v.2.1.2.2.2.1 v.2.1.2.2.2.2.1 v.2.1.2.2.2.2.2.1 v.2.1.2.2.2.2.2.2.1 v.2.1.2.2.2.2.2.2.2.1 v.2.1.2.2.2.2.2.2.2.2.1) (inner T an94 (modesOf F) 0 k 64 (S94 k) (ending T Try.f94 an94 0 K) cd94_1000004 (sh sp94_1000004 ws rs) N X) ws rs
noncomputable def L94_2 (ws : List PV) (rs : List RowS) (N : St → Option R) (X : Nat → St → Option R) : Option R :=
  onShape [.ptr 1 0, .rw 2, .val [] (.int .i64), .val [] (.int .i64), .val [(0, 0)] (.slice (.int .u8)), .val [] (.int .i64), .val [] (.int .i64)] [.vars [.val [] (.int .i64), .val [] (.int .i64), .val [] .str, .val [(0, 0)] (.slice (.int .u8)), .val [(0, 0)] (.slice (.prod (.int .i64) (.prod (.int .i64) .unit))), .val [] (.int .i64), .val [] (.int .i64), .val [] (.int .i64), .val [] (.int .i64)], .arr [] (.prod (.int .i64) (.prod (.int .i64) .unit))] (fun v => f94_2 k (fun z0 => K [zi z0] []) (N (sh jn94_2 [.ptr 1 0, .rw 2, zi v.1.2.2.1, zi v.1.2.2.2.1] [⟨0, .vars [zi v.2.1.1, zi v.2.1.2.1, .val [] .str v.2.1.2.2.1, .val [(0, 0)] (.slice (.int .u8)) v.2.1.2.2.2.1, .val [(0, 0)] (.slice (.prod (.int .i64) (.prod (.int .i64) .unit))) v.2.1.2.2.2.2.1, zi v.2.1.2.2.2.2.2.1, zi v.2.1.2.2.2.2.2.2.1, zi v.2.1.2.2.2.2.2.2.2.1, zi v.2.1.2.2.2.2.2.2.2.2.1]⟩, ⟨0, .arr [] (.prod (.int .i64) (.prod (.int .i64) .unit)) v.2.2.1⟩])) v.1.2.2.1 v.1.2.2.2.1 v.1.2.2.2.2.1 v.1.2.2.2.2.2.1 v.2.1.1 v.2.1.2.1 v.2.1.2.2.1 v.2.1.2.2.2.1 v.2.1.2.2.2.2.1 v.2.1.2.2.2.2.2.1 v.2.1.2.2.2.2.2.2.1 v.2.1.2.2.2.2.2.2.2.1 v.2.1.2.2.2.2.2.2.2.2.1 v.2.2.1 k v.1.2.2.2.2.2.2.1) (inner T an94 (modesOf F) 0 k 64 (S94 k) (ending T Try.f94 an94 0 K) cd94_2 (sh sp94_2 ws rs) N X) ws rs
noncomputable def L94_0 (ws : List PV) (rs : List RowS) (N : St → Option R) (X : Nat → St → Option R) : Option R :=
  onShape [.ptr 1 0, .rw 2, .val [] (.int .i64), .val [] (.int .i64)] [.vars [.val [] (.int .i64), .val [] (.int .i64), .val [] .str, .val [(0, 0)] (.slice (.int .u8)), .val [(0, 0)] (.slice (.prod (.int .i64) (.prod (.int .i64) .unit))), .val [] (.int .i64), .val [] (.int .i64), .val [] (.int .i64), .val [] (.int .i64)], .arr [] (.prod (.int .i64) (.prod (.int .i64) .unit))] (fun v => f94_0 k (fun z0 => K [zi z0] []) (N (sh jn94_0 [.ptr 1 0] [⟨0, .vars [zi v.2.1.1, zi v.2.1.2.1, .val [] .str v.2.1.2.2.1, .val [(0, 0)] (.slice (.int .u8)) v.2.1.2.2.2.1, .val [(0, 0)] (.slice (.prod (.int .i64) (.prod (.int .i64) .unit))) v.2.1.2.2.2.2.1, zi v.2.1.2.2.2.2.2.1, zi v.2.1.2.2.2.2.2.2.1, zi v.2.1.2.2.2.2.2.2.2.1, zi v.2.1.2.2.2.2.2.2.2.2.1]⟩])) v.1.2.2.1 v.2.1.1 v.2.1.2.1 v.2.1.2.2.1 v.2.1.2.2.2.1 v.2.1.2.2.2.2.1 v.2.1.2.2.2.2.2.1 v.2.1.2.2.2.2.2.2.1 v.2.1.2.2.2.2.2.2.2.1 v.2.1.2.2.2.2.2.2.2.2.1 v.2.2.1 k v.1.2.2.2.1) (inner T an94 (modesOf F) 0 k 64 (S94 k) (ending T Try.f94 an94 0 K) cd94_0 (sh sp94_0 ws rs) N X) ws rs
noncomputable def L94 (id : Nat) (ws : List PV) (rs : List RowS) (N : St → Option R) (X : Nat → St → Option R) : Option R := bif id == 1000004 then L94_1000004 k K ws rs N X else bif id == 2 then L94_2 k K ws rs N X else bif id == 0 then L94_0 k K ws rs N X else none
theorem l94_1000004 (ws : List PV) (rs : List RowS) (N : St → Option R) (X : Nat → St → Option R) : L94 k K 1000004 ws rs N X = inner T an94 (modesOf F) 0 k 64 (S94 k) (ending T Try.f94 an94 0 K) cd94_1000004 (sh sp94_1000004 ws rs) N X := by
  show L94_1000004 k K ws rs N X = _
  unfold L94_1000004
  rw [f94_1000004_def]
  exact onShape_eq (a := [.ptr 1 0, .val [] (.int .i64), .val [] (.int .i64), .val [] .bool]) (b := [.vars [.val [] (.int .i64), .val [] (.int .i64), .val [] .str, .val [(0, 0)] (.slice (.int .u8)), .val [(0, 0)] (.slice (.prod (.int .i64) (.prod (.int .i64) .unit))), .val [] (.int .i64), .val [] (.int .i64), .val [] (.int .i64), .val [] (.int .i64)]]) (G := fun ws rs => inner T an94 (modesOf F) 0 k 64 (S94 k) (ending T Try.f94 an94 0 K) cd94_1000004 (sh sp94_1000004 ws rs) N X) (fun x y => Eq.trans (by kernel_rfl) (innerS_eq T an94 (modesOf F) 0 k 64 (S94 k) (L94 k K) cd94_1000004 (l := []) (by kernel_rfl) trivial _ N X)) ws rs
theorem b94_2 (rec : St → Option R) (N : St → Option R) (X : Nat → St → Option R) (v2_0 : Int) (v2_1 : Int) (v2_2 : List Int) (v2_3 : Int) (v2_5 : Int) (v2_6 : Int) (v2_7 : ByteArray) (v2_8 : List Int) (v2_9 : zL3) (v2_10 : Int) (v2_11 : Int) (v2_12 : Int) (v2_13 : Int) (v2_14 : zL4) (v2_4 : Int) :
    execS T an94 (modesOf F) 0 k 64 (S94 k) (L94 k K) (ending T Try.f94 an94 0 K) bd94_2 (sh sp94_2 [.ptr 1 0, .rw 2, zi v2_0, zi v2_1, .val [(0, 0)] (.slice (.int .u8)) v2_2, zi v2_3, zi v2_4] [⟨0, .vars [zi v2_5, zi v2_6, .val [] .str v2_7, .val [(0, 0)] (.slice (.int .u8)) v2_8, .val [(0, 0)] (.slice (.prod (.int .i64) (.prod (.int .i64) .unit))) v2_9, zi v2_10, zi v2_11, zi v2_12, zi v2_13]⟩, ⟨0, .arr [] (.prod (.int .i64) (.prod (.int .i64) .unit)) v2_14⟩]) (fun st => atHead an94 0 bd94_2 st rec) (outX an94 0 2 N X) =
      f94_2b k (fun v2_4 => rec (sh sp94_2 [.ptr 1 0, .rw 2, zi v2_0, zi v2_1, .val [(0, 0)] (.slice (.int .u8)) v2_2, zi v2_3, zi v2_4] [⟨0, .vars [zi v2_5, zi v2_6, .val [] .str v2_7, .val [(0, 0)] (.slice (.int .u8)) v2_8, .val [(0, 0)] (.slice (.prod (.int .i64) (.prod (.int .i64) .unit))) v2_9, zi v2_10, zi v2_11, zi v2_12, zi v2_13]⟩, ⟨0, .arr [] (.prod (.int .i64) (.prod (.int .i64) .unit)) v2_14⟩])) (fun z0 => K [zi z0] []) (N (sh jn94_2 [.ptr 1 0, .rw 2, zi v2_0, zi v2_1] [⟨0, .vars [zi v2_5, zi v2_6, .val [] .str v2_7, .val [(0, 0)] (.slice (.int .u8)) v2_8, .val [(0, 0)] (.slice (.prod (.int .i64) (.prod (.int .i64) .unit))) v2_9, zi v2_10, zi v2_11, zi v2_12, zi v2_13]⟩, ⟨0, .arr [] (.prod (.int .i64) (.prod (.int .i64) .unit)) v2_14⟩])) v2_0 v2_1 v2_2 v2_3 v2_5 v2_6 v2_7 v2_8 v2_9 v2_10 v2_11 v2_12 v2_13 v2_14 v2_4 := by kernel_rfl
theorem i94_2 (N : St → Option R) (X : Nat → St → Option R) (v2_0 : Int) (v2_1 : Int) (v2_2 : List Int) (v2_3 : Int) (v2_5 : Int) (v2_6 : Int) (v2_7 : ByteArray) (v2_8 : List Int) (v2_9 : zL3) (v2_10 : Int) (v2_11 : Int) (v2_12 : Int) (v2_13 : Int) (v2_14 : zL4) (m : Nat) : ∀ (v2_4 : Int),
    iter (atHead an94 0 bd94_2) m (fun st N' => exec T an94 (modesOf F) 0 k 64 (S94 k) (ending T Try.f94 an94 0 K) bd94_2 st N' (outX an94 0 2 N X)) (sh sp94_2 [.ptr 1 0, .rw 2, zi v2_0, zi v2_1, .val [(0, 0)] (.slice (.int .u8)) v2_2, zi v2_3, zi v2_4] [⟨0, .vars [zi v2_5, zi v2_6, .val [] .str v2_7, .val [(0, 0)] (.slice (.int .u8)) v2_8, .val [(0, 0)] (.slice (.prod (.int .i64) (.prod (.int .i64) .unit))) v2_9, zi v2_10, zi v2_11, zi v2_12, zi v2_13]⟩, ⟨0, .arr [] (.prod (.int .i64) (.prod (.int .i64) .unit)) v2_14⟩]) = f94_2d k (fun z0 => K [zi z0] []) (N (sh jn94_2 [.ptr 1 0, .rw 2, zi v2_0, zi v2_1] [⟨0, .vars [zi v2_5, zi v2_6, .val [] .str v2_7, .val [(0, 0)] (.slice (.int .u8)) v2_8, .val [(0, 0)] (.slice (.prod (.int .i64) (.prod (.int .i64) .unit))) v2_9, zi v2_10, zi v2_11, zi v2_12, zi v2_13]⟩, ⟨0, .arr [] (.prod (.int .i64) (.prod (.int .i64) .unit)) v2_14⟩])) v2_0 v2_1 v2_2 v2_3 v2_5 v2_6 v2_7 v2_8 v2_9 v2_10 v2_11 v2_12 v2_13 v2_14 m v2_4 := by
  induction m with
  | zero => intros; rfl
  | succ m ih =>
    intro v2_4
    simp only [iter]
    rw [← execS_eq T an94 (modesOf F) 0 k 64 (S94 k) (L94 k K) bd94_2 (cuts_of _ _ _ _ _ _ _ _ bd94_2 (l := []) (by kernel_rfl) trivial)]
    refine (b94_2 k K _ N X v2_0 v2_1 v2_2 v2_3 v2_5 v2_6 v2_7 v2_8 v2_9 v2_10 v2_11 v2_12 v2_13 v2_14 v2_4).trans ?_
    simp only [f94_2d, ih]
theorem l94_2 (ws : List PV) (rs : List RowS) (N : St → Option R) (X : Nat → St → Option R) : L94 k K 2 ws rs N X = inner T an94 (modesOf F) 0 k 64 (S94 k) (ending T Try.f94 an94 0 K) cd94_2 (sh sp94_2 ws rs) N X := by
  show L94_2 k K ws rs N X = _
  unfold L94_2
  rw [f94_2_def]
  exact onShape_eq (a := [.ptr 1 0, .rw 2, .val [] (.int .i64), .val [] (.int .i64), .val [(0, 0)] (.slice (.int .u8)), .val [] (.int .i64), .val [] (.int .i64)]) (b := [.vars [.val [] (.int .i64), .val [] (.int .i64), .val [] .str, .val [(0, 0)] (.slice (.int .u8)), .val [(0, 0)] (.slice (.prod (.int .i64) (.prod (.int .i64) .unit))), .val [] (.int .i64), .val [] (.int .i64), .val [] (.int .i64), .val [] (.int .i64)], .arr [] (.prod (.int .i64) (.prod (.int .i64) .unit))]) (G := fun ws rs => inner T an94 (modesOf F) 0 k 64 (S94 k) (ending T Try.f94 an94 0 K) cd94_2 (sh sp94_2 ws rs) N X) (fun x y => Eq.trans (by kernel_rfl) (Eq.trans (i94_2 k K N X x.2.2.1 x.2.2.2.1 x.2.2.2.2.1 x.2.2.2.2.2.1 y.1.1 y.1.2.1 y.1.2.2.1 y.1.2.2.2.1 y.1.2.2.2.2.1 y.1.2.2.2.2.2.1 y.1.2.2.2.2.2.2.1 y.1.2.2.2.2.2.2.2.1 y.1.2.2.2.2.2.2.2.2.1 y.2.1 k x.2.2.2.2.2.2.1).symm (by kernel_rfl))) ws rs
theorem b94_0 (rec : St → Option R) (N : St → Option R) (X : Nat → St → Option R) (v0_0 : Int) (v0_2 : Int) (v0_3 : Int) (v0_4 : ByteArray) (v0_5 : List Int) (v0_6 : zL3) (v0_7 : Int) (v0_8 : Int) (v0_9 : Int) (v0_10 : Int) (v0_11 : zL4) (v0_1 : Int) :
    execS T an94 (modesOf F) 0 k 64 (S94 k) (L94 k K) (ending T Try.f94 an94 0 K) bd94_0 (sh sp94_0 [.ptr 1 0, .rw 2, zi v0_0, zi v0_1] [⟨0, .vars [zi v0_2, zi v0_3, .val [] .str v0_4, .val [(0, 0)] (.slice (.int .u8)) v0_5, .val [(0, 0)] (.slice (.prod (.int .i64) (.prod (.int .i64) .unit))) v0_6, zi v0_7, zi v0_8, zi v0_9, zi v0_10]⟩, ⟨0, .arr [] (.prod (.int .i64) (.prod (.int .i64) .unit)) v0_11⟩]) (fun st => atHead an94 0 bd94_0 st rec) (outX an94 0 0 N X) =
      f94_0b k (fun v0_1 => rec (sh sp94_0 [.ptr 1 0, .rw 2, zi v0_0, zi v0_1] [⟨0, .vars [zi v0_2, zi v0_3, .val [] .str v0_4, .val [(0, 0)] (.slice (.int .u8)) v0_5, .val [(0, 0)] (.slice (.prod (.int .i64) (.prod (.int .i64) .unit))) v0_6, zi v0_7, zi v0_8, zi v0_9, zi v0_10]⟩, ⟨0, .arr [] (.prod (.int .i64) (.prod (.int .i64) .unit)) v0_11⟩])) (fun z0 => K [zi z0] []) (N (sh jn94_0 [.ptr 1 0] [⟨0, .vars [zi v0_2, zi v0_3, .val [] .str v0_4, .val [(0, 0)] (.slice (.int .u8)) v0_5, .val [(0, 0)] (.slice (.prod (.int .i64) (.prod (.int .i64) .unit))) v0_6, zi v0_7, zi v0_8, zi v0_9, zi v0_10]⟩])) v0_0 v0_2 v0_3 v0_4 v0_5 v0_6 v0_7 v0_8 v0_9 v0_10 v0_11 v0_1 := by kernel_rfl
theorem i94_0 (N : St → Option R) (X : Nat → St → Option R) (v0_0 : Int) (v0_2 : Int) (v0_3 : Int) (v0_4 : ByteArray) (v0_5 : List Int) (v0_6 : zL3) (v0_7 : Int) (v0_8 : Int) (v0_9 : Int) (v0_10 : Int) (v0_11 : zL4) (m : Nat) : ∀ (v0_1 : Int),
    iter (atHead an94 0 bd94_0) m (fun st N' => exec T an94 (modesOf F) 0 k 64 (S94 k) (ending T Try.f94 an94 0 K) bd94_0 st N' (outX an94 0 0 N X)) (sh sp94_0 [.ptr 1 0, .rw 2, zi v0_0, zi v0_1] [⟨0, .vars [zi v0_2, zi v0_3, .val [] .str v0_4, .val [(0, 0)] (.slice (.int .u8)) v0_5, .val [(0, 0)] (.slice (.prod (.int .i64) (.prod (.int .i64) .unit))) v0_6, zi v0_7, zi v0_8, zi v0_9, zi v0_10]⟩, ⟨0, .arr [] (.prod (.int .i64) (.prod (.int .i64) .unit)) v0_11⟩]) = f94_0d k (fun z0 => K [zi z0] []) (N (sh jn94_0 [.ptr 1 0] [⟨0, .vars [zi v0_2, zi v0_3, .val [] .str v0_4, .val [(0, 0)] (.slice (.int .u8)) v0_5, .val [(0, 0)] (.slice (.prod (.int .i64) (.prod (.int .i64) .unit))) v0_6, zi v0_7, zi v0_8, zi v0_9, zi v0_10]⟩])) v0_0 v0_2 v0_3 v0_4 v0_5 v0_6 v0_7 v0_8 v0_9 v0_10 v0_11 m v0_1 := by
  induction m with
  | zero => intros; rfl
  | succ m ih =>
    intro v0_1
    simp only [iter]
    rw [← execS_eq T an94 (modesOf F) 0 k 64 (S94 k) (L94 k K) bd94_0 (cuts_of _ _ _ _ _ _ _ _ bd94_0 (l := [(2, sp94_2, cd94_2)]) (by kernel_rfl) ⟨l94_2 k K, trivial⟩)]
    refine (b94_0 k K _ N X v0_0 v0_2 v0_3 v0_4 v0_5 v0_6 v0_7 v0_8 v0_9 v0_10 v0_11 v0_1).trans ?_
    simp only [f94_0d, ih]
theorem l94_0 (ws : List PV) (rs : List RowS) (N : St → Option R) (X : Nat → St → Option R) : L94 k K 0 ws rs N X = inner T an94 (modesOf F) 0 k 64 (S94 k) (ending T Try.f94 an94 0 K) cd94_0 (sh sp94_0 ws rs) N X := by
  show L94_0 k K ws rs N X = _
  unfold L94_0
  rw [f94_0_def]
  exact onShape_eq (a := [.ptr 1 0, .rw 2, .val [] (.int .i64), .val [] (.int .i64)]) (b := [.vars [.val [] (.int .i64), .val [] (.int .i64), .val [] .str, .val [(0, 0)] (.slice (.int .u8)), .val [(0, 0)] (.slice (.prod (.int .i64) (.prod (.int .i64) .unit))), .val [] (.int .i64), .val [] (.int .i64), .val [] (.int .i64), .val [] (.int .i64)], .arr [] (.prod (.int .i64) (.prod (.int .i64) .unit))]) (G := fun ws rs => inner T an94 (modesOf F) 0 k 64 (S94 k) (ending T Try.f94 an94 0 K) cd94_0 (sh sp94_0 ws rs) N X) (fun x y => Eq.trans (by kernel_rfl) (Eq.trans (i94_0 k K N X x.2.2.1 y.1.1 y.1.2.1 y.1.2.2.1 y.1.2.2.2.1 y.1.2.2.2.2.1 y.1.2.2.2.2.2.1 y.1.2.2.2.2.2.2.1 y.1.2.2.2.2.2.2.2.1 y.1.2.2.2.2.2.2.2.2.1 y.2.1 k x.2.2.2.1).symm (by kernel_rfl))) ws rs
end
theorem e94 (k : Nat) (a0 : Int) (a1 : Int) (a2 : ByteArray) (a3 : List Int) (a4 : zL3) (a5 : Int) (a6 : Int) (a7 : Int) (a8 : Int) (K : List PV → List RowS → Option R) : callC T F k 94 [.agg [zi a0, zi a1, .val [] .str a2, .val [(0, 0)] (.slice (.int .u8)) a3, .val [(0, 0)] (.slice (.prod (.int .i64) (.prod (.int .i64) .unit))) a4, zi a5, zi a6, zi a7, zi a8]] [] K = f94 k a0 a1 a2 a3 a4 a5 a6 a7 a8 (fun z0 => K [zi z0] []) := by
  rw [f94_def]
  cases k with
  | zero => rfl
  | succ k =>
    refine Eq.trans (show _ = exec T an94 (modesOf F) 0 k 64 (callC T F k) (ending T Try.f94 an94 0 K) (bodyOf Try.f94) ⟨argEnv 0 [.agg [zi a0, zi a1, .val [] .str a2, .val [(0, 0)] (.slice (.int .u8)) a3, .val [(0, 0)] (.slice (.prod (.int .i64) (.prod (.int .i64) .unit))) a4, zi a5, zi a6, zi a7, zi a8]] (fun _ => none), rowsOf []⟩ (ending T Try.f94 an94 0 K) (fun _ _ => none) from by kernel_rfl) ?_
    rw [← S94_eq k, ← execS_eq T an94 (modesOf F) 0 k 64 (S94 k) (L94 k K) (bodyOf Try.f94) (cuts_of _ _ _ _ _ _ _ _ (bodyOf Try.f94) (l := [(1000004, sp94_1000004, cd94_1000004), (0, sp94_0, cd94_0)]) (by kernel_rfl) ⟨l94_1000004 k K, l94_0 k K, trivial⟩)]
    kernel_rfl
noncomputable def s94 (k : Nat) (a : List PV) (r : List RowS) (K : List PV → List RowS → Option R) : Option R :=
  onShape [.agg [.val [] (.int .i64), .val [] (.int .i64), .val [] .str, .val [(0, 0)] (.slice (.int .u8)), .val [(0, 0)] (.slice (.prod (.int .i64) (.prod (.int .i64) .unit))), .val [] (.int .i64), .val [] (.int .i64), .val [] (.int .i64), .val [] (.int .i64)]] [] (fun v => f94 k v.1.1.1 v.1.1.2.1 v.1.1.2.2.1 v.1.1.2.2.2.1 v.1.1.2.2.2.2.1 v.1.1.2.2.2.2.2.1 v.1.1.2.2.2.2.2.2.1 v.1.1.2.2.2.2.2.2.2.1 v.1.1.2.2.2.2.2.2.2.2.1 (fun z0 => K [zi z0] [])) (callC T F k 94 a r K) a r
theorem s94_eq (k : Nat) (a : List PV) (r : List RowS) (K : List PV → List RowS → Option R) : s94 k a r K = callC T F k 94 a r K := by
  unfold s94
  exact onShape_eq (a := [.agg [.val [] (.int .i64), .val [] (.int .i64), .val [] .str, .val [(0, 0)] (.slice (.int .u8)), .val [(0, 0)] (.slice (.prod (.int .i64) (.prod (.int .i64) .unit))), .val [] (.int .i64), .val [] (.int .i64), .val [] (.int .i64), .val [] (.int .i64)]]) (b := []) (G := fun a r => callC T F k 94 a r K) (fun x y => Eq.trans (by kernel_rfl) (Eq.trans (e94 k x.1.1 x.1.2.1 x.1.2.2.1 x.1.2.2.2.1 x.1.2.2.2.2.1 x.1.2.2.2.2.2.1 x.1.2.2.2.2.2.2.1 x.1.2.2.2.2.2.2.2.1 x.1.2.2.2.2.2.2.2.2.1 K).symm (by kernel_rfl))) a r
end
section
variable {R : Type}
noncomputable def S95 (k g : Nat) (a : List PV) (r : List RowS) (K : List PV → List RowS → Option R) : Option R := bif g == 87 then s87 k a r K else callC T F k g a r K
theorem S95_eq (k : Nat) : S95 (R := R) k = callC T F k := by
  funext g a r K
  exact pick_eq (fun e => by subst e; exact s87_eq k a r K) (rfl)
theorem e95 (k : Nat) (a0 : Int) (a1 : Int) (a2 : ByteArray) (a3 : List Int) (a4 : zL3) (a5 : Int) (a6 : Int) (a7 : Int) (a8 : Int) (K : List PV → List RowS → Option R) : callC T F k 95 [.agg [zi a0, zi a1, .val [] .str a2, .val [(0, 0)] (.slice (.int .u8)) a3, .val [(0, 0)] (.slice (.prod (.int .i64) (.prod (.int .i64) .unit))) a4, zi a5, zi a6, zi a7, zi a8]] [] K = f95 k a0 a1 a2 a3 a4 a5 a6 a7 a8 (fun z0 => K [.rw 1] [⟨0, .arr [] (.prod (.int .i64) (.prod (.int .i64) .unit)) z0⟩]) := by
  rw [f95_def]
  cases k with
  | zero => rfl
  | succ k =>
    refine Eq.trans (show _ = exec T an95 (modesOf F) 0 k 8 (callC T F k) (ending T Try.f95 an95 0 K) (bodyOf Try.f95) ⟨argEnv 0 [.agg [zi a0, zi a1, .val [] .str a2, .val [(0, 0)] (.slice (.int .u8)) a3, .val [(0, 0)] (.slice (.prod (.int .i64) (.prod (.int .i64) .unit))) a4, zi a5, zi a6, zi a7, zi a8]] (fun _ => none), rowsOf []⟩ (ending T Try.f95 an95 0 K) (fun _ _ => none) from by kernel_rfl) ?_
    rw [← S95_eq k, ← execS_eq T an95 (modesOf F) 0 k 8 (S95 k) (fun _ _ _ _ _ => none) (bodyOf Try.f95) (cuts_of _ _ _ _ _ _ _ _ (bodyOf Try.f95) (l := []) (by kernel_rfl) trivial)]
    kernel_rfl
noncomputable def s95 (k : Nat) (a : List PV) (r : List RowS) (K : List PV → List RowS → Option R) : Option R :=
  onShape [.agg [.val [] (.int .i64), .val [] (.int .i64), .val [] .str, .val [(0, 0)] (.slice (.int .u8)), .val [(0, 0)] (.slice (.prod (.int .i64) (.prod (.int .i64) .unit))), .val [] (.int .i64), .val [] (.int .i64), .val [] (.int .i64), .val [] (.int .i64)]] [] (fun v => f95 k v.1.1.1 v.1.1.2.1 v.1.1.2.2.1 v.1.1.2.2.2.1 v.1.1.2.2.2.2.1 v.1.1.2.2.2.2.2.1 v.1.1.2.2.2.2.2.2.1 v.1.1.2.2.2.2.2.2.2.1 v.1.1.2.2.2.2.2.2.2.2.1 (fun z0 => K [.rw 1] [⟨0, .arr [] (.prod (.int .i64) (.prod (.int .i64) .unit)) z0⟩])) (callC T F k 95 a r K) a r
theorem s95_eq (k : Nat) (a : List PV) (r : List RowS) (K : List PV → List RowS → Option R) : s95 k a r K = callC T F k 95 a r K := by
  unfold s95
  exact onShape_eq (a := [.agg [.val [] (.int .i64), .val [] (.int .i64), .val [] .str, .val [(0, 0)] (.slice (.int .u8)), .val [(0, 0)] (.slice (.prod (.int .i64) (.prod (.int .i64) .unit))), .val [] (.int .i64), .val [] (.int .i64), .val [] (.int .i64), .val [] (.int .i64)]]) (b := []) (G := fun a r => callC T F k 95 a r K) (fun x y => Eq.trans (by kernel_rfl) (Eq.trans (e95 k x.1.1 x.1.2.1 x.1.2.2.1 x.1.2.2.2.1 x.1.2.2.2.2.1 x.1.2.2.2.2.2.1 x.1.2.2.2.2.2.2.1 x.1.2.2.2.2.2.2.2.1 x.1.2.2.2.2.2.2.2.2.1 K).symm (by kernel_rfl))) a r
end
section
variable {R : Type}
noncomputable def S56 (k g : Nat) (a : List PV) (r : List RowS) (K : List PV → List RowS → Option R) : Option R := bif g == 45 then s45 k a r K else bif g == 66 then s66 k a r K else bif g == 68 then s68 k a r K else bif g == 94 then s94 k a r K else bif g == 95 then s95 k a r K else callC T F k g a r K
theorem S56_eq (k : Nat) : S56 (R := R) k = callC T F k := by
  funext g a r K
  exact pick_eq (fun e => by subst e; exact s45_eq k a r K) (pick_eq (fun e => by subst e; exact s66_eq k a r K) (pick_eq (fun e => by subst e; exact s68_eq k a r K) (pick_eq (fun e => by subst e; exact s94_eq k a r K) (pick_eq (fun e => by subst e; exact s95_eq k a r K) (rfl)))))
section
variable {R : Type} (k : Nat) (K : List PV → List RowS → Option R)
noncomputable def L56_1000011 (ws : List PV) (rs : List RowS) (N : St → Option R) (X : Nat → St → Option R) : Option R :=
  onShape [.ptr 1 0, .val [] (.int .i64), .val [] .bool] [.vars [.val [] (.int .i64), .val [] (.int .i64), .val [] .str, .val [(0, 0)] (.slice (.int .u8)), .val [(0, 0)] (.slice (.prod (.int .i64) (.prod (.int .i64) .unit))), .val [] (.int .i64), .val [] (.int .i64), .val [] (.int .i64), .val [] (.int .i64)]] (fun v => f56_1000011 k (fun yN_0 => N (sh fi56_11 [.ptr 1 0, zi yN_0] [⟨0, .vars [zi v.2.1.1, zi v.2.1.2.1, .val [] .str v.2.1.2.2.1, .val [(0, 0)] (.slice (.int .u8)) v.2.1.2.2.2.1, .val [(0, 0)] (.slice (.prod (.int .i64) (.prod (.int .i64) .unit))) v.2.1.2.2.2.2.1, zi v.2.1.2.2.2.2.2.1, zi v.2.1.2.2.2.2.2.2.1, zi v.2.1.2.2.2.2.2.2.2.1, zi v.2.1.2.2.2.2.2.2.2.2.1]⟩])) v.1.2.1 v.1.2.2.1 v.2.1.1 v.2.1.2.1 v.2.1.2.2.1 v.2.1.2.2.2.1 v.2.1.2.2.2.2.1 v.2.1.2.2.2.2.2.1 v.2.1.2.2.2.2.2.2.1 v.2.1.2.2.2.2.2.2.2.1 v.2.1.2.2.2.2.2.2.2.2.1) (inner T an56 (modesOf F) 0 k 132 (S56 k) (ending T Try.f56 an56 0 K) cd56_1000011 (sh sp56_1000011 ws rs) N X) ws rs
noncomputable def L56 (id : Nat) (ws : List PV) (rs : List RowS) (N : St → Option R) (X : Nat → St → Option R) : Option R := bif id == 1000011 then L56_1000011 k K ws rs N X else none
theorem l56_1000011 (ws : List PV) (rs : List RowS) (N : St → Option R) (X : Nat → St → Option R) : L56 k K 1000011 ws rs N X = inner T an56 (modesOf F) 0 k 132 (S56 k) (ending T Try.f56 an56 0 K) cd56_1000011 (sh sp56_1000011 ws rs) N X := by
  show L56_1000011 k K ws rs N X = _
  unfold L56_1000011
  rw [f56_1000011_def]
  exact onShape_eq (a := [.ptr 1 0, .val [] (.int .i64), .val [] .bool]) (b := [.vars [.val [] (.int .i64), .val [] (.int .i64), .val [] .str, .val [(0, 0)] (.slice (.int .u8)), .val [(0, 0)] (.slice (.prod (.int .i64) (.prod (.int .i64) .unit))), .val [] (.int .i64), .val [] (.int .i64), .val [] (.int .i64), .val [] (.int .i64)]]) (G := fun ws rs => inner T an56 (modesOf F) 0 k 132 (S56 k) (ending T Try.f56 an56 0 K) cd56_1000011 (sh sp56_1000011 ws rs) N X) (fun x y => Eq.trans (by kernel_rfl) (innerS_eq T an56 (modesOf F) 0 k 132 (S56 k) (L56 k K) cd56_1000011 (l := []) (by kernel_rfl) trivial _ N X)) ws rs
end
theorem e56 (k : Nat) (a0 : Int) (a1 : Int) (a2 : ByteArray) (a3 : List Int) (a4 : zL3) (a5 : Int) (a6 : Int) (a7 : Int) (a8 : Int) (K : List PV → List RowS → Option R) : callC T F k 56 [.agg [zi a0, zi a1, .val [] .str a2, .val [(0, 0)] (.slice (.int .u8)) a3, .val [(0, 0)] (.slice (.prod (.int .i64) (.prod (.int .i64) .unit))) a4, zi a5, zi a6, zi a7, zi a8]] [] K = f56 k a0 a1 a2 a3 a4 a5 a6 a7 a8 (fun z0 => K [zi z0] []) := by
  rw [f56_def]
  cases k with
  | zero => rfl
  | succ k =>
    refine Eq.trans (show _ = exec T an56 (modesOf F) 0 k 132 (callC T F k) (ending T Try.f56 an56 0 K) (bodyOf Try.f56) ⟨argEnv 0 [.agg [zi a0, zi a1, .val [] .str a2, .val [(0, 0)] (.slice (.int .u8)) a3, .val [(0, 0)] (.slice (.prod (.int .i64) (.prod (.int .i64) .unit))) a4, zi a5, zi a6, zi a7, zi a8]] (fun _ => none), rowsOf []⟩ (ending T Try.f56 an56 0 K) (fun _ _ => none) from by kernel_rfl) ?_
    rw [← S56_eq k, ← execS_eq T an56 (modesOf F) 0 k 132 (S56 k) (L56 k K) (bodyOf Try.f56) (cuts_of _ _ _ _ _ _ _ _ (bodyOf Try.f56) (l := [(1000011, sp56_1000011, cd56_1000011)]) (by kernel_rfl) ⟨l56_1000011 k K, trivial⟩)]
    kernel_rfl
noncomputable def s56 (k : Nat) (a : List PV) (r : List RowS) (K : List PV → List RowS → Option R) : Option R :=
  onShape [.agg [.val [] (.int .i64), .val [] (.int .i64), .val [] .str, .val [(0, 0)] (.slice (.int .u8)), .val [(0, 0)] (.slice (.prod (.int .i64) (.prod (.int .i64) .unit))), .val [] (.int .i64), .val [] (.int .i64), .val [] (.int .i64), .val [] (.int .i64)]] [] (fun v => f56 k v.1.1.1 v.1.1.2.1 v.1.1.2.2.1 v.1.1.2.2.2.1 v.1.1.2.2.2.2.1 v.1.1.2.2.2.2.2.1 v.1.1.2.2.2.2.2.2.1 v.1.1.2.2.2.2.2.2.2.1 v.1.1.2.2.2.2.2.2.2.2.1 (fun z0 => K [zi z0] [])) (callC T F k 56 a r K) a r
theorem s56_eq (k : Nat) (a : List PV) (r : List RowS) (K : List PV → List RowS → Option R) : s56 k a r K = callC T F k 56 a r K := by
  unfold s56
  exact onShape_eq (a := [.agg [.val [] (.int .i64), .val [] (.int .i64), .val [] .str, .val [(0, 0)] (.slice (.int .u8)), .val [(0, 0)] (.slice (.prod (.int .i64) (.prod (.int .i64) .unit))), .val [] (.int .i64), .val [] (.int .i64), .val [] (.int .i64), .val [] (.int .i64)]]) (b := []) (G := fun a r => callC T F k 56 a r K) (fun x y => Eq.trans (by kernel_rfl) (Eq.trans (e56 k x.1.1 x.1.2.1 x.1.2.2.1 x.1.2.2.2.1 x.1.2.2.2.2.1 x.1.2.2.2.2.2.1 x.1.2.2.2.2.2.2.1 x.1.2.2.2.2.2.2.2.1 x.1.2.2.2.2.2.2.2.2.1 K).symm (by kernel_rfl))) a r
end
section
variable {R : Type}
noncomputable def S67 (k g : Nat) (a : List PV) (r : List RowS) (K : List PV → List RowS → Option R) : Option R := callC T F k g a r K
theorem S67_eq (k : Nat) : S67 (R := R) k = callC T F k := by
  funext g a r K
  exact rfl
section
variable {R : Type} (k : Nat) (K : List PV → List RowS → Option R)
noncomputable def L67_1000013 (ws : List PV) (rs : List RowS) (N : St → Option R) (X : Nat → St → Option R) : Option R :=
  onShape [.ptr 1 0, .val [] .bool] [.vars [.val [] (.int .i64), .val [] (.int .i64), .val [] .str, .val [] (.int .i64), .val [] (.int .i64), .val [] (.int .i64), .val [(0, 0)] (.slice (.int .u8)), .val [(0, 0)] (.slice (.prod (.int .i64) (.prod (.int .i64) .unit))), .val [] .bool]] (fun v => f67_1000013 k (fun yN_8 => N (sh fi67_13 [.ptr 1 0] [⟨0, .vars [zi v.2.1.1, zi v.2.1.2.1, .val [] .str v.2.1.2.2.1, zi v.2.1.2.2.2.1, zi v.2.1.2.2.2.2.1, zi v.2.1.2.2.2.2.2.1, .val [(0, 0)] (.slice (.int .u8)) v.2.1.2.2.2.2.2.2.1, .val [(0, 0)] (.slice (.prod (.int .i64) (.prod (.int .i64) .unit))) v.2.1.2.2.2.2.2.2.2.1, .val [] .bool yN_8]⟩])) v.1.2.1 v.2.1.1 v.2.1.2.1 v.2.1.2.2.1 v.2.1.2.2.2.1 v.2.1.2.2.2.2.1 v.2.1.2.2.2.2.2.1 v.2.1.2.2.2.2.2.2.1 v.2.1.2.2.2.2.2.2.2.1 v.2.1.2.2.2.2.2.2.2.2.1) (inner T an67 (modesOf F) 0 k 62 (S67 k) (ending T Try.f67 an67 0 K) cd67_1000013 (sh sp67_1000013 ws rs) N X) ws rs
noncomputable def L67_1000011 (ws : List PV) (rs : List RowS) (N : St → Option R) (X : Nat → St → Option R) : Option R :=
  onShape [.ptr 1 0, .val [] (.int .i64), .val [] .bool] [.vars [.val [] (.int .i64), .val [] (.int .i64), .val [] .str, .val [] (.int .i64), .val [] (.int .i64), .val [] (.int .i64), .val [(0, 0)] (.slice (.int .u8)), .val [(0, 0)] (.slice (.prod (.int .i64) (.prod (.int .i64) .unit))), .val [] .bool]] (fun v => f67_1000011 k (fun yN_7 yN_8 => N (sh fi67_11 [.ptr 1 0] [⟨0, .vars [zi v.2.1.1, zi v.2.1.2.1, .val [] .str v.2.1.2.2.1, zi v.2.1.2.2.2.1, zi v.2.1.2.2.2.2.1, zi v.2.1.2.2.2.2.2.1, .val [(0, 0)] (.slice (.int .u8)) v.2.1.2.2.2.2.2.2.1, .val [(0, 0)] (.slice (.prod (.int .i64) (.prod (.int .i64) .unit))) yN_7, .val [] .bool yN_8]⟩])) v.1.2.1 v.1.2.2.1 v.2.1.1 v.2.1.2.1 v.2.1.2.2.1 v.2.1.2.2.2.1 v.2.1.2.2.2.2.1 v.2.1.2.2.2.2.2.1 v.2.1.2.2.2.2.2.2.1 v.2.1.2.2.2.2.2.2.2.1 v.2.1.2.2.2.2.2.2.2.2.1) (inner T an67 (modesOf F) 0 k 62 (S67 k) (ending T Try.f67 an67 0 K) cd67_1000011 (sh sp67_1000011 ws rs) N X) ws rs
noncomputable def L67_1000009 (ws : List PV) (rs : List RowS) (N : St → Option R) (X : Nat → St → Option R) : Option R :=
  onShape [.ptr 1 0, .val [] (.int .i64), .val [] .bool] [.vars [.val [] (.int .i64), .val [] (.int .i64), .val [] .str, .val [] (.int .i64), .val [] (.int .i64), .val [] (.int .i64), .val [(0, 0)] (.slice (.int .u8)), .val [(0, 0)] (.slice (.prod (.int .i64) (.prod (.int .i64) .unit))), .val [] .bool]] (fun v => f67_1000009 k (fun yN_3 yN_4 yN_7 yN_8 => N (sh fi67_9 [.ptr 1 0] [⟨0, .vars [zi v.2.1.1, zi v.2.1.2.1, .val [] .str v.2.1.2.2.1, zi yN_3, zi yN_4, zi v.2.1.2.2.2.2.2.1, .val [(0, 0)] (.slice (.int .u8)) v.2.1.2.2.2.2.2.2.1, .val [(0, 0)] (.slice (.prod (.int .i64) (.prod (.int .i64) .unit))) yN_7, .val [] .bool yN_8]⟩])) v.1.2.1 v.1.2.2.1 v.2.1.1 v.2.1.2.1 v.2.1.2.2.1 v.2.1.2.2.2.1 v.2.1.2.2.2.2.1 v.2.1.2.2.2.2.2.1 v.2.1.2.2.2.2.2.2.1 v.2.1.2.2.2.2.2.2.2.1 v.2.1.2.2.2.2.2.2.2.2.1) (inner T an67 (modesOf F) 0 k 62 (S67 k) (ending T Try.f67 an67 0 K) cd67_1000009 (sh sp67_1000009 ws rs) N X) ws rs
noncomputable def L67_1000007 (ws : List PV) (rs : List RowS) (N : St → Option R) (X : Nat → St → Option R) : Option R :=
  onShape [.ptr 1 0, .val [] (.int .i64), .val [] .bool] [.vars [.val [] (.int .i64), .val [] (.int .i64), .val [] .str, .val [] (.int .i64), .val [] (.int .i64), .val [] (.int .i64), .val [(0, 0)] (.slice (.int .u8)), .val [(0, 0)] (.slice (.prod (.int .i64) (.prod (.int .i64) .unit))), .val [] .bool]] (fun v => f67_1000007 k (fun yN_3 yN_4 yN_5 yN_6 yN_7 yN_8 => N (sh fi67_7 [.ptr 1 0] [⟨0, .vars [zi v.2.1.1, zi v.2.1.2.1, .val [] .str v.2.1.2.2.1, zi yN_3, zi yN_4, zi yN_5, .val [(0, 0)] (.slice (.int .u8)) yN_6, .val [(0, 0)] (.slice (.prod (.int .i64) (.prod (.int .i64) .unit))) yN_7, .val [] .bool yN_8]⟩])) v.1.2.1 v.1.2.2.1 v.2.1.1 v.2.1.2.1 v.2.1.2.2.1 v.2.1.2.2.2.1 v.2.1.2.2.2.2.1 v.2.1.2.2.2.2.2.1 v.2.1.2.2.2.2.2.2.1 v.2.1.2.2.2.2.2.2.2.1 v.2.1.2.2.2.2.2.2.2.2.1) (inner T an67 (modesOf F) 0 k 62 (S67 k) (ending T Try.f67 an67 0 K) cd67_1000007 (sh sp67_1000007 ws rs) N X) ws rs
noncomputable def L67_1000005 (ws : List PV) (rs : List RowS) (N : St → Option R) (X : Nat → St → Option R) : Option R :=
  onShape [.ptr 1 0, .val [] (.int .i64), .val [] .bool] [.vars [.val [] (.int .i64), .val [] (.int .i64), .val [] .str, .val [] (.int .i64), .val [] (.int .i64), .val [] (.int .i64), .val [(0, 0)] (.slice (.int .u8)), .val [(0, 0)] (.slice (.prod (.int .i64) (.prod (.int .i64) .unit))), .val [] .bool]] (fun v => f67_1000005 k (fun yN_2 yN_3 yN_4 yN_5 yN_6 yN_7 yN_8 => N (sh fi67_5 [.ptr 1 0] [⟨0, .vars [zi v.2.1.1, zi v.2.1.2.1, .val [] .str yN_2, zi yN_3, zi yN_4, zi yN_5, .val [(0, 0)] (.slice (.int .u8)) yN_6, .val [(0, 0)] (.slice (.prod (.int .i64) (.prod (.int .i64) .unit))) yN_7, .val [] .bool yN_8]⟩])) v.1.2.1 v.1.2.2.1 v.2.1.1 v.2.1.2.1 v.2.1.2.2.1 v.2.1.2.2.2.1 v.2.1.2.2.2.2.1 v.2.1.2.2.2.2.2.1 v.2.1.2.2.2.2.2.2.1 v.2.1.2.2.2.2.2.2.2.1 v.2.1.2.2.2.2.2.2.2.2.1) (inner T an67 (modesOf F) 0 k 62 (S67 k) (ending T Try.f67 an67 0 K) cd67_1000005 (sh sp67_1000005 ws rs) N X) ws rs
noncomputable def L67 (id : Nat) (ws : List PV) (rs : List RowS) (N : St → Option R) (X : Nat → St → Option R) : Option R := bif id == 1000013 then L67_1000013 k K ws rs N X else bif id == 1000011 then L67_1000011 k K ws rs N X else bif id == 1000009 then L67_1000009 k K ws rs N X else bif id == 1000007 then L67_1000007 k K ws rs N X else bif id == 1000005 then L67_1000005 k K ws rs N X else none
theorem l67_1000013 (ws : List PV) (rs : List RowS) (N : St → Option R) (X : Nat → St → Option R) : L67 k K 1000013 ws rs N X = inner T an67 (modesOf F) 0 k 62 (S67 k) (ending T Try.f67 an67 0 K) cd67_1000013 (sh sp67_1000013 ws rs) N X := by
  show L67_1000013 k K ws rs N X = _
  unfold L67_1000013
  rw [f67_1000013_def]
  exact onShape_eq (a := [.ptr 1 0, .val [] .bool]) (b := [.vars [.val [] (.int .i64), .val [] (.int .i64), .val [] .str, .val [] (.int .i64), .val [] (.int .i64), .val [] (.int .i64), .val [(0, 0)] (.slice (.int .u8)), .val [(0, 0)] (.slice (.prod (.int .i64) (.prod (.int .i64) .unit))), .val [] .bool]]) (G := fun ws rs => inner T an67 (modesOf F) 0 k 62 (S67 k) (ending T Try.f67 an67 0 K) cd67_1000013 (sh sp67_1000013 ws rs) N X) (fun x y => Eq.trans (by kernel_rfl) (innerS_eq T an67 (modesOf F) 0 k 62 (S67 k) (L67 k K) cd67_1000013 (l := []) (by kernel_rfl) trivial _ N X)) ws rs
theorem l67_1000011 (ws : List PV) (rs : List RowS) (N : St → Option R) (X : Nat → St → Option R) : L67 k K 1000011 ws rs N X = inner T an67 (modesOf F) 0 k 62 (S67 k) (ending T Try.f67 an67 0 K) cd67_1000011 (sh sp67_1000011 ws rs) N X := by
  show L67_1000011 k K ws rs N X = _
  unfold L67_1000011
  rw [f67_1000011_def]
  exact onShape_eq (a := [.ptr 1 0, .val [] (.int .i64), .val [] .bool]) (b := [.vars [.val [] (.int .i64), .val [] (.int .i64), .val [] .str, .val [] (.int .i64), .val [] (.int .i64), .val [] (.int .i64), .val [(0, 0)] (.slice (.int .u8)), .val [(0, 0)] (.slice (.prod (.int .i64) (.prod (.int .i64) .unit))), .val [] .bool]]) (G := fun ws rs => inner T an67 (modesOf F) 0 k 62 (S67 k) (ending T Try.f67 an67 0 K) cd67_1000011 (sh sp67_1000011 ws rs) N X) (fun x y => Eq.trans (by kernel_rfl) (innerS_eq T an67 (modesOf F) 0 k 62 (S67 k) (L67 k K) cd67_1000011 (l := [(1000013, sp67_1000013, cd67_1000013)]) (by kernel_rfl) ⟨l67_1000013 k K, trivial⟩ _ N X)) ws rs
theorem l67_1000009 (ws : List PV) (rs : List RowS) (N : St → Option R) (X : Nat → St → Option R) : L67 k K 1000009 ws rs N X = inner T an67 (modesOf F) 0 k 62 (S67 k) (ending T Try.f67 an67 0 K) cd67_1000009 (sh sp67_1000009 ws rs) N X := by
  show L67_1000009 k K ws rs N X = _
  unfold L67_1000009
  rw [f67_1000009_def]
  exact onShape_eq (a := [.ptr 1 0, .val [] (.int .i64), .val [] .bool]) (b := [.vars [.val [] (.int .i64), .val [] (.int .i64), .val [] .str, .val [] (.int .i64), .val [] (.int .i64), .val [] (.int .i64), .val [(0, 0)] (.slice (.int .u8)), .val [(0, 0)] (.slice (.prod (.int .i64) (.prod (.int .i64) .unit))), .val [] .bool]]) (G := fun ws rs => inner T an67 (modesOf F) 0 k 62 (S67 k) (ending T Try.f67 an67 0 K) cd67_1000009 (sh sp67_1000009 ws rs) N X) (fun x y => Eq.trans (by kernel_rfl) (innerS_eq T an67 (modesOf F) 0 k 62 (S67 k) (L67 k K) cd67_1000009 (l := [(1000011, sp67_1000011, cd67_1000011)]) (by kernel_rfl) ⟨l67_1000011 k K, trivial⟩ _ N X)) ws rs
theorem l67_1000007 (ws : List PV) (rs : List RowS) (N : St → Option R) (X : Nat → St → Option R) : L67 k K 1000007 ws rs N X = inner T an67 (modesOf F) 0 k 62 (S67 k) (ending T Try.f67 an67 0 K) cd67_1000007 (sh sp67_1000007 ws rs) N X := by
  show L67_1000007 k K ws rs N X = _
  unfold L67_1000007
  rw [f67_1000007_def]
  exact onShape_eq (a := [.ptr 1 0, .val [] (.int .i64), .val [] .bool]) (b := [.vars [.val [] (.int .i64), .val [] (.int .i64), .val [] .str, .val [] (.int .i64), .val [] (.int .i64), .val [] (.int .i64), .val [(0, 0)] (.slice (.int .u8)), .val [(0, 0)] (.slice (.prod (.int .i64) (.prod (.int .i64) .unit))), .val [] .bool]]) (G := fun ws rs => inner T an67 (modesOf F) 0 k 62 (S67 k) (ending T Try.f67 an67 0 K) cd67_1000007 (sh sp67_1000007 ws rs) N X) (fun x y => Eq.trans (by kernel_rfl) (innerS_eq T an67 (modesOf F) 0 k 62 (S67 k) (L67 k K) cd67_1000007 (l := [(1000009, sp67_1000009, cd67_1000009)]) (by kernel_rfl) ⟨l67_1000009 k K, trivial⟩ _ N X)) ws rs
theorem l67_1000005 (ws : List PV) (rs : List RowS) (N : St → Option R) (X : Nat → St → Option R) : L67 k K 1000005 ws rs N X = inner T an67 (modesOf F) 0 k 62 (S67 k) (ending T Try.f67 an67 0 K) cd67_1000005 (sh sp67_1000005 ws rs) N X := by
  show L67_1000005 k K ws rs N X = _
  unfold L67_1000005
  rw [f67_1000005_def]
  exact onShape_eq (a := [.ptr 1 0, .val [] (.int .i64), .val [] .bool]) (b := [.vars [.val [] (.int .i64), .val [] (.int .i64), .val [] .str, .val [] (.int .i64), .val [] (.int .i64), .val [] (.int .i64), .val [(0, 0)] (.slice (.int .u8)), .val [(0, 0)] (.slice (.prod (.int .i64) (.prod (.int .i64) .unit))), .val [] .bool]]) (G := fun ws rs => inner T an67 (modesOf F) 0 k 62 (S67 k) (ending T Try.f67 an67 0 K) cd67_1000005 (sh sp67_1000005 ws rs) N X) (fun x y => Eq.trans (by kernel_rfl) (innerS_eq T an67 (modesOf F) 0 k 62 (S67 k) (L67 k K) cd67_1000005 (l := [(1000007, sp67_1000007, cd67_1000007)]) (by kernel_rfl) ⟨l67_1000007 k K, trivial⟩ _ N X)) ws rs
end
theorem e67 (k : Nat) (a0 : Int) (a1 : Int) (a2 : ByteArray) (a3 : Int) (a4 : Int) (a5 : Int) (a6 : List Int) (a7 : zL3) (a8 : Bool) (K : List PV → List RowS → Option R) : callC T F k 67 [.agg [zi a0, zi a1, .val [] .str a2, zi a3, zi a4, zi a5, .val [(0, 0)] (.slice (.int .u8)) a6, .val [(0, 0)] (.slice (.prod (.int .i64) (.prod (.int .i64) .unit))) a7, .val [] .bool a8]] [] K = f67 k a0 a1 a2 a3 a4 a5 a6 a7 a8 (fun z0 => K [.val [] .bool z0] []) := by
  rw [f67_def]
  cases k with
  | zero => rfl
  | succ k =>
    refine Eq.trans (show _ = exec T an67 (modesOf F) 0 k 62 (callC T F k) (ending T Try.f67 an67 0 K) (bodyOf Try.f67) ⟨argEnv 0 [.agg [zi a0, zi a1, .val [] .str a2, zi a3, zi a4, zi a5, .val [(0, 0)] (.slice (.int .u8)) a6, .val [(0, 0)] (.slice (.prod (.int .i64) (.prod (.int .i64) .unit))) a7, .val [] .bool a8]] (fun _ => none), rowsOf []⟩ (ending T Try.f67 an67 0 K) (fun _ _ => none) from by kernel_rfl) ?_
    rw [← S67_eq k, ← execS_eq T an67 (modesOf F) 0 k 62 (S67 k) (L67 k K) (bodyOf Try.f67) (cuts_of _ _ _ _ _ _ _ _ (bodyOf Try.f67) (l := [(1000005, sp67_1000005, cd67_1000005)]) (by kernel_rfl) ⟨l67_1000005 k K, trivial⟩)]
    kernel_rfl
noncomputable def s67 (k : Nat) (a : List PV) (r : List RowS) (K : List PV → List RowS → Option R) : Option R :=
  onShape [.agg [.val [] (.int .i64), .val [] (.int .i64), .val [] .str, .val [] (.int .i64), .val [] (.int .i64), .val [] (.int .i64), .val [(0, 0)] (.slice (.int .u8)), .val [(0, 0)] (.slice (.prod (.int .i64) (.prod (.int .i64) .unit))), .val [] .bool]] [] (fun v => f67 k v.1.1.1 v.1.1.2.1 v.1.1.2.2.1 v.1.1.2.2.2.1 v.1.1.2.2.2.2.1 v.1.1.2.2.2.2.2.1 v.1.1.2.2.2.2.2.2.1 v.1.1.2.2.2.2.2.2.2.1 v.1.1.2.2.2.2.2.2.2.2.1 (fun z0 => K [.val [] .bool z0] [])) (callC T F k 67 a r K) a r
theorem s67_eq (k : Nat) (a : List PV) (r : List RowS) (K : List PV → List RowS → Option R) : s67 k a r K = callC T F k 67 a r K := by
  unfold s67
  exact onShape_eq (a := [.agg [.val [] (.int .i64), .val [] (.int .i64), .val [] .str, .val [] (.int .i64), .val [] (.int .i64), .val [] (.int .i64), .val [(0, 0)] (.slice (.int .u8)), .val [(0, 0)] (.slice (.prod (.int .i64) (.prod (.int .i64) .unit))), .val [] .bool]]) (b := []) (G := fun a r => callC T F k 67 a r K) (fun x y => Eq.trans (by kernel_rfl) (Eq.trans (e67 k x.1.1 x.1.2.1 x.1.2.2.1 x.1.2.2.2.1 x.1.2.2.2.2.1 x.1.2.2.2.2.2.1 x.1.2.2.2.2.2.2.1 x.1.2.2.2.2.2.2.2.1 x.1.2.2.2.2.2.2.2.2.1 K).symm (by kernel_rfl))) a r
end
section
variable {R : Type}
noncomputable def S70 (k g : Nat) (a : List PV) (r : List RowS) (K : List PV → List RowS → Option R) : Option R := bif g == 66 then s66 k a r K else callC T F k g a r K
theorem S70_eq (k : Nat) : S70 (R := R) k = callC T F k := by
  funext g a r K
  exact pick_eq (fun e => by subst e; exact s66_eq k a r K) (rfl)
theorem e70 (k : Nat) (a0 : Int) (a1 : Int) (a2 : Int) (K : List PV → List RowS → Option R) : callC T F k 70 [zi a0, zi a1, zi a2] [] K = f70 k a0 a1 a2 (fun z0 => K [zi z0] []) := by
  rw [f70_def]
  cases k with
  | zero => rfl
  | succ k =>
    refine Eq.trans (show _ = exec T an70 (modesOf F) 0 k 12 (callC T F k) (ending T Try.f70 an70 0 K) (bodyOf Try.f70) ⟨argEnv 0 [zi a0, zi a1, zi a2] (fun _ => none), rowsOf []⟩ (ending T Try.f70 an70 0 K) (fun _ _ => none) from by kernel_rfl) ?_
    rw [← S70_eq k, ← execS_eq T an70 (modesOf F) 0 k 12 (S70 k) (fun _ _ _ _ _ => none) (bodyOf Try.f70) (cuts_of _ _ _ _ _ _ _ _ (bodyOf Try.f70) (l := []) (by kernel_rfl) trivial)]
    kernel_rfl
noncomputable def s70 (k : Nat) (a : List PV) (r : List RowS) (K : List PV → List RowS → Option R) : Option R :=
  onShape [.val [] (.int .i64), .val [] (.int .i64), .val [] (.int .i64)] [] (fun v => f70 k v.1.1 v.1.2.1 v.1.2.2.1 (fun z0 => K [zi z0] [])) (callC T F k 70 a r K) a r
theorem s70_eq (k : Nat) (a : List PV) (r : List RowS) (K : List PV → List RowS → Option R) : s70 k a r K = callC T F k 70 a r K := by
  unfold s70
  exact onShape_eq (a := [.val [] (.int .i64), .val [] (.int .i64), .val [] (.int .i64)]) (b := []) (G := fun a r => callC T F k 70 a r K) (fun x y => Eq.trans (by kernel_rfl) (Eq.trans (e70 k x.1 x.2.1 x.2.2.1 K).symm (by kernel_rfl))) a r
end
section
variable {R : Type}
noncomputable def S69 (k g : Nat) (a : List PV) (r : List RowS) (K : List PV → List RowS → Option R) : Option R := callC T F k g a r K
theorem S69_eq (k : Nat) : S69 (R := R) k = callC T F k := by
  funext g a r K
  exact rfl
section
variable {R : Type} (k : Nat) (K : List PV → List RowS → Option R)
noncomputable def L69_0 (ws : List PV) (rs : List RowS) (N : St → Option R) (X : Nat → St → Option R) : Option R :=
  onShape [.val [(0, 0)] (.slice (.int .i64)), .val [] (.int .i64), .val [] (.int .i64)] [] (fun v => f69_0 k (fun z0 => K [zi z0] []) (N (sh jn69_0 [] [])) v.1.1 v.1.2.1 k v.1.2.2.1) (inner T an69 (modesOf F) 0 k 15 (S69 k) (ending T Try.f69 an69 0 K) cd69_0 (sh sp69_0 ws rs) N X) ws rs
noncomputable def L69 (id : Nat) (ws : List PV) (rs : List RowS) (N : St → Option R) (X : Nat → St → Option R) : Option R := bif id == 0 then L69_0 k K ws rs N X else none
theorem b69_0 (rec : St → Option R) (N : St → Option R) (X : Nat → St → Option R) (v0_0 : List Int) (v0_1 : Int) (v0_2 : Int) :
    execS T an69 (modesOf F) 0 k 15 (S69 k) (L69 k K) (ending T Try.f69 an69 0 K) bd69_0 (sh sp69_0 [.val [(0, 0)] (.slice (.int .i64)) v0_0, zi v0_1, zi v0_2] []) (fun st => atHead an69 0 bd69_0 st rec) (outX an69 0 0 N X) =
      f69_0b k (fun v0_2 => rec (sh sp69_0 [.val [(0, 0)] (.slice (.int .i64)) v0_0, zi v0_1, zi v0_2] [])) (fun z0 => K [zi z0] []) (N (sh jn69_0 [] [])) v0_0 v0_1 v0_2 := by kernel_rfl
theorem i69_0 (N : St → Option R) (X : Nat → St → Option R) (v0_0 : List Int) (v0_1 : Int) (m : Nat) : ∀ (v0_2 : Int),
    iter (atHead an69 0 bd69_0) m (fun st N' => exec T an69 (modesOf F) 0 k 15 (S69 k) (ending T Try.f69 an69 0 K) bd69_0 st N' (outX an69 0 0 N X)) (sh sp69_0 [.val [(0, 0)] (.slice (.int .i64)) v0_0, zi v0_1, zi v0_2] []) = f69_0d k (fun z0 => K [zi z0] []) (N (sh jn69_0 [] [])) v0_0 v0_1 m v0_2 := by
  induction m with
  | zero => intros; rfl
  | succ m ih =>
    intro v0_2
    simp only [iter]
    rw [← execS_eq T an69 (modesOf F) 0 k 15 (S69 k) (L69 k K) bd69_0 (cuts_of _ _ _ _ _ _ _ _ bd69_0 (l := []) (by kernel_rfl) trivial)]
    refine (b69_0 k K _ N X v0_0 v0_1 v0_2).trans ?_
    simp only [f69_0d, ih]
theorem l69_0 (ws : List PV) (rs : List RowS) (N : St → Option R) (X : Nat → St → Option R) : L69 k K 0 ws rs N X = inner T an69 (modesOf F) 0 k 15 (S69 k) (ending T Try.f69 an69 0 K) cd69_0 (sh sp69_0 ws rs) N X := by
  show L69_0 k K ws rs N X = _
  unfold L69_0
  rw [f69_0_def]
  exact onShape_eq (a := [.val [(0, 0)] (.slice (.int .i64)), .val [] (.int .i64), .val [] (.int .i64)]) (b := []) (G := fun ws rs => inner T an69 (modesOf F) 0 k 15 (S69 k) (ending T Try.f69 an69 0 K) cd69_0 (sh sp69_0 ws rs) N X) (fun x y => Eq.trans (by kernel_rfl) (Eq.trans (i69_0 k K N X x.1 x.2.1 k x.2.2.1).symm (by kernel_rfl))) ws rs
end
theorem e69 (k : Nat) (a0 : List Int) (K : List PV → List RowS → Option R) : callC T F k 69 [.val [(0, 0)] (.slice (.int .i64)) a0] [] K = f69 k a0 (fun z0 => K [zi z0] []) := by
  rw [f69_def]
  cases k with
  | zero => rfl
  | succ k =>
    refine Eq.trans (show _ = exec T an69 (modesOf F) 0 k 15 (callC T F k) (ending T Try.f69 an69 0 K) (bodyOf Try.f69) ⟨argEnv 0 [.val [(0, 0)] (.slice (.int .i64)) a0] (fun _ => none), rowsOf []⟩ (ending T Try.f69 an69 0 K) (fun _ _ => none) from by kernel_rfl) ?_
    rw [← S69_eq k, ← execS_eq T an69 (modesOf F) 0 k 15 (S69 k) (L69 k K) (bodyOf Try.f69) (cuts_of _ _ _ _ _ _ _ _ (bodyOf Try.f69) (l := [(0, sp69_0, cd69_0)]) (by kernel_rfl) ⟨l69_0 k K, trivial⟩)]
    kernel_rfl
noncomputable def s69 (k : Nat) (a : List PV) (r : List RowS) (K : List PV → List RowS → Option R) : Option R :=
  onShape [.val [(0, 0)] (.slice (.int .i64))] [] (fun v => f69 k v.1.1 (fun z0 => K [zi z0] [])) (callC T F k 69 a r K) a r
theorem s69_eq (k : Nat) (a : List PV) (r : List RowS) (K : List PV → List RowS → Option R) : s69 k a r K = callC T F k 69 a r K := by
  unfold s69
  exact onShape_eq (a := [.val [(0, 0)] (.slice (.int .i64))]) (b := []) (G := fun a r => callC T F k 69 a r K) (fun x y => Eq.trans (by kernel_rfl) (Eq.trans (e69 k x.1 K).symm (by kernel_rfl))) a r
end
section
variable {R : Type}
noncomputable def S104 (k g : Nat) (a : List PV) (r : List RowS) (K : List PV → List RowS → Option R) : Option R := callC T F k g a r K
theorem S104_eq (k : Nat) : S104 (R := R) k = callC T F k := by
  funext g a r K
  exact rfl
theorem e104 (k : Nat) (K : List PV → List RowS → Option R) : callC T F k 104 [] [] K = f104 k (fun z0 z1 => K [.agg [zi z0, zi z1]] []) := by
  rw [f104_def]
  cases k with
  | zero => rfl
  | succ k =>
    refine Eq.trans (show _ = exec T an104 (modesOf F) 0 k 2 (callC T F k) (ending T Try.f104 an104 0 K) (bodyOf Try.f104) ⟨argEnv 0 [] (fun _ => none), rowsOf []⟩ (ending T Try.f104 an104 0 K) (fun _ _ => none) from by kernel_rfl) ?_
    rw [← S104_eq k, ← execS_eq T an104 (modesOf F) 0 k 2 (S104 k) (fun _ _ _ _ _ => none) (bodyOf Try.f104) (cuts_of _ _ _ _ _ _ _ _ (bodyOf Try.f104) (l := []) (by kernel_rfl) trivial)]
    kernel_rfl
noncomputable def s104 (k : Nat) (a : List PV) (r : List RowS) (K : List PV → List RowS → Option R) : Option R :=
  onShape [] [] (fun v => f104 k (fun z0 z1 => K [.agg [zi z0, zi z1]] [])) (callC T F k 104 a r K) a r
theorem s104_eq (k : Nat) (a : List PV) (r : List RowS) (K : List PV → List RowS → Option R) : s104 k a r K = callC T F k 104 a r K := by
  unfold s104
  exact onShape_eq (a := []) (b := []) (G := fun a r => callC T F k 104 a r K) (fun x y => Eq.trans (by kernel_rfl) (Eq.trans (e104 k K).symm (by kernel_rfl))) a r
end
section
variable {R : Type}
noncomputable def S71 (k g : Nat) (a : List PV) (r : List RowS) (K : List PV → List RowS → Option R) : Option R := bif g == 104 then s104 k a r K else callC T F k g a r K
theorem S71_eq (k : Nat) : S71 (R := R) k = callC T F k := by
  funext g a r K
  exact pick_eq (fun e => by subst e; exact s104_eq k a r K) (rfl)
theorem e71 (k : Nat) (a0 : zL3) (K : List PV → List RowS → Option R) : callC T F k 71 [.val [(0, 0)] (.slice (.prod (.int .i64) (.prod (.int .i64) .unit))) a0] [] K = f71 k a0 (fun z0 z1 => K [.val [(0, 0)] (.slice (.prod (.int .i64) (.prod (.int .i64) .unit))) z0, .val [] .bool z1] []) := by
  rw [f71_def]
  cases k with
  | zero => rfl
  | succ k =>
    refine Eq.trans (show _ = exec T an71 (modesOf F) 0 k 17 (callC T F k) (ending T Try.f71 an71 0 K) (bodyOf Try.f71) ⟨argEnv 0 [.val [(0, 0)] (.slice (.prod (.int .i64) (.prod (.int .i64) .unit))) a0] (fun _ => none), rowsOf []⟩ (ending T Try.f71 an71 0 K) (fun _ _ => none) from by kernel_rfl) ?_
    rw [← S71_eq k, ← execS_eq T an71 (modesOf F) 0 k 17 (S71 k) (fun _ _ _ _ _ => none) (bodyOf Try.f71) (cuts_of _ _ _ _ _ _ _ _ (bodyOf Try.f71) (l := []) (by kernel_rfl) trivial)]
    kernel_rfl
noncomputable def s71 (k : Nat) (a : List PV) (r : List RowS) (K : List PV → List RowS → Option R) : Option R :=
  onShape [.val [(0, 0)] (.slice (.prod (.int .i64) (.prod (.int .i64) .unit)))] [] (fun v => f71 k v.1.1 (fun z0 z1 => K [.val [(0, 0)] (.slice (.prod (.int .i64) (.prod (.int .i64) .unit))) z0, .val [] .bool z1] [])) (callC T F k 71 a r K) a r
theorem s71_eq (k : Nat) (a : List PV) (r : List RowS) (K : List PV → List RowS → Option R) : s71 k a r K = callC T F k 71 a r K := by
  unfold s71
  exact onShape_eq (a := [.val [(0, 0)] (.slice (.prod (.int .i64) (.prod (.int .i64) .unit)))]) (b := []) (G := fun a r => callC T F k 71 a r K) (fun x y => Eq.trans (by kernel_rfl) (Eq.trans (e71 k x.1 K).symm (by kernel_rfl))) a r
end
section
variable {R : Type}
noncomputable def S20 (k g : Nat) (a : List PV) (r : List RowS) (K : List PV → List RowS → Option R) : Option R := bif g == 45 then s45 k a r K else bif g == 66 then s66 k a r K else bif g == 67 then s67 k a r K else bif g == 68 then s68 k a r K else bif g == 69 then s69 k a r K else bif g == 70 then s70 k a r K else bif g == 71 then s71 k a r K else callC T F k g a r K
theorem S20_eq (k : Nat) : S20 (R := R) k = callC T F k := by
  funext g a r K
  exact pick_eq (fun e => by subst e; exact s45_eq k a r K) (pick_eq (fun e => by subst e; exact s66_eq k a r K) (pick_eq (fun e => by subst e; exact s67_eq k a r K) (pick_eq (fun e => by subst e; exact s68_eq k a r K) (pick_eq (fun e => by subst e; exact s69_eq k a r K) (pick_eq (fun e => by subst e; exact s70_eq k a r K) (pick_eq (fun e => by subst e; exact s71_eq k a r K) (rfl)))))))
section
variable {R : Type} (k : Nat) (K : List PV → List RowS → Option R)
noncomputable def L20_1000015 (ws : List PV) (rs : List RowS) (N : St → Option R) (X : Nat → St → Option R) : Option R :=
  onShape [.ptr 1 0, .val [] (.int .i64), .val [] .bool] [.vars [.val [] (.int .i64), .val [] (.int .i64), .val [] .str, .val [] (.int .i64), .val [] (.int .i64), .val [] (.int .i64), .val [(0, 0)] (.slice (.int .u8)), .val [(0, 0)] (.slice (.prod (.int .i64) (.prod (.int .i64) .unit))), .val [] .bool]] (fun v => f20_1000015 k (fun z0 => K [zi z0] []) (N (sh fi20_15 [] [])) v.1.2.1 v.1.2.2.1 v.2.1.1 v.2.1.2.1 v.2.1.2.2.1 v.2.1.2.2.2.1 v.2.1.2.2.2.2.1 v.2.1.2.2.2.2.2.1 v.2.1.2.2.2.2.2.2.1 v.2.1.2.2.2.2.2.2.2.1 v.2.1.2.2.2.2.2.2.2.2.1) (inner T an20 (modesOf F) 0 k 81 (S20 k) (ending T Try.f20 an20 0 K) cd20_1000015 (sh sp20_1000015 ws rs) N X) ws rs
noncomputable def L20 (id : Nat) (ws : List PV) (rs : List RowS) (N : St → Option R) (X : Nat → St → Option R) : Option R := bif id == 1000015 then L20_1000015 k K ws rs N X else none
theorem l20_1000015 (ws : List PV) (rs : List RowS) (N : St → Option R) (X : Nat → St → Option R) : L20 k K 1000015 ws rs N X = inner T an20 (modesOf F) 0 k 81 (S20 k) (ending T Try.f20 an20 0 K) cd20_1000015 (sh sp20_1000015 ws rs) N X := by
  show L20_1000015 k K ws rs N X = _
  unfold L20_1000015
  rw [f20_1000015_def]
  exact onShape_eq (a := [.ptr 1 0, .val [] (.int .i64), .val [] .bool]) (b := [.vars [.val [] (.int .i64), .val [] (.int .i64), .val [] .str, .val [] (.int .i64), .val [] (.int .i64), .val [] (.int .i64), .val [(0, 0)] (.slice (.int .u8)), .val [(0, 0)] (.slice (.prod (.int .i64) (.prod (.int .i64) .unit))), .val [] .bool]]) (G := fun ws rs => inner T an20 (modesOf F) 0 k 81 (S20 k) (ending T Try.f20 an20 0 K) cd20_1000015 (sh sp20_1000015 ws rs) N X) (fun x y => Eq.trans (by kernel_rfl) (innerS_eq T an20 (modesOf F) 0 k 81 (S20 k) (L20 k K) cd20_1000015 (l := []) (by kernel_rfl) trivial _ N X)) ws rs
end
theorem e20 (k : Nat) (a0 : Int) (a1 : Int) (a2 : ByteArray) (a3 : Int) (a4 : Int) (a5 : Int) (a6 : List Int) (a7 : zL3) (a8 : Bool) (K : List PV → List RowS → Option R) : callC T F k 20 [.agg [zi a0, zi a1, .val [] .str a2, zi a3, zi a4, zi a5, .val [(0, 0)] (.slice (.int .u8)) a6, .val [(0, 0)] (.slice (.prod (.int .i64) (.prod (.int .i64) .unit))) a7, .val [] .bool a8]] [] K = f20 k a0 a1 a2 a3 a4 a5 a6 a7 a8 (fun z0 => K [zi z0] []) := by
  rw [f20_def]
  cases k with
  | zero => rfl
  | succ k =>
    refine Eq.trans (show _ = exec T an20 (modesOf F) 0 k 81 (callC T F k) (ending T Try.f20 an20 0 K) (bodyOf Try.f20) ⟨argEnv 0 [.agg [zi a0, zi a1, .val [] .str a2, zi a3, zi a4, zi a5, .val [(0, 0)] (.slice (.int .u8)) a6, .val [(0, 0)] (.slice (.prod (.int .i64) (.prod (.int .i64) .unit))) a7, .val [] .bool a8]] (fun _ => none), rowsOf []⟩ (ending T Try.f20 an20 0 K) (fun _ _ => none) from by kernel_rfl) ?_
    rw [← S20_eq k, ← execS_eq T an20 (modesOf F) 0 k 81 (S20 k) (L20 k K) (bodyOf Try.f20) (cuts_of _ _ _ _ _ _ _ _ (bodyOf Try.f20) (l := [(1000015, sp20_1000015, cd20_1000015)]) (by kernel_rfl) ⟨l20_1000015 k K, trivial⟩)]
    kernel_rfl
noncomputable def s20 (k : Nat) (a : List PV) (r : List RowS) (K : List PV → List RowS → Option R) : Option R :=
  onShape [.agg [.val [] (.int .i64), .val [] (.int .i64), .val [] .str, .val [] (.int .i64), .val [] (.int .i64), .val [] (.int .i64), .val [(0, 0)] (.slice (.int .u8)), .val [(0, 0)] (.slice (.prod (.int .i64) (.prod (.int .i64) .unit))), .val [] .bool]] [] (fun v => f20 k v.1.1.1 v.1.1.2.1 v.1.1.2.2.1 v.1.1.2.2.2.1 v.1.1.2.2.2.2.1 v.1.1.2.2.2.2.2.1 v.1.1.2.2.2.2.2.2.1 v.1.1.2.2.2.2.2.2.2.1 v.1.1.2.2.2.2.2.2.2.2.1 (fun z0 => K [zi z0] [])) (callC T F k 20 a r K) a r
theorem s20_eq (k : Nat) (a : List PV) (r : List RowS) (K : List PV → List RowS → Option R) : s20 k a r K = callC T F k 20 a r K := by
  unfold s20
  exact onShape_eq (a := [.agg [.val [] (.int .i64), .val [] (.int .i64), .val [] .str, .val [] (.int .i64), .val [] (.int .i64), .val [] (.int .i64), .val [(0, 0)] (.slice (.int .u8)), .val [(0, 0)] (.slice (.prod (.int .i64) (.prod (.int .i64) .unit))), .val [] .bool]]) (b := []) (G := fun a r => callC T F k 20 a r K) (fun x y => Eq.trans (by kernel_rfl) (Eq.trans (e20 k x.1.1 x.1.2.1 x.1.2.2.1 x.1.2.2.2.1 x.1.2.2.2.2.1 x.1.2.2.2.2.2.1 x.1.2.2.2.2.2.2.1 x.1.2.2.2.2.2.2.2.1 x.1.2.2.2.2.2.2.2.2.1 K).symm (by kernel_rfl))) a r
end
section
variable {R : Type}
theorem e77 (k : Nat) (a0 : List Int) (K : List PV → List RowS → Option R) : callC T F k 77 [.val [(0, 0)] (.slice (.int .u8)) a0] [] K = f77 k a0 (fun z0 => K [.rw 1] [⟨0, .arr [] (.int .u8) z0⟩]) := by
  rw [f77_def]
  cases k with
  | zero => rfl
  | succ k => exact clone_call (m := [.lend (.int .u8)]) (ty := (.int .u8)) (bytes := 1) (by kernel_rfl) a0 K
noncomputable def s77 (k : Nat) (a : List PV) (r : List RowS) (K : List PV → List RowS → Option R) : Option R :=
  onShape [.val [(0, 0)] (.slice (.int .u8))] [] (fun v => f77 k v.1.1 (fun z0 => K [.rw 1] [⟨0, .arr [] (.int .u8) z0⟩])) (callC T F k 77 a r K) a r
theorem s77_eq (k : Nat) (a : List PV) (r : List RowS) (K : List PV → List RowS → Option R) : s77 k a r K = callC T F k 77 a r K := by
  unfold s77
  exact onShape_eq (a := [.val [(0, 0)] (.slice (.int .u8))]) (b := []) (G := fun a r => callC T F k 77 a r K) (fun x y => Eq.trans (by kernel_rfl) (Eq.trans (e77 k x.1 K).symm (by kernel_rfl))) a r
end
section
variable {R : Type}
theorem e109 (k : Nat) (a0 : zL3) (K : List PV → List RowS → Option R) : callC T F k 109 [.val [(0, 0)] (.slice (.prod (.int .i64) (.prod (.int .i64) .unit))) a0] [] K = f109 k a0 (fun z0 => K [.rw 1] [⟨0, .arr [] (.prod (.int .i64) (.prod (.int .i64) .unit)) z0⟩]) := by
  rw [f109_def]
  cases k with
  | zero => rfl
  | succ k => exact clone_call (m := [.lend (.prod (.int .i64) (.prod (.int .i64) .unit))]) (ty := (.prod (.int .i64) (.prod (.int .i64) .unit))) (bytes := 16) (by kernel_rfl) a0 K
noncomputable def s109 (k : Nat) (a : List PV) (r : List RowS) (K : List PV → List RowS → Option R) : Option R :=
  onShape [.val [(0, 0)] (.slice (.prod (.int .i64) (.prod (.int .i64) .unit)))] [] (fun v => f109 k v.1.1 (fun z0 => K [.rw 1] [⟨0, .arr [] (.prod (.int .i64) (.prod (.int .i64) .unit)) z0⟩])) (callC T F k 109 a r K) a r
theorem s109_eq (k : Nat) (a : List PV) (r : List RowS) (K : List PV → List RowS → Option R) : s109 k a r K = callC T F k 109 a r K := by
  unfold s109
  exact onShape_eq (a := [.val [(0, 0)] (.slice (.prod (.int .i64) (.prod (.int .i64) .unit)))]) (b := []) (G := fun a r => callC T F k 109 a r K) (fun x y => Eq.trans (by kernel_rfl) (Eq.trans (e109 k x.1 K).symm (by kernel_rfl))) a r
end
section
variable {R : Type}
noncomputable def S83 (k g : Nat) (a : List PV) (r : List RowS) (K : List PV → List RowS → Option R) : Option R := bif g == 77 then s77 k a r K else bif g == 109 then s109 k a r K else callC T F k g a r K
theorem S83_eq (k : Nat) : S83 (R := R) k = callC T F k := by
  funext g a r K
  exact pick_eq (fun e => by subst e; exact s77_eq k a r K) (pick_eq (fun e => by subst e; exact s109_eq k a r K) (rfl))
theorem e83 (k : Nat) (a0 : Int) (a1 : Int) (a2 : ByteArray) (a3 : List Int) (a4 : zL3) (a5 : Int) (a6 : Int) (a7 : Int) (a8 : Int) (K : List PV → List RowS → Option R) : callC T F k 83 [.agg [zi a0, zi a1, .val [] .str a2, .val [(0, 0)] (.slice (.int .u8)) a3, .val [(0, 0)] (.slice (.prod (.int .i64) (.prod (.int .i64) .unit))) a4, zi a5, zi a6, zi a7, zi a8]] [] K = f83 k a0 a1 a2 a3 a4 a5 a6 a7 a8 (fun z0 z1 z2 z3 z4 z5 z6 z7 z8 => K [.agg [zi z0, zi z1, .val [] .str z2, .rw 1, .rw 2, zi z3, zi z4, zi z5, zi z6]] [⟨0, .arr [] (.int .u8) z7⟩, ⟨0, .arr [] (.prod (.int .i64) (.prod (.int .i64) .unit)) z8⟩]) := by
  rw [f83_def]
  cases k with
  | zero => rfl
  | succ k =>
    refine Eq.trans (show _ = exec T an83 (modesOf F) 0 k 12 (callC T F k) (ending T Try.f83 an83 0 K) (bodyOf Try.f83) ⟨argEnv 0 [.agg [zi a0, zi a1, .val [] .str a2, .val [(0, 0)] (.slice (.int .u8)) a3, .val [(0, 0)] (.slice (.prod (.int .i64) (.prod (.int .i64) .unit))) a4, zi a5, zi a6, zi a7, zi a8]] (fun _ => none), rowsOf []⟩ (ending T Try.f83 an83 0 K) (fun _ _ => none) from by kernel_rfl) ?_
    rw [← S83_eq k, ← execS_eq T an83 (modesOf F) 0 k 12 (S83 k) (fun _ _ _ _ _ => none) (bodyOf Try.f83) (cuts_of _ _ _ _ _ _ _ _ (bodyOf Try.f83) (l := []) (by kernel_rfl) trivial)]
    kernel_rfl
noncomputable def s83 (k : Nat) (a : List PV) (r : List RowS) (K : List PV → List RowS → Option R) : Option R :=
  onShape [.agg [.val [] (.int .i64), .val [] (.int .i64), .val [] .str, .val [(0, 0)] (.slice (.int .u8)), .val [(0, 0)] (.slice (.prod (.int .i64) (.prod (.int .i64) .unit))), .val [] (.int .i64), .val [] (.int .i64), .val [] (.int .i64), .val [] (.int .i64)]] [] (fun v => f83 k v.1.1.1 v.1.1.2.1 v.1.1.2.2.1 v.1.1.2.2.2.1 v.1.1.2.2.2.2.1 v.1.1.2.2.2.2.2.1 v.1.1.2.2.2.2.2.2.1 v.1.1.2.2.2.2.2.2.2.1 v.1.1.2.2.2.2.2.2.2.2.1 (fun z0 z1 z2 z3 z4 z5 z6 z7 z8 => K [.agg [zi z0, zi z1, .val [] .str z2, .rw 1, .rw 2, zi z3, zi z4, zi z5, zi z6]] [⟨0, .arr [] (.int .u8) z7⟩, ⟨0, .arr [] (.prod (.int .i64) (.prod (.int .i64) .unit)) z8⟩])) (callC T F k 83 a r K) a r
theorem s83_eq (k : Nat) (a : List PV) (r : List RowS) (K : List PV → List RowS → Option R) : s83 k a r K = callC T F k 83 a r K := by
  unfold s83
  exact onShape_eq (a := [.agg [.val [] (.int .i64), .val [] (.int .i64), .val [] .str, .val [(0, 0)] (.slice (.int .u8)), .val [(0, 0)] (.slice (.prod (.int .i64) (.prod (.int .i64) .unit))), .val [] (.int .i64), .val [] (.int .i64), .val [] (.int .i64), .val [] (.int .i64)]]) (b := []) (G := fun a r => callC T F k 83 a r K) (fun x y => Eq.trans (by kernel_rfl) (Eq.trans (e83 k x.1.1 x.1.2.1 x.1.2.2.1 x.1.2.2.2.1 x.1.2.2.2.2.1 x.1.2.2.2.2.2.1 x.1.2.2.2.2.2.2.1 x.1.2.2.2.2.2.2.2.1 x.1.2.2.2.2.2.2.2.2.1 K).symm (by kernel_rfl))) a r
end
section
variable {R : Type}
noncomputable def S119 (k g : Nat) (a : List PV) (r : List RowS) (K : List PV → List RowS → Option R) : Option R := callC T F k g a r K
theorem S119_eq (k : Nat) : S119 (R := R) k = callC T F k := by
  funext g a r K
  exact rfl
theorem e119 (k : Nat) (a0 : Int) (a1 : Int) (a2 : ByteArray) (a3 : List Int) (a4 : zL3) (a5 : Int) (a6 : Int) (a7 : Int) (a8 : Int) (a9 : Int) (a10 : Int) (a11 : ByteArray) (a12 : Int) (a13 : Int) (a14 : Int) (a15 : List Int) (a16 : zL3) (a17 : Bool) (K : List PV → List RowS → Option R) : callC T F k 119 [.agg [zi a0, zi a1, .val [] .str a2, .val [(0, 0)] (.slice (.int .u8)) a3, .val [(0, 0)] (.slice (.prod (.int .i64) (.prod (.int .i64) .unit))) a4, zi a5, zi a6, zi a7, zi a8], .agg [zi a9, zi a10, .val [] .str a11, zi a12, zi a13, zi a14, .val [(0, 0)] (.slice (.int .u8)) a15, .val [(0, 0)] (.slice (.prod (.int .i64) (.prod (.int .i64) .unit))) a16, .val [] .bool a17]] [] K = f119 k a0 a1 a2 a3 a4 a5 a6 a7 a8 a9 a10 a11 a12 a13 a14 a15 a16 a17 (fun z0 => K [.val [] .bool z0] []) := by
  rw [f119_def]
  cases k with
  | zero => rfl
  | succ k =>
    refine Eq.trans (show _ = exec T an119 (modesOf F) 0 k 64 (callC T F k) (ending T Try.f119 an119 0 K) (bodyOf Try.f119) ⟨argEnv 0 [.agg [zi a0, zi a1, .val [] .str a2, .val [(0, 0)] (.slice (.int .u8)) a3, .val [(0, 0)] (.slice (.prod (.int .i64) (.prod (.int .i64) .unit))) a4, zi a5, zi a6, zi a7, zi a8], .agg [zi a9, zi a10, .val [] .str a11, zi a12, zi a13, zi a14, .val [(0, 0)] (.slice (.int .u8)) a15, .val [(0, 0)] (.slice (.prod (.int .i64) (.prod (.int .i64) .unit))) a16, .val [] .bool a17]] (fun _ => none), rowsOf []⟩ (ending T Try.f119 an119 0 K) (fun _ _ => none) from by kernel_rfl) ?_
    rw [← S119_eq k, ← execS_eq T an119 (modesOf F) 0 k 64 (S119 k) (fun _ _ _ _ _ => none) (bodyOf Try.f119) (cuts_of _ _ _ _ _ _ _ _ (bodyOf Try.f119) (l := []) (by kernel_rfl) trivial)]
    kernel_rfl
noncomputable def s119 (k : Nat) (a : List PV) (r : List RowS) (K : List PV → List RowS → Option R) : Option R :=
  onShape [.agg [.val [] (.int .i64), .val [] (.int .i64), .val [] .str, .val [(0, 0)] (.slice (.int .u8)), .val [(0, 0)] (.slice (.prod (.int .i64) (.prod (.int .i64) .unit))), .val [] (.int .i64), .val [] (.int .i64), .val [] (.int .i64), .val [] (.int .i64)], .agg [.val [] (.int .i64), .val [] (.int .i64), .val [] .str, .val [] (.int .i64), .val [] (.int .i64), .val [] (.int .i64), .val [(0, 0)] (.slice (.int .u8)), .val [(0, 0)] (.slice (.prod (.int .i64) (.prod (.int .i64) .unit))), .val [] .bool]] [] (fun v => f119 k v.1.1.1 v.1.1.2.1 v.1.1.2.2.1 v.1.1.2.2.2.1 v.1.1.2.2.2.2.1 v.1.1.2.2.2.2.2.1 v.1.1.2.2.2.2.2.2.1 v.1.1.2.2.2.2.2.2.2.1 v.1.1.2.2.2.2.2.2.2.2.1 v.1.2.1.1 v.1.2.1.2.1 v.1.2.1.2.2.1 v.1.2.1.2.2.2.1 v.1.2.1.2.2.2.2.1 v.1.2.1.2.2.2.2.2.1 v.1.2.1.2.2.2.2.2.2.1 v.1.2.1.2.2.2.2.2.2.2.1 v.1.2.1.2.2.2.2.2.2.2.2.1 (fun z0 => K [.val [] .bool z0] [])) (callC T F k 119 a r K) a r
theorem s119_eq (k : Nat) (a : List PV) (r : List RowS) (K : List PV → List RowS → Option R) : s119 k a r K = callC T F k 119 a r K := by
  unfold s119
  exact onShape_eq (a := [.agg [.val [] (.int .i64), .val [] (.int .i64), .val [] .str, .val [(0, 0)] (.slice (.int .u8)), .val [(0, 0)] (.slice (.prod (.int .i64) (.prod (.int .i64) .unit))), .val [] (.int .i64), .val [] (.int .i64), .val [] (.int .i64), .val [] (.int .i64)], .agg [.val [] (.int .i64), .val [] (.int .i64), .val [] .str, .val [] (.int .i64), .val [] (.int .i64), .val [] (.int .i64), .val [(0, 0)] (.slice (.int .u8)), .val [(0, 0)] (.slice (.prod (.int .i64) (.prod (.int .i64) .unit))), .val [] .bool]]) (b := []) (G := fun a r => callC T F k 119 a r K) (fun x y => Eq.trans (by kernel_rfl) (Eq.trans (e119 k x.1.1 x.1.2.1 x.1.2.2.1 x.1.2.2.2.1 x.1.2.2.2.2.1 x.1.2.2.2.2.2.1 x.1.2.2.2.2.2.2.1 x.1.2.2.2.2.2.2.2.1 x.1.2.2.2.2.2.2.2.2.1 x.2.1.1 x.2.1.2.1 x.2.1.2.2.1 x.2.1.2.2.2.1 x.2.1.2.2.2.2.1 x.2.1.2.2.2.2.2.1 x.2.1.2.2.2.2.2.2.1 x.2.1.2.2.2.2.2.2.2.1 x.2.1.2.2.2.2.2.2.2.2.1 K).symm (by kernel_rfl))) a r
end
section
variable {R : Type}
theorem e135 (k : Nat) (a0 : List Int) (a1 : Int) (K : List PV → List RowS → Option R) : callC T F k 135 [.val [(0, 0)] (.slice (.int .u8)) a0, zi a1] [] K = f135 k a0 a1 (fun z0 => K [.rw 1] [⟨0, .arr [] (.int .u8) z0⟩]) := by
  rw [f135_def]
  cases k with
  | zero => rfl
  | succ k => exact rep_call (m := [.lend (.int .u8), .any]) (by kernel_rfl) [(0, 0)] [] a0 a1 K
noncomputable def s135 (k : Nat) (a : List PV) (r : List RowS) (K : List PV → List RowS → Option R) : Option R :=
  onShape [.val [(0, 0)] (.slice (.int .u8)), .val [] (.int .i64)] [] (fun v => f135 k v.1.1 v.1.2.1 (fun z0 => K [.rw 1] [⟨0, .arr [] (.int .u8) z0⟩])) (callC T F k 135 a r K) a r
theorem s135_eq (k : Nat) (a : List PV) (r : List RowS) (K : List PV → List RowS → Option R) : s135 k a r K = callC T F k 135 a r K := by
  unfold s135
  exact onShape_eq (a := [.val [(0, 0)] (.slice (.int .u8)), .val [] (.int .i64)]) (b := []) (G := fun a r => callC T F k 135 a r K) (fun x y => Eq.trans (by kernel_rfl) (Eq.trans (e135 k x.1 x.2.1 K).symm (by kernel_rfl))) a r
end
section
variable {R : Type}
noncomputable def S132 (k g : Nat) (a : List PV) (r : List RowS) (K : List PV → List RowS → Option R) : Option R := callC T F k g a r K
theorem S132_eq (k : Nat) : S132 (R := R) k = callC T F k := by
  funext g a r K
  exact rfl
section
variable {R : Type} (k : Nat) (K : List PV → List RowS → Option R)
noncomputable def L132_1000002 (ws : List PV) (rs : List RowS) (N : St → Option R) (X : Nat → St → Option R) : Option R :=
  onShape [.nils, .val [] (.int .i64), .val [] .bool] [] (fun v => f132_1000002 k (N (sh fi132_2 [.nils, zi v.1.2.1] [])) v.1.2.1 v.1.2.2.1) (inner T an132 (modesOf F) 0 k 27 (S132 k) (ending T Try.f132 an132 0 K) cd132_1000002 (sh sp132_1000002 ws rs) N X) ws rs
noncomputable def L132_1000005 (ws : List PV) (rs : List RowS) (N : St → Option R) (X : Nat → St → Option R) : Option R :=
  onShape [.nils, .val [] (.int .i64), .val [] .bool] [] (fun v => f132_1000005 k (fun yN_0 => N (sh fi132_5 [.rw 1] [⟨0, .arr [] (.prod (.int .i64) (.prod (.int .i64) .unit)) yN_0⟩])) v.1.2.1 v.1.2.2.1) (inner T an132 (modesOf F) 0 k 27 (S132 k) (ending T Try.f132 an132 0 K) cd132_1000005 (sh sp132_1000005 ws rs) N X) ws rs
noncomputable def L132 (id : Nat) (ws : List PV) (rs : List RowS) (N : St → Option R) (X : Nat → St → Option R) : Option R := bif id == 1000002 then L132_1000002 k K ws rs N X else bif id == 1000005 then L132_1000005 k K ws rs N X else none
theorem l132_1000002 (ws : List PV) (rs : List RowS) (N : St → Option R) (X : Nat → St → Option R) : L132 k K 1000002 ws rs N X = inner T an132 (modesOf F) 0 k 27 (S132 k) (ending T Try.f132 an132 0 K) cd132_1000002 (sh sp132_1000002 ws rs) N X := by
  show L132_1000002 k K ws rs N X = _
  unfold L132_1000002
  rw [f132_1000002_def]
  exact onShape_eq (a := [.nils, .val [] (.int .i64), .val [] .bool]) (b := []) (G := fun ws rs => inner T an132 (modesOf F) 0 k 27 (S132 k) (ending T Try.f132 an132 0 K) cd132_1000002 (sh sp132_1000002 ws rs) N X) (fun x y => Eq.trans (by kernel_rfl) (innerS_eq T an132 (modesOf F) 0 k 27 (S132 k) (L132 k K) cd132_1000002 (l := []) (by kernel_rfl) trivial _ N X)) ws rs
theorem l132_1000005 (ws : List PV) (rs : List RowS) (N : St → Option R) (X : Nat → St → Option R) : L132 k K 1000005 ws rs N X = inner T an132 (modesOf F) 0 k 27 (S132 k) (ending T Try.f132 an132 0 K) cd132_1000005 (sh sp132_1000005 ws rs) N X := by
  show L132_1000005 k K ws rs N X = _
  unfold L132_1000005
  rw [f132_1000005_def]
  exact onShape_eq (a := [.nils, .val [] (.int .i64), .val [] .bool]) (b := []) (G := fun ws rs => inner T an132 (modesOf F) 0 k 27 (S132 k) (ending T Try.f132 an132 0 K) cd132_1000005 (sh sp132_1000005 ws rs) N X) (fun x y => Eq.trans (by kernel_rfl) (innerS_eq T an132 (modesOf F) 0 k 27 (S132 k) (L132 k K) cd132_1000005 (l := []) (by kernel_rfl) trivial _ N X)) ws rs
end
theorem e132 (k : Nat) (a0 : Int) (K : List PV → List RowS → Option R) : callC T F k 132 [.nils, zi a0] [] K = f132 k a0 (fun z0 => K [.rw 1] [⟨0, .arr [] (.prod (.int .i64) (.prod (.int .i64) .unit)) z0⟩]) := by
  rw [f132_def]
  cases k with
  | zero => rfl
  | succ k =>
    refine Eq.trans (show _ = exec T an132 (modesOf F) 0 k 27 (callC T F k) (ending T Try.f132 an132 0 K) (bodyOf Try.f132) ⟨argEnv 0 [.nils, zi a0] (fun _ => none), rowsOf []⟩ (ending T Try.f132 an132 0 K) (fun _ _ => none) from by kernel_rfl) ?_
    rw [← S132_eq k, ← execS_eq T an132 (modesOf F) 0 k 27 (S132 k) (L132 k K) (bodyOf Try.f132) (cuts_of _ _ _ _ _ _ _ _ (bodyOf Try.f132) (l := [(1000002, sp132_1000002, cd132_1000002), (1000005, sp132_1000005, cd132_1000005)]) (by kernel_rfl) ⟨l132_1000002 k K, l132_1000005 k K, trivial⟩)]
    kernel_rfl
noncomputable def s132 (k : Nat) (a : List PV) (r : List RowS) (K : List PV → List RowS → Option R) : Option R :=
  onShape [.nils, .val [] (.int .i64)] [] (fun v => f132 k v.1.2.1 (fun z0 => K [.rw 1] [⟨0, .arr [] (.prod (.int .i64) (.prod (.int .i64) .unit)) z0⟩])) (callC T F k 132 a r K) a r
theorem s132_eq (k : Nat) (a : List PV) (r : List RowS) (K : List PV → List RowS → Option R) : s132 k a r K = callC T F k 132 a r K := by
  unfold s132
  exact onShape_eq (a := [.nils, .val [] (.int .i64)]) (b := []) (G := fun a r => callC T F k 132 a r K) (fun x y => Eq.trans (by kernel_rfl) (Eq.trans (e132 k x.2.1 K).symm (by kernel_rfl))) a r
end
section
variable {R : Type}
noncomputable def S114 (k g : Nat) (a : List PV) (r : List RowS) (K : List PV → List RowS → Option R) : Option R := bif g == 132 then s132 k a r K else callC T F k g a r K
theorem S114_eq (k : Nat) : S114 (R := R) k = callC T F k := by
  funext g a r K
  exact pick_eq (fun e => by subst e; exact s132_eq k a r K) (rfl)
section
variable {R : Type} (k : Nat) (K : List PV → List RowS → Option R)
noncomputable def L114_1000007 (ws : List PV) (rs : List RowS) (N : St → Option R) (X : Nat → St → Option R) : Option R :=
  onShape [.val [(0, 0)] (.slice (.slice (.prod (.int .i64) (.prod (.int .i64) .unit)))), .val [] (.int .i64), .val [(0, 0)] (.slice (.slice (.prod (.int .i64) (.prod (.int .i64) .unit)))), .val [] (.int .i64), .val [] (.int .i64), .val [] .bool] [] (fun v => f114_1000007 k (N (sh fi114_7 [.val [(0, 0)] (.slice (.slice (.prod (.int .i64) (.prod (.int .i64) .unit)))) v.1.1, zi v.1.2.1, .val [(0, 0)] (.slice (.slice (.prod (.int .i64) (.prod (.int .i64) .unit)))) v.1.2.2.1, zi v.1.2.2.2.1, zi v.1.2.2.2.2.1] [])) v.1.1 v.1.2.1 v.1.2.2.1 v.1.2.2.2.1 v.1.2.2.2.2.1 v.1.2.2.2.2.2.1) (inner T an114 (modesOf F) 0 k 36 (S114 k) (ending T Try.f114 an114 0 K) cd114_1000007 (sh sp114_1000007 ws rs) N X) ws rs
noncomputable def L114_0 (ws : List PV) (rs : List RowS) (N : St → Option R) (X : Nat → St → Option R) : Option R :=
  onShape [.val [(0, 0)] (.slice (.slice (.prod (.int .i64) (.prod (.int .i64) .unit)))), .val [] (.int .i64), .val [(0, 0)] (.slice (.slice (.prod (.int .i64) (.prod (.int .i64) .unit)))), .val [] (.int .i64), .val [] (.int .i64)] [] (fun v => f114_0 k (fun y0_1 => N (sh jn114_0 [.val [(0, 0)] (.slice (.slice (.prod (.int .i64) (.prod (.int .i64) .unit)))) v.1.1, zi y0_1] [])) v.1.1 v.1.2.2.1 v.1.2.2.2.1 k v.1.2.1 v.1.2.2.2.2.1) (inner T an114 (modesOf F) 0 k 36 (S114 k) (ending T Try.f114 an114 0 K) cd114_0 (sh sp114_0 ws rs) N X) ws rs
noncomputable def L114_2 (ws : List PV) (rs : List RowS) (N : St → Option R) (X : Nat → St → Option R) : Option R :=
  onShape [.rw 1, .val [(0, 0)] (.slice (.slice (.prod (.int .i64) (.prod (.int .i64) .unit)))), .val [] (.int .i64), .val [] (.int .i64)] [.arr [] (.prod (.int .i64) (.prod (.int .i64) .unit))] (fun v => f114_2 k (fun y2_0 => N (sh jn114_2 [.rw 1] [⟨0, .arr [] (.prod (.int .i64) (.prod (.int .i64) .unit)) y2_0⟩])) v.1.2.1 v.1.2.2.1 k v.1.2.2.2.1 v.2.1) (inner T an114 (modesOf F) 0 k 36 (S114 k) (ending T Try.f114 an114 0 K) cd114_2 (sh sp114_2 ws rs) N X) ws rs
noncomputable def L114 (id : Nat) (ws : List PV) (rs : List RowS) (N : St → Option R) (X : Nat → St → Option R) : Option R := bif id == 1000007 then L114_1000007 k K ws rs N X else bif id == 0 then L114_0 k K ws rs N X else bif id == 2 then L114_2 k K ws rs N X else none
theorem l114_1000007 (ws : List PV) (rs : List RowS) (N : St → Option R) (X : Nat → St → Option R) : L114 k K 1000007 ws rs N X = inner T an114 (modesOf F) 0 k 36 (S114 k) (ending T Try.f114 an114 0 K) cd114_1000007 (sh sp114_1000007 ws rs) N X := by
  show L114_1000007 k K ws rs N X = _
  unfold L114_1000007
  rw [f114_1000007_def]
  exact onShape_eq (a := [.val [(0, 0)] (.slice (.slice (.prod (.int .i64) (.prod (.int .i64) .unit)))), .val [] (.int .i64), .val [(0, 0)] (.slice (.slice (.prod (.int .i64) (.prod (.int .i64) .unit)))), .val [] (.int .i64), .val [] (.int .i64), .val [] .bool]) (b := []) (G := fun ws rs => inner T an114 (modesOf F) 0 k 36 (S114 k) (ending T Try.f114 an114 0 K) cd114_1000007 (sh sp114_1000007 ws rs) N X) (fun x y => Eq.trans (by kernel_rfl) (innerS_eq T an114 (modesOf F) 0 k 36 (S114 k) (L114 k K) cd114_1000007 (l := []) (by kernel_rfl) trivial _ N X)) ws rs
theorem b114_0 (rec : St → Option R) (N : St → Option R) (X : Nat → St → Option R) (v0_0 : List (zL3)) (v0_2 : List (zL3)) (v0_3 : Int) (v0_1 : Int) (v0_4 : Int) :
    execS T an114 (modesOf F) 0 k 36 (S114 k) (L114 k K) (ending T Try.f114 an114 0 K) bd114_0 (sh sp114_0 [.val [(0, 0)] (.slice (.slice (.prod (.int .i64) (.prod (.int .i64) .unit)))) v0_0, zi v0_1, .val [(0, 0)] (.slice (.slice (.prod (.int .i64) (.prod (.int .i64) .unit)))) v0_2, zi v0_3, zi v0_4] []) (fun st => atHead an114 0 bd114_0 st rec) (outX an114 0 0 N X) =
      f114_0b k (fun v0_1 v0_4 => rec (sh sp114_0 [.val [(0, 0)] (.slice (.slice (.prod (.int .i64) (.prod (.int .i64) .unit)))) v0_0, zi v0_1, .val [(0, 0)] (.slice (.slice (.prod (.int .i64) (.prod (.int .i64) .unit)))) v0_2, zi v0_3, zi v0_4] [])) (fun y0_1 => N (sh jn114_0 [.val [(0, 0)] (.slice (.slice (.prod (.int .i64) (.prod (.int .i64) .unit)))) v0_0, zi y0_1] [])) v0_0 v0_2 v0_3 v0_1 v0_4 := by kernel_rfl
theorem i114_0 (N : St → Option R) (X : Nat → St → Option R) (v0_0 : List (zL3)) (v0_2 : List (zL3)) (v0_3 : Int) (m : Nat) : ∀ (v0_1 : Int) (v0_4 : Int),
    iter (atHead an114 0 bd114_0) m (fun st N' => exec T an114 (modesOf F) 0 k 36 (S114 k) (ending T Try.f114 an114 0 K) bd114_0 st N' (outX an114 0 0 N X)) (sh sp114_0 [.val [(0, 0)] (.slice (.slice (.prod (.int .i64) (.prod (.int .i64) .unit)))) v0_0, zi v0_1, .val [(0, 0)] (.slice (.slice (.prod (.int .i64) (.prod (.int .i64) .unit)))) v0_2, zi v0_3, zi v0_4] []) = f114_0d k (fun y0_1 => N (sh jn114_0 [.val [(0, 0)] (.slice (.slice (.prod (.int .i64) (.prod (.int .i64) .unit)))) v0_0, zi y0_1] [])) v0_0 v0_2 v0_3 m v0_1 v0_4 := by
  induction m with
  | zero => intros; rfl
  | succ m ih =>
    intro v0_1 v0_4
    simp only [iter]
    rw [← execS_eq T an114 (modesOf F) 0 k 36 (S114 k) (L114 k K) bd114_0 (cuts_of _ _ _ _ _ _ _ _ bd114_0 (l := [(1000007, sp114_1000007, cd114_1000007)]) (by kernel_rfl) ⟨l114_1000007 k K, trivial⟩)]
    refine (b114_0 k K _ N X v0_0 v0_2 v0_3 v0_1 v0_4).trans ?_
    simp only [f114_0d, ih]
theorem l114_0 (ws : List PV) (rs : List RowS) (N : St → Option R) (X : Nat → St → Option R) : L114 k K 0 ws rs N X = inner T an114 (modesOf F) 0 k 36 (S114 k) (ending T Try.f114 an114 0 K) cd114_0 (sh sp114_0 ws rs) N X := by
  show L114_0 k K ws rs N X = _
  unfold L114_0
  rw [f114_0_def]
  exact onShape_eq (a := [.val [(0, 0)] (.slice (.slice (.prod (.int .i64) (.prod (.int .i64) .unit)))), .val [] (.int .i64), .val [(0, 0)] (.slice (.slice (.prod (.int .i64) (.prod (.int .i64) .unit)))), .val [] (.int .i64), .val [] (.int .i64)]) (b := []) (G := fun ws rs => inner T an114 (modesOf F) 0 k 36 (S114 k) (ending T Try.f114 an114 0 K) cd114_0 (sh sp114_0 ws rs) N X) (fun x y => Eq.trans (by kernel_rfl) (Eq.trans (i114_0 k K N X x.1 x.2.2.1 x.2.2.2.1 k x.2.1 x.2.2.2.2.1).symm (by kernel_rfl))) ws rs
theorem b114_2 (rec : St → Option R) (N : St → Option R) (X : Nat → St → Option R) (v2_0 : List (zL3)) (v2_1 : Int) (v2_2 : Int) (v2_3 : zL4) :
    execS T an114 (modesOf F) 0 k 36 (S114 k) (L114 k K) (ending T Try.f114 an114 0 K) bd114_2 (sh sp114_2 [.rw 1, .val [(0, 0)] (.slice (.slice (.prod (.int .i64) (.prod (.int .i64) .unit)))) v2_0, zi v2_1, zi v2_2] [⟨0, .arr [] (.prod (.int .i64) (.prod (.int .i64) .unit)) v2_3⟩]) (fun st => atHead an114 0 bd114_2 st rec) (outX an114 0 2 N X) =
      f114_2b k (fun v2_2 v2_3 => rec (sh sp114_2 [.rw 1, .val [(0, 0)] (.slice (.slice (.prod (.int .i64) (.prod (.int .i64) .unit)))) v2_0, zi v2_1, zi v2_2] [⟨0, .arr [] (.prod (.int .i64) (.prod (.int .i64) .unit)) v2_3⟩])) (fun y2_0 => N (sh jn114_2 [.rw 1] [⟨0, .arr [] (.prod (.int .i64) (.prod (.int .i64) .unit)) y2_0⟩])) v2_0 v2_1 v2_2 v2_3 := by kernel_rfl
theorem i114_2 (N : St → Option R) (X : Nat → St → Option R) (v2_0 : List (zL3)) (v2_1 : Int) (m : Nat) : ∀ (v2_2 : Int) (v2_3 : zL4),
    iter (atHead an114 0 bd114_2) m (fun st N' => exec T an114 (modesOf F) 0 k 36 (S114 k) (ending T Try.f114 an114 0 K) bd114_2 st N' (outX an114 0 2 N X)) (sh sp114_2 [.rw 1, .val [(0, 0)] (.slice (.slice (.prod (.int .i64) (.prod (.int .i64) .unit)))) v2_0, zi v2_1, zi v2_2] [⟨0, .arr [] (.prod (.int .i64) (.prod (.int .i64) .unit)) v2_3⟩]) = f114_2d k (fun y2_0 => N (sh jn114_2 [.rw 1] [⟨0, .arr [] (.prod (.int .i64) (.prod (.int .i64) .unit)) y2_0⟩])) v2_0 v2_1 m v2_2 v2_3 := by
  induction m with
  | zero => intros; rfl
  | succ m ih =>
    intro v2_2 v2_3
    simp only [iter]
    rw [← execS_eq T an114 (modesOf F) 0 k 36 (S114 k) (L114 k K) bd114_2 (cuts_of _ _ _ _ _ _ _ _ bd114_2 (l := []) (by kernel_rfl) trivial)]
    refine (b114_2 k K _ N X v2_0 v2_1 v2_2 v2_3).trans ?_
    simp only [f114_2d, ih]
theorem l114_2 (ws : List PV) (rs : List RowS) (N : St → Option R) (X : Nat → St → Option R) : L114 k K 2 ws rs N X = inner T an114 (modesOf F) 0 k 36 (S114 k) (ending T Try.f114 an114 0 K) cd114_2 (sh sp114_2 ws rs) N X := by
  show L114_2 k K ws rs N X = _
  unfold L114_2
  rw [f114_2_def]
  exact onShape_eq (a := [.rw 1, .val [(0, 0)] (.slice (.slice (.prod (.int .i64) (.prod (.int .i64) .unit)))), .val [] (.int .i64), .val [] (.int .i64)]) (b := [.arr [] (.prod (.int .i64) (.prod (.int .i64) .unit))]) (G := fun ws rs => inner T an114 (modesOf F) 0 k 36 (S114 k) (ending T Try.f114 an114 0 K) cd114_2 (sh sp114_2 ws rs) N X) (fun x y => Eq.trans (by kernel_rfl) (Eq.trans (i114_2 k K N X x.2.1 x.2.2.1 k x.2.2.2.1 y.1).symm (by kernel_rfl))) ws rs
end
theorem e114 (k : Nat) (a0 : List (zL3)) (K : List PV → List RowS → Option R) : callC T F k 114 [.val [(0, 0)] (.slice (.slice (.prod (.int .i64) (.prod (.int .i64) .unit)))) a0] [] K = f114 k a0 (fun z0 => K [.rw 1] [⟨0, .arr [] (.prod (.int .i64) (.prod (.int .i64) .unit)) z0⟩]) := by
  rw [f114_def]
  cases k with
  | zero => rfl
  | succ k =>
    refine Eq.trans (show _ = exec T an114 (modesOf F) 0 k 36 (callC T F k) (ending T Try.f114 an114 0 K) (bodyOf Try.f114) ⟨argEnv 0 [.val [(0, 0)] (.slice (.slice (.prod (.int .i64) (.prod (.int .i64) .unit)))) a0] (fun _ => none), rowsOf []⟩ (ending T Try.f114 an114 0 K) (fun _ _ => none) from by kernel_rfl) ?_
    rw [← S114_eq k, ← execS_eq T an114 (modesOf F) 0 k 36 (S114 k) (L114 k K) (bodyOf Try.f114) (cuts_of _ _ _ _ _ _ _ _ (bodyOf Try.f114) (l := [(0, sp114_0, cd114_0), (2, sp114_2, cd114_2)]) (by kernel_rfl) ⟨l114_0 k K, l114_2 k K, trivial⟩)]
    kernel_rfl
noncomputable def s114 (k : Nat) (a : List PV) (r : List RowS) (K : List PV → List RowS → Option R) : Option R :=
  onShape [.val [(0, 0)] (.slice (.slice (.prod (.int .i64) (.prod (.int .i64) .unit))))] [] (fun v => f114 k v.1.1 (fun z0 => K [.rw 1] [⟨0, .arr [] (.prod (.int .i64) (.prod (.int .i64) .unit)) z0⟩])) (callC T F k 114 a r K) a r
theorem s114_eq (k : Nat) (a : List PV) (r : List RowS) (K : List PV → List RowS → Option R) : s114 k a r K = callC T F k 114 a r K := by
  unfold s114
  exact onShape_eq (a := [.val [(0, 0)] (.slice (.slice (.prod (.int .i64) (.prod (.int .i64) .unit))))]) (b := []) (G := fun a r => callC T F k 114 a r K) (fun x y => Eq.trans (by kernel_rfl) (Eq.trans (e114 k x.1 K).symm (by kernel_rfl))) a r
end
section
variable {R : Type}
theorem e115 (k : Nat) (a0 : zL4) (K : List PV → List RowS → Option R) : callC T F k 115 [.rw 1, .fn 116 []] [⟨0, .arr [] (.prod (.int .i64) (.prod (.int .i64) .unit)) a0⟩] K = f115 k a0 (fun z0 => K [] [⟨0, .arr [] (.prod (.int .i64) (.prod (.int .i64) .unit)) z0⟩]) := by
  rw [f115_def]
  cases k with
  | zero => rfl
  | succ k => exact sort_call (m := [.any, .any]) (c := 116) (by kernel_rfl) a0 K
noncomputable def s115 (k : Nat) (a : List PV) (r : List RowS) (K : List PV → List RowS → Option R) : Option R :=
  onShape [.rw 1, .fn 116 []] [.arr [] (.prod (.int .i64) (.prod (.int .i64) .unit))] (fun v => f115 k v.2.1 (fun z0 => K [] [⟨0, .arr [] (.prod (.int .i64) (.prod (.int .i64) .unit)) z0⟩])) (callC T F k 115 a r K) a r
theorem s115_eq (k : Nat) (a : List PV) (r : List RowS) (K : List PV → List RowS → Option R) : s115 k a r K = callC T F k 115 a r K := by
  unfold s115
  exact onShape_eq (a := [.rw 1, .fn 116 []]) (b := [.arr [] (.prod (.int .i64) (.prod (.int .i64) .unit))]) (G := fun a r => callC T F k 115 a r K) (fun x y => Eq.trans (by kernel_rfl) (Eq.trans (e115 k y.1 K).symm (by kernel_rfl))) a r
end
section
variable {R : Type}
noncomputable def S86 (k g : Nat) (a : List PV) (r : List RowS) (K : List PV → List RowS → Option R) : Option R := bif g == 114 then s114 k a r K else bif g == 115 then s115 k a r K else callC T F k g a r K
theorem S86_eq (k : Nat) : S86 (R := R) k = callC T F k := by
  funext g a r K
  exact pick_eq (fun e => by subst e; exact s114_eq k a r K) (pick_eq (fun e => by subst e; exact s115_eq k a r K) (rfl))
section
variable {R : Type} (k : Nat) (K : List PV → List RowS → Option R)
noncomputable def L86_1000009 (ws : List PV) (rs : List RowS) (N : St → Option R) (X : Nat → St → Option R) : Option R :=
  onShape [.rw 1, .ptr 2 0, .val [] (.int .i64), .rw 3, .val [] (.int .i64), .val [] (.int .i64), .val [] .bool] [.arr [] (.prod (.int .i64) (.prod (.int .i64) .unit)), .vars [.val [] (.int .i64), .val [] (.int .i64)], .arr [] (.prod (.int .i64) (.prod (.int .i64) .unit))] (fun v => f86_1000009 k (fun yN_2 => N (sh fi86_9 [.rw 1, .rw 2, zi v.1.2.2.2.2.1, zi v.1.2.2.2.2.2.1] [⟨0, .arr [] (.prod (.int .i64) (.prod (.int .i64) .unit)) yN_2⟩, ⟨0, .arr [] (.prod (.int .i64) (.prod (.int .i64) .unit)) v.2.2.2.1⟩])) v.1.2.2.1 v.1.2.2.2.2.1 v.1.2.2.2.2.2.1 v.1.2.2.2.2.2.2.1 v.2.1 v.2.2.1.1 v.2.2.1.2.1 v.2.2.2.1) (inner T an86 (modesOf F) 0 k 57 (S86 k) (ending T Try.f86 an86 0 K) cd86_1000009 (sh sp86_1000009 ws rs) N X) ws rs
noncomputable def L86_0 (ws : List PV) (rs : List RowS) (N : St → Option R) (X : Nat → St → Option R) : Option R :=
  onShape [.rw 1, .rw 2, .val [] (.int .i64), .val [] (.int .i64)] [.arr [] (.prod (.int .i64) (.prod (.int .i64) .unit)), .arr [] (.prod (.int .i64) (.prod (.int .i64) .unit))] (fun v => f86_0 k (fun y0_0 => N (sh jn86_0 [.rw 1] [⟨0, .arr [] (.prod (.int .i64) (.prod (.int .i64) .unit)) y0_0⟩])) v.1.2.2.1 v.2.2.1 k v.1.2.2.2.1 v.2.1) (inner T an86 (modesOf F) 0 k 57 (S86 k) (ending T Try.f86 an86 0 K) cd86_0 (sh sp86_0 ws rs) N X) ws rs
noncomputable def L86 (id : Nat) (ws : List PV) (rs : List RowS) (N : St → Option R) (X : Nat → St → Option R) : Option R := bif id == 1000009 then L86_1000009 k K ws rs N X else bif id == 0 then L86_0 k K ws rs N X else none
theorem l86_1000009 (ws : List PV) (rs : List RowS) (N : St → Option R) (X : Nat → St → Option R) : L86 k K 1000009 ws rs N X = inner T an86 (modesOf F) 0 k 57 (S86 k) (ending T Try.f86 an86 0 K) cd86_1000009 (sh sp86_1000009 ws rs) N X := by
  show L86_1000009 k K ws rs N X = _
  unfold L86_1000009
  rw [f86_1000009_def]
  exact onShape_eq (a := [.rw 1, .ptr 2 0, .val [] (.int .i64), .rw 3, .val [] (.int .i64), .val [] (.int .i64), .val [] .bool]) (b := [.arr [] (.prod (.int .i64) (.prod (.int .i64) .unit)), .vars [.val [] (.int .i64), .val [] (.int .i64)], .arr [] (.prod (.int .i64) (.prod (.int .i64) .unit))]) (G := fun ws rs => inner T an86 (modesOf F) 0 k 57 (S86 k) (ending T Try.f86 an86 0 K) cd86_1000009 (sh sp86_1000009 ws rs) N X) (fun x y => Eq.trans (by kernel_rfl) (innerS_eq T an86 (modesOf F) 0 k 57 (S86 k) (L86 k K) cd86_1000009 (l := []) (by kernel_rfl) trivial _ N X)) ws rs
theorem b86_0 (rec : St → Option R) (N : St → Option R) (X : Nat → St → Option R) (v0_0 : Int) (v0_3 : zL4) (v0_1 : Int) (v0_2 : zL4) :
    execS T an86 (modesOf F) 0 k 57 (S86 k) (L86 k K) (ending T Try.f86 an86 0 K) bd86_0 (sh sp86_0 [.rw 1, .rw 2, zi v0_0, zi v0_1] [⟨0, .arr [] (.prod (.int .i64) (.prod (.int .i64) .unit)) v0_2⟩, ⟨0, .arr [] (.prod (.int .i64) (.prod (.int .i64) .unit)) v0_3⟩]) (fun st => atHead an86 0 bd86_0 st rec) (outX an86 0 0 N X) =
      f86_0b k (fun v0_1 v0_2 => rec (sh sp86_0 [.rw 1, .rw 2, zi v0_0, zi v0_1] [⟨0, .arr [] (.prod (.int .i64) (.prod (.int .i64) .unit)) v0_2⟩, ⟨0, .arr [] (.prod (.int .i64) (.prod (.int .i64) .unit)) v0_3⟩])) (fun y0_0 => N (sh jn86_0 [.rw 1] [⟨0, .arr [] (.prod (.int .i64) (.prod (.int .i64) .unit)) y0_0⟩])) v0_0 v0_3 v0_1 v0_2 := by kernel_rfl
theorem i86_0 (N : St → Option R) (X : Nat → St → Option R) (v0_0 : Int) (v0_3 : zL4) (m : Nat) : ∀ (v0_1 : Int) (v0_2 : zL4),
    iter (atHead an86 0 bd86_0) m (fun st N' => exec T an86 (modesOf F) 0 k 57 (S86 k) (ending T Try.f86 an86 0 K) bd86_0 st N' (outX an86 0 0 N X)) (sh sp86_0 [.rw 1, .rw 2, zi v0_0, zi v0_1] [⟨0, .arr [] (.prod (.int .i64) (.prod (.int .i64) .unit)) v0_2⟩, ⟨0, .arr [] (.prod (.int .i64) (.prod (.int .i64) .unit)) v0_3⟩]) = f86_0d k (fun y0_0 => N (sh jn86_0 [.rw 1] [⟨0, .arr [] (.prod (.int .i64) (.prod (.int .i64) .unit)) y0_0⟩])) v0_0 v0_3 m v0_1 v0_2 := by
  induction m with
  | zero => intros; rfl
  | succ m ih =>
    intro v0_1 v0_2
    simp only [iter]
    rw [← execS_eq T an86 (modesOf F) 0 k 57 (S86 k) (L86 k K) bd86_0 (cuts_of _ _ _ _ _ _ _ _ bd86_0 (l := [(1000009, sp86_1000009, cd86_1000009)]) (by kernel_rfl) ⟨l86_1000009 k K, trivial⟩)]
    refine (b86_0 k K _ N X v0_0 v0_3 v0_1 v0_2).trans ?_
    simp only [f86_0d, ih]
theorem l86_0 (ws : List PV) (rs : List RowS) (N : St → Option R) (X : Nat → St → Option R) : L86 k K 0 ws rs N X = inner T an86 (modesOf F) 0 k 57 (S86 k) (ending T Try.f86 an86 0 K) cd86_0 (sh sp86_0 ws rs) N X := by
  show L86_0 k K ws rs N X = _
  unfold L86_0
  rw [f86_0_def]
  exact onShape_eq (a := [.rw 1, .rw 2, .val [] (.int .i64), .val [] (.int .i64)]) (b := [.arr [] (.prod (.int .i64) (.prod (.int .i64) .unit)), .arr [] (.prod (.int .i64) (.prod (.int .i64) .unit))]) (G := fun ws rs => inner T an86 (modesOf F) 0 k 57 (S86 k) (ending T Try.f86 an86 0 K) cd86_0 (sh sp86_0 ws rs) N X) (fun x y => Eq.trans (by kernel_rfl) (Eq.trans (i86_0 k K N X x.2.2.1 y.2.1 k x.2.2.2.1 y.1).symm (by kernel_rfl))) ws rs
end
theorem e86 (k : Nat) (a0 : zL3) (a1 : zL3) (K : List PV → List RowS → Option R) : callC T F k 86 [.val [(0, 0)] (.slice (.prod (.int .i64) (.prod (.int .i64) .unit))) a0, .val [(0, 0)] (.slice (.prod (.int .i64) (.prod (.int .i64) .unit))) a1] [] K = f86 k a0 a1 (fun z0 => K [.rw 1] [⟨0, .arr [] (.prod (.int .i64) (.prod (.int .i64) .unit)) z0⟩]) := by
  rw [f86_def]
  cases k with
  | zero => rfl
  | succ k =>
    refine Eq.trans (show _ = exec T an86 (modesOf F) 0 k 57 (callC T F k) (ending T Try.f86 an86 0 K) (bodyOf Try.f86) ⟨argEnv 0 [.val [(0, 0)] (.slice (.prod (.int .i64) (.prod (.int .i64) .unit))) a0, .val [(0, 0)] (.slice (.prod (.int .i64) (.prod (.int .i64) .unit))) a1] (fun _ => none), rowsOf []⟩ (ending T Try.f86 an86 0 K) (fun _ _ => none) from by kernel_rfl) ?_
    rw [← S86_eq k, ← execS_eq T an86 (modesOf F) 0 k 57 (S86 k) (L86 k K) (bodyOf Try.f86) (cuts_of _ _ _ _ _ _ _ _ (bodyOf Try.f86) (l := [(0, sp86_0, cd86_0)]) (by kernel_rfl) ⟨l86_0 k K, trivial⟩)]
    kernel_rfl
noncomputable def s86 (k : Nat) (a : List PV) (r : List RowS) (K : List PV → List RowS → Option R) : Option R :=
  onShape [.val [(0, 0)] (.slice (.prod (.int .i64) (.prod (.int .i64) .unit))), .val [(0, 0)] (.slice (.prod (.int .i64) (.prod (.int .i64) .unit)))] [] (fun v => f86 k v.1.1 v.1.2.1 (fun z0 => K [.rw 1] [⟨0, .arr [] (.prod (.int .i64) (.prod (.int .i64) .unit)) z0⟩])) (callC T F k 86 a r K) a r
theorem s86_eq (k : Nat) (a : List PV) (r : List RowS) (K : List PV → List RowS → Option R) : s86 k a r K = callC T F k 86 a r K := by
  unfold s86
  exact onShape_eq (a := [.val [(0, 0)] (.slice (.prod (.int .i64) (.prod (.int .i64) .unit))), .val [(0, 0)] (.slice (.prod (.int .i64) (.prod (.int .i64) .unit)))]) (b := []) (G := fun a r => callC T F k 86 a r K) (fun x y => Eq.trans (by kernel_rfl) (Eq.trans (e86 k x.1 x.2.1 K).symm (by kernel_rfl))) a r
end
section
variable {R : Type}
noncomputable def S120 (k g : Nat) (a : List PV) (r : List RowS) (K : List PV → List RowS → Option R) : Option R := bif g == 77 then s77 k a r K else bif g == 86 then s86 k a r K else bif g == 87 then s87 k a r K else bif g == 135 then s135 k a r K else callC T F k g a r K
theorem S120_eq (k : Nat) : S120 (R := R) k = callC T F k := by
  funext g a r K
  exact pick_eq (fun e => by subst e; exact s77_eq k a r K) (pick_eq (fun e => by subst e; exact s86_eq k a r K) (pick_eq (fun e => by subst e; exact s87_eq k a r K) (pick_eq (fun e => by subst e; exact s135_eq k a r K) (rfl))))
section
variable {R : Type} (k : Nat) (K : List PV → List RowS → Option R)
noncomputable def L120_1000004 (ws : List PV) (rs : List RowS) (N : St → Option R) (X : Nat → St → Option R) : Option R :=
  onShape [.val [(0, 0)] (.slice (.int .u8)), .val [(0, 0)] (.slice (.prod (.int .i64) (.prod (.int .i64) .unit))), .val [] (.int .i64), .val [(0, 0)] (.slice (.int .u8)), .val [] (.int .i64), .rw 1, .val [] .bool] [.arr [] (.int .u8)] (fun v => f120_1000004 k (fun yN_5 => N (sh fi120_4 [.val [(0, 0)] (.slice (.int .u8)) v.1.1, .val [(0, 0)] (.slice (.prod (.int .i64) (.prod (.int .i64) .unit))) v.1.2.1, zi v.1.2.2.1, .val [(0, 0)] (.slice (.int .u8)) v.1.2.2.2.1, zi v.1.2.2.2.2.1, .rw 1] [⟨0, .arr [] (.int .u8) yN_5⟩])) v.1.1 v.1.2.1 v.1.2.2.1 v.1.2.2.2.1 v.1.2.2.2.2.1 v.1.2.2.2.2.2.2.1 v.2.1) (inner T an120 (modesOf F) 0 k 80 (S120 k) (ending T Try.f120 an120 0 K) cd120_1000004 (sh sp120_1000004 ws rs) N X) ws rs
noncomputable def L120_1000011 (ws : List PV) (rs : List RowS) (N : St → Option R) (X : Nat → St → Option R) : Option R :=
  onShape [.val [(0, 0)] (.slice (.prod (.int .i64) (.prod (.int .i64) .unit))), .val [] (.int .i64), .val [(0, 0)] (.slice (.int .u8)), .val [] (.int .i64), .rw 1, .val [] .bool, .val [] (.int .i64), .val [] (.int .i64), .rw 2, .val [] (.int .i64), .val [] (.int .i64), .val [] .bool] [.arr [] (.int .u8), .arr [] (.prod (.int .i64) (.prod (.int .i64) .unit))] (fun v => f120_1000011 k (fun yN_4 yN_7 => N (sh fi120_11 [.val [(0, 0)] (.slice (.prod (.int .i64) (.prod (.int .i64) .unit))) v.1.1, zi v.1.2.1, .val [(0, 0)] (.slice (.int .u8)) v.1.2.2.1, zi v.1.2.2.2.1, .rw 1, .val [] .bool yN_4, .rw 2, zi v.1.2.2.2.2.2.2.2.2.2.1, zi v.1.2.2.2.2.2.2.2.2.2.2.1] [⟨0, .arr [] (.int .u8) yN_7⟩, ⟨0, .arr [] (.prod (.int .i64) (.prod (.int .i64) .unit)) v.2.2.1⟩])) v.1.1 v.1.2.1 v.1.2.2.1 v.1.2.2.2.1 v.1.2.2.2.2.2.1 v.1.2.2.2.2.2.2.1 v.1.2.2.2.2.2.2.2.1 v.1.2.2.2.2.2.2.2.2.2.1 v.1.2.2.2.2.2.2.2.2.2.2.1 v.1.2.2.2.2.2.2.2.2.2.2.2.1 v.2.1 v.2.2.1) (inner T an120 (modesOf F) 0 k 80 (S120 k) (ending T Try.f120 an120 0 K) cd120_1000011 (sh sp120_1000011 ws rs) N X) ws rs
noncomputable def L120_0 (ws : List PV) (rs : List RowS) (N : St → Option R) (X : Nat → St → Option R) : Option R :=
  onShape [.val [(0, 0)] (.slice (.prod (.int .i64) (.prod (.int .i64) .unit))), .val [] (.int .i64), .val [(0, 0)] (.slice (.int .u8)), .val [] (.int .i64), .rw 1, .val [] .bool, .rw 2, .val [] (.int .i64), .val [] (.int .i64)] [.arr [] (.int .u8), .arr [] (.prod (.int .i64) (.prod (.int .i64) .unit))] (fun v => f120_0 k (fun y0_3 y0_4 => N (sh jn120_0 [.val [(0, 0)] (.slice (.prod (.int .i64) (.prod (.int .i64) .unit))) v.1.1, zi v.1.2.1, zi v.1.2.2.2.1, .rw 1, .val [] .bool y0_3] [⟨0, .arr [] (.int .u8) y0_4⟩])) v.1.1 v.1.2.1 v.1.2.2.1 v.1.2.2.2.1 v.1.2.2.2.2.2.2.2.1 v.2.2.1 k v.1.2.2.2.2.2.1 v.1.2.2.2.2.2.2.2.2.1 v.2.1) (inner T an120 (modesOf F) 0 k 80 (S120 k) (ending T Try.f120 an120 0 K) cd120_0 (sh sp120_0 ws rs) N X) ws rs
noncomputable def L120 (id : Nat) (ws : List PV) (rs : List RowS) (N : St → Option R) (X : Nat → St → Option R) : Option R := bif id == 1000004 then L120_1000004 k K ws rs N X else bif id == 1000011 then L120_1000011 k K ws rs N X else bif id == 0 then L120_0 k K ws rs N X else none
theorem l120_1000004 (ws : List PV) (rs : List RowS) (N : St → Option R) (X : Nat → St → Option R) : L120 k K 1000004 ws rs N X = inner T an120 (modesOf F) 0 k 80 (S120 k) (ending T Try.f120 an120 0 K) cd120_1000004 (sh sp120_1000004 ws rs) N X := by
  show L120_1000004 k K ws rs N X = _
  unfold L120_1000004
  rw [f120_1000004_def]
  exact onShape_eq (a := [.val [(0, 0)] (.slice (.int .u8)), .val [(0, 0)] (.slice (.prod (.int .i64) (.prod (.int .i64) .unit))), .val [] (.int .i64), .val [(0, 0)] (.slice (.int .u8)), .val [] (.int .i64), .rw 1, .val [] .bool]) (b := [.arr [] (.int .u8)]) (G := fun ws rs => inner T an120 (modesOf F) 0 k 80 (S120 k) (ending T Try.f120 an120 0 K) cd120_1000004 (sh sp120_1000004 ws rs) N X) (fun x y => Eq.trans (by kernel_rfl) (innerS_eq T an120 (modesOf F) 0 k 80 (S120 k) (L120 k K) cd120_1000004 (l := []) (by kernel_rfl) trivial _ N X)) ws rs
theorem l120_1000011 (ws : List PV) (rs : List RowS) (N : St → Option R) (X : Nat → St → Option R) : L120 k K 1000011 ws rs N X = inner T an120 (modesOf F) 0 k 80 (S120 k) (ending T Try.f120 an120 0 K) cd120_1000011 (sh sp120_1000011 ws rs) N X := by
  show L120_1000011 k K ws rs N X = _
  unfold L120_1000011
  rw [f120_1000011_def]
  exact onShape_eq (a := [.val [(0, 0)] (.slice (.prod (.int .i64) (.prod (.int .i64) .unit))), .val [] (.int .i64), .val [(0, 0)] (.slice (.int .u8)), .val [] (.int .i64), .rw 1, .val [] .bool, .val [] (.int .i64), .val [] (.int .i64), .rw 2, .val [] (.int .i64), .val [] (.int .i64), .val [] .bool]) (b := [.arr [] (.int .u8), .arr [] (.prod (.int .i64) (.prod (.int .i64) .unit))]) (G := fun ws rs => inner T an120 (modesOf F) 0 k 80 (S120 k) (ending T Try.f120 an120 0 K) cd120_1000011 (sh sp120_1000011 ws rs) N X) (fun x y => Eq.trans (by kernel_rfl) (innerS_eq T an120 (modesOf F) 0 k 80 (S120 k) (L120 k K) cd120_1000011 (l := []) (by kernel_rfl) trivial _ N X)) ws rs
theorem b120_0 (rec : St → Option R) (N : St → Option R) (X : Nat → St → Option R) (v0_0 : zL3) (v0_1 : Int) (v0_2 : List Int) (v0_3 : Int) (v0_5 : Int) (v0_8 : zL4) (v0_4 : Bool) (v0_6 : Int) (v0_7 : List Int) :
    execS T an120 (modesOf F) 0 k 80 (S120 k) (L120 k K) (ending T Try.f120 an120 0 K) bd120_0 (sh sp120_0 [.val [(0, 0)] (.slice (.prod (.int .i64) (.prod (.int .i64) .unit))) v0_0, zi v0_1, .val [(0, 0)] (.slice (.int .u8)) v0_2, zi v0_3, .rw 1, .val [] .bool v0_4, .rw 2, zi v0_5, zi v0_6] [⟨0, .arr [] (.int .u8) v0_7⟩, ⟨0, .arr [] (.prod (.int .i64) (.prod (.int .i64) .unit)) v0_8⟩]) (fun st => atHead an120 0 bd120_0 st rec) (outX an120 0 0 N X) =
      f120_0b k (fun v0_4 v0_6 v0_7 => rec (sh sp120_0 [.val [(0, 0)] (.slice (.prod (.int .i64) (.prod (.int .i64) .unit))) v0_0, zi v0_1, .val [(0, 0)] (.slice (.int .u8)) v0_2, zi v0_3, .rw 1, .val [] .bool v0_4, .rw 2, zi v0_5, zi v0_6] [⟨0, .arr [] (.int .u8) v0_7⟩, ⟨0, .arr [] (.prod (.int .i64) (.prod (.int .i64) .unit)) v0_8⟩])) (fun y0_3 y0_4 => N (sh jn120_0 [.val [(0, 0)] (.slice (.prod (.int .i64) (.prod (.int .i64) .unit))) v0_0, zi v0_1, zi v0_3, .rw 1, .val [] .bool y0_3] [⟨0, .arr [] (.int .u8) y0_4⟩])) v0_0 v0_1 v0_2 v0_3 v0_5 v0_8 v0_4 v0_6 v0_7 := by kernel_rfl
theorem i120_0 (N : St → Option R) (X : Nat → St → Option R) (v0_0 : zL3) (v0_1 : Int) (v0_2 : List Int) (v0_3 : Int) (v0_5 : Int) (v0_8 : zL4) (m : Nat) : ∀ (v0_4 : Bool) (v0_6 : Int) (v0_7 : List Int),
    iter (atHead an120 0 bd120_0) m (fun st N' => exec T an120 (modesOf F) 0 k 80 (S120 k) (ending T Try.f120 an120 0 K) bd120_0 st N' (outX an120 0 0 N X)) (sh sp120_0 [.val [(0, 0)] (.slice (.prod (.int .i64) (.prod (.int .i64) .unit))) v0_0, zi v0_1, .val [(0, 0)] (.slice (.int .u8)) v0_2, zi v0_3, .rw 1, .val [] .bool v0_4, .rw 2, zi v0_5, zi v0_6] [⟨0, .arr [] (.int .u8) v0_7⟩, ⟨0, .arr [] (.prod (.int .i64) (.prod (.int .i64) .unit)) v0_8⟩]) = f120_0d k (fun y0_3 y0_4 => N (sh jn120_0 [.val [(0, 0)] (.slice (.prod (.int .i64) (.prod (.int .i64) .unit))) v0_0, zi v0_1, zi v0_3, .rw 1, .val [] .bool y0_3] [⟨0, .arr [] (.int .u8) y0_4⟩])) v0_0 v0_1 v0_2 v0_3 v0_5 v0_8 m v0_4 v0_6 v0_7 := by
  induction m with
  | zero => intros; rfl
  | succ m ih =>
    intro v0_4 v0_6 v0_7
    simp only [iter]
    rw [← execS_eq T an120 (modesOf F) 0 k 80 (S120 k) (L120 k K) bd120_0 (cuts_of _ _ _ _ _ _ _ _ bd120_0 (l := [(1000011, sp120_1000011, cd120_1000011)]) (by kernel_rfl) ⟨l120_1000011 k K, trivial⟩)]
    refine (b120_0 k K _ N X v0_0 v0_1 v0_2 v0_3 v0_5 v0_8 v0_4 v0_6 v0_7).trans ?_
    simp only [f120_0d, ih]
theorem l120_0 (ws : List PV) (rs : List RowS) (N : St → Option R) (X : Nat → St → Option R) : L120 k K 0 ws rs N X = inner T an120 (modesOf F) 0 k 80 (S120 k) (ending T Try.f120 an120 0 K) cd120_0 (sh sp120_0 ws rs) N X := by
  show L120_0 k K ws rs N X = _
  unfold L120_0
  rw [f120_0_def]
  exact onShape_eq (a := [.val [(0, 0)] (.slice (.prod (.int .i64) (.prod (.int .i64) .unit))), .val [] (.int .i64), .val [(0, 0)] (.slice (.int .u8)), .val [] (.int .i64), .rw 1, .val [] .bool, .rw 2, .val [] (.int .i64), .val [] (.int .i64)]) (b := [.arr [] (.int .u8), .arr [] (.prod (.int .i64) (.prod (.int .i64) .unit))]) (G := fun ws rs => inner T an120 (modesOf F) 0 k 80 (S120 k) (ending T Try.f120 an120 0 K) cd120_0 (sh sp120_0 ws rs) N X) (fun x y => Eq.trans (by kernel_rfl) (Eq.trans (i120_0 k K N X x.1 x.2.1 x.2.2.1 x.2.2.2.1 x.2.2.2.2.2.2.2.1 y.2.1 k x.2.2.2.2.2.1 x.2.2.2.2.2.2.2.2.1 y.1).symm (by kernel_rfl))) ws rs
end
theorem e120 (k : Nat) (a0 : List Int) (a1 : zL3) (a2 : Int) (a3 : List Int) (K : List PV → List RowS → Option R) : callC T F k 120 [.val [(0, 0)] (.slice (.int .u8)) a0, .val [(0, 0)] (.slice (.prod (.int .i64) (.prod (.int .i64) .unit))) a1, zi a2, .val [(0, 0)] (.slice (.int .u8)) a3] [] K = f120 k a0 a1 a2 a3 (fun z0 z1 z2 => K [.rw 1, .rw 2, .val [] .bool z0] [⟨0, .arr [] (.int .u8) z1⟩, ⟨0, .arr [] (.prod (.int .i64) (.prod (.int .i64) .unit)) z2⟩]) := by
  rw [f120_def]
  cases k with
  | zero => rfl
  | succ k =>
    refine Eq.trans (show _ = exec T an120 (modesOf F) 0 k 80 (callC T F k) (ending T Try.f120 an120 0 K) (bodyOf Try.f120) ⟨argEnv 0 [.val [(0, 0)] (.slice (.int .u8)) a0, .val [(0, 0)] (.slice (.prod (.int .i64) (.prod (.int .i64) .unit))) a1, zi a2, .val [(0, 0)] (.slice (.int .u8)) a3] (fun _ => none), rowsOf []⟩ (ending T Try.f120 an120 0 K) (fun _ _ => none) from by kernel_rfl) ?_
    rw [← S120_eq k, ← execS_eq T an120 (modesOf F) 0 k 80 (S120 k) (L120 k K) (bodyOf Try.f120) (cuts_of _ _ _ _ _ _ _ _ (bodyOf Try.f120) (l := [(1000004, sp120_1000004, cd120_1000004), (0, sp120_0, cd120_0)]) (by kernel_rfl) ⟨l120_1000004 k K, l120_0 k K, trivial⟩)]
    kernel_rfl
noncomputable def s120 (k : Nat) (a : List PV) (r : List RowS) (K : List PV → List RowS → Option R) : Option R :=
  onShape [.val [(0, 0)] (.slice (.int .u8)), .val [(0, 0)] (.slice (.prod (.int .i64) (.prod (.int .i64) .unit))), .val [] (.int .i64), .val [(0, 0)] (.slice (.int .u8))] [] (fun v => f120 k v.1.1 v.1.2.1 v.1.2.2.1 v.1.2.2.2.1 (fun z0 z1 z2 => K [.rw 1, .rw 2, .val [] .bool z0] [⟨0, .arr [] (.int .u8) z1⟩, ⟨0, .arr [] (.prod (.int .i64) (.prod (.int .i64) .unit)) z2⟩])) (callC T F k 120 a r K) a r
theorem s120_eq (k : Nat) (a : List PV) (r : List RowS) (K : List PV → List RowS → Option R) : s120 k a r K = callC T F k 120 a r K := by
  unfold s120
  exact onShape_eq (a := [.val [(0, 0)] (.slice (.int .u8)), .val [(0, 0)] (.slice (.prod (.int .i64) (.prod (.int .i64) .unit))), .val [] (.int .i64), .val [(0, 0)] (.slice (.int .u8))]) (b := []) (G := fun a r => callC T F k 120 a r K) (fun x y => Eq.trans (by kernel_rfl) (Eq.trans (e120 k x.1 x.2.1 x.2.2.1 x.2.2.2.1 K).symm (by kernel_rfl))) a r
end
section
variable {R : Type}
noncomputable def S64 (k g : Nat) (a : List PV) (r : List RowS) (K : List PV → List RowS → Option R) : Option R := callC T F k g a r K
theorem S64_eq (k : Nat) : S64 (R := R) k = callC T F k := by
  funext g a r K
  exact rfl
section
variable {R : Type} (k : Nat) (K : List PV → List RowS → Option R)
noncomputable def L64_0 (ws : List PV) (rs : List RowS) (N : St → Option R) (X : Nat → St → Option R) : Option R :=
  onShape [.val [] (.int .i64), .val [(0, 0)] (.slice (.int .u8)), .val [] (.int .i64), .val [] (.int .i64)] [] (fun v => f64_0 k (fun y0_0 => N (sh jn64_0 [zi y0_0] [])) v.1.2.1 v.1.2.2.1 k v.1.1 v.1.2.2.2.1) (inner T an64 (modesOf F) 0 k 25 (S64 k) (ending T Try.f64 an64 0 K) cd64_0 (sh sp64_0 ws rs) N X) ws rs
noncomputable def L64 (id : Nat) (ws : List PV) (rs : List RowS) (N : St → Option R) (X : Nat → St → Option R) : Option R := bif id == 0 then L64_0 k K ws rs N X else none
theorem b64_0 (rec : St → Option R) (N : St → Option R) (X : Nat → St → Option R) (v0_1 : List Int) (v0_2 : Int) (v0_0 : Int) (v0_3 : Int) :
    execS T an64 (modesOf F) 0 k 25 (S64 k) (L64 k K) (ending T Try.f64 an64 0 K) bd64_0 (sh sp64_0 [zi v0_0, .val [(0, 0)] (.slice (.int .u8)) v0_1, zi v0_2, zi v0_3] []) (fun st => atHead an64 0 bd64_0 st rec) (outX an64 0 0 N X) =
      f64_0b k (fun v0_0 v0_3 => rec (sh sp64_0 [zi v0_0, .val [(0, 0)] (.slice (.int .u8)) v0_1, zi v0_2, zi v0_3] [])) (fun y0_0 => N (sh jn64_0 [zi y0_0] [])) v0_1 v0_2 v0_0 v0_3 := by kernel_rfl
theorem i64_0 (N : St → Option R) (X : Nat → St → Option R) (v0_1 : List Int) (v0_2 : Int) (m : Nat) : ∀ (v0_0 : Int) (v0_3 : Int),
    iter (atHead an64 0 bd64_0) m (fun st N' => exec T an64 (modesOf F) 0 k 25 (S64 k) (ending T Try.f64 an64 0 K) bd64_0 st N' (outX an64 0 0 N X)) (sh sp64_0 [zi v0_0, .val [(0, 0)] (.slice (.int .u8)) v0_1, zi v0_2, zi v0_3] []) = f64_0d k (fun y0_0 => N (sh jn64_0 [zi y0_0] [])) v0_1 v0_2 m v0_0 v0_3 := by
  induction m with
  | zero => intros; rfl
  | succ m ih =>
    intro v0_0 v0_3
    simp only [iter]
    rw [← execS_eq T an64 (modesOf F) 0 k 25 (S64 k) (L64 k K) bd64_0 (cuts_of _ _ _ _ _ _ _ _ bd64_0 (l := []) (by kernel_rfl) trivial)]
    refine (b64_0 k K _ N X v0_1 v0_2 v0_0 v0_3).trans ?_
    simp only [f64_0d, ih]
theorem l64_0 (ws : List PV) (rs : List RowS) (N : St → Option R) (X : Nat → St → Option R) : L64 k K 0 ws rs N X = inner T an64 (modesOf F) 0 k 25 (S64 k) (ending T Try.f64 an64 0 K) cd64_0 (sh sp64_0 ws rs) N X := by
  show L64_0 k K ws rs N X = _
  unfold L64_0
  rw [f64_0_def]
  exact onShape_eq (a := [.val [] (.int .i64), .val [(0, 0)] (.slice (.int .u8)), .val [] (.int .i64), .val [] (.int .i64)]) (b := []) (G := fun ws rs => inner T an64 (modesOf F) 0 k 25 (S64 k) (ending T Try.f64 an64 0 K) cd64_0 (sh sp64_0 ws rs) N X) (fun x y => Eq.trans (by kernel_rfl) (Eq.trans (i64_0 k K N X x.2.1 x.2.2.1 k x.1 x.2.2.2.1).symm (by kernel_rfl))) ws rs
end
theorem e64 (k : Nat) (a0 : List Int) (K : List PV → List RowS → Option R) : callC T F k 64 [.val [(0, 0)] (.slice (.int .u8)) a0] [] K = f64 k a0 (fun z0 => K [zi z0] []) := by
  rw [f64_def]
  cases k with
  | zero => rfl
  | succ k =>
    refine Eq.trans (show _ = exec T an64 (modesOf F) 0 k 25 (callC T F k) (ending T Try.f64 an64 0 K) (bodyOf Try.f64) ⟨argEnv 0 [.val [(0, 0)] (.slice (.int .u8)) a0] (fun _ => none), rowsOf []⟩ (ending T Try.f64 an64 0 K) (fun _ _ => none) from by kernel_rfl) ?_
    rw [← S64_eq k, ← execS_eq T an64 (modesOf F) 0 k 25 (S64 k) (L64 k K) (bodyOf Try.f64) (cuts_of _ _ _ _ _ _ _ _ (bodyOf Try.f64) (l := [(0, sp64_0, cd64_0)]) (by kernel_rfl) ⟨l64_0 k K, trivial⟩)]
    kernel_rfl
noncomputable def s64 (k : Nat) (a : List PV) (r : List RowS) (K : List PV → List RowS → Option R) : Option R :=
  onShape [.val [(0, 0)] (.slice (.int .u8))] [] (fun v => f64 k v.1.1 (fun z0 => K [zi z0] [])) (callC T F k 64 a r K) a r
theorem s64_eq (k : Nat) (a : List PV) (r : List RowS) (K : List PV → List RowS → Option R) : s64 k a r K = callC T F k 64 a r K := by
  unfold s64
  exact onShape_eq (a := [.val [(0, 0)] (.slice (.int .u8))]) (b := []) (G := fun a r => callC T F k 64 a r K) (fun x y => Eq.trans (by kernel_rfl) (Eq.trans (e64 k x.1 K).symm (by kernel_rfl))) a r
end
section
variable {R : Type}
noncomputable def S131 (k g : Nat) (a : List PV) (r : List RowS) (K : List PV → List RowS → Option R) : Option R := bif g == 104 then s104 k a r K else bif g == 114 then s114 k a r K else callC T F k g a r K
theorem S131_eq (k : Nat) : S131 (R := R) k = callC T F k := by
  funext g a r K
  exact pick_eq (fun e => by subst e; exact s104_eq k a r K) (pick_eq (fun e => by subst e; exact s114_eq k a r K) (rfl))
theorem e131 (k : Nat) (a0 : zL3) (a1 : Bool) (K : List PV → List RowS → Option R) : callC T F k 131 [.val [(0, 0)] (.slice (.prod (.int .i64) (.prod (.int .i64) .unit))) a0, .val [] .bool a1] [] K = f131 k a0 a1 (fun z0 => K [.val [(0, 0)] (.slice (.prod (.int .i64) (.prod (.int .i64) .unit))) z0] []) := by
  rw [f131_def]
  cases k with
  | zero => rfl
  | succ k =>
    refine Eq.trans (show _ = exec T an131 (modesOf F) 0 k 12 (callC T F k) (ending T Try.f131 an131 0 K) (bodyOf Try.f131) ⟨argEnv 0 [.val [(0, 0)] (.slice (.prod (.int .i64) (.prod (.int .i64) .unit))) a0, .val [] .bool a1] (fun _ => none), rowsOf []⟩ (ending T Try.f131 an131 0 K) (fun _ _ => none) from by kernel_rfl) ?_
    rw [← S131_eq k, ← execS_eq T an131 (modesOf F) 0 k 12 (S131 k) (fun _ _ _ _ _ => none) (bodyOf Try.f131) (cuts_of _ _ _ _ _ _ _ _ (bodyOf Try.f131) (l := []) (by kernel_rfl) trivial)]
    kernel_rfl
noncomputable def s131 (k : Nat) (a : List PV) (r : List RowS) (K : List PV → List RowS → Option R) : Option R :=
  onShape [.val [(0, 0)] (.slice (.prod (.int .i64) (.prod (.int .i64) .unit))), .val [] .bool] [] (fun v => f131 k v.1.1 v.1.2.1 (fun z0 => K [.val [(0, 0)] (.slice (.prod (.int .i64) (.prod (.int .i64) .unit))) z0] [])) (callC T F k 131 a r K) a r
theorem s131_eq (k : Nat) (a : List PV) (r : List RowS) (K : List PV → List RowS → Option R) : s131 k a r K = callC T F k 131 a r K := by
  unfold s131
  exact onShape_eq (a := [.val [(0, 0)] (.slice (.prod (.int .i64) (.prod (.int .i64) .unit))), .val [] .bool]) (b := []) (G := fun a r => callC T F k 131 a r K) (fun x y => Eq.trans (by kernel_rfl) (Eq.trans (e131 k x.1 x.2.1 K).symm (by kernel_rfl))) a r
end
section
variable {R : Type}
noncomputable def S112 (k g : Nat) (a : List PV) (r : List RowS) (K : List PV → List RowS → Option R) : Option R := bif g == 95 then s95 k a r K else bif g == 131 then s131 k a r K else callC T F k g a r K
theorem S112_eq (k : Nat) : S112 (R := R) k = callC T F k := by
  funext g a r K
  exact pick_eq (fun e => by subst e; exact s95_eq k a r K) (pick_eq (fun e => by subst e; exact s131_eq k a r K) (rfl))
theorem e112 (k : Nat) (a0 : Int) (a1 : Int) (a2 : ByteArray) (a3 : List Int) (a4 : zL3) (a5 : Int) (a6 : Int) (a7 : Int) (a8 : Int) (K : List PV → List RowS → Option R) : callC T F k 112 [.agg [zi a0, zi a1, .val [] .str a2, .val [(0, 0)] (.slice (.int .u8)) a3, .val [(0, 0)] (.slice (.prod (.int .i64) (.prod (.int .i64) .unit))) a4, zi a5, zi a6, zi a7, zi a8]] [] K = f112 k a0 a1 a2 a3 a4 a5 a6 a7 a8 (fun z0 z1 => K [.val [(0, 0)] (.slice (.prod (.int .i64) (.prod (.int .i64) .unit))) z0, zi z1] []) := by
  rw [f112_def]
  cases k with
  | zero => rfl
  | succ k =>
    refine Eq.trans (show _ = exec T an112 (modesOf F) 0 k 15 (callC T F k) (ending T Try.f112 an112 0 K) (bodyOf Try.f112) ⟨argEnv 0 [.agg [zi a0, zi a1, .val [] .str a2, .val [(0, 0)] (.slice (.int .u8)) a3, .val [(0, 0)] (.slice (.prod (.int .i64) (.prod (.int .i64) .unit))) a4, zi a5, zi a6, zi a7, zi a8]] (fun _ => none), rowsOf []⟩ (ending T Try.f112 an112 0 K) (fun _ _ => none) from by kernel_rfl) ?_
    rw [← S112_eq k, ← execS_eq T an112 (modesOf F) 0 k 15 (S112 k) (fun _ _ _ _ _ => none) (bodyOf Try.f112) (cuts_of _ _ _ _ _ _ _ _ (bodyOf Try.f112) (l := []) (by kernel_rfl) trivial)]
    kernel_rfl
noncomputable def s112 (k : Nat) (a : List PV) (r : List RowS) (K : List PV → List RowS → Option R) : Option R :=
  onShape [.agg [.val [] (.int .i64), .val [] (.int .i64), .val [] .str, .val [(0, 0)] (.slice (.int .u8)), .val [(0, 0)] (.slice (.prod (.int .i64) (.prod (.int .i64) .unit))), .val [] (.int .i64), .val [] (.int .i64), .val [] (.int .i64), .val [] (.int .i64)]] [] (fun v => f112 k v.1.1.1 v.1.1.2.1 v.1.1.2.2.1 v.1.1.2.2.2.1 v.1.1.2.2.2.2.1 v.1.1.2.2.2.2.2.1 v.1.1.2.2.2.2.2.2.1 v.1.1.2.2.2.2.2.2.2.1 v.1.1.2.2.2.2.2.2.2.2.1 (fun z0 z1 => K [.val [(0, 0)] (.slice (.prod (.int .i64) (.prod (.int .i64) .unit))) z0, zi z1] [])) (callC T F k 112 a r K) a r
theorem s112_eq (k : Nat) (a : List PV) (r : List RowS) (K : List PV → List RowS → Option R) : s112 k a r K = callC T F k 112 a r K := by
  unfold s112
  exact onShape_eq (a := [.agg [.val [] (.int .i64), .val [] (.int .i64), .val [] .str, .val [(0, 0)] (.slice (.int .u8)), .val [(0, 0)] (.slice (.prod (.int .i64) (.prod (.int .i64) .unit))), .val [] (.int .i64), .val [] (.int .i64), .val [] (.int .i64), .val [] (.int .i64)]]) (b := []) (G := fun a r => callC T F k 112 a r K) (fun x y => Eq.trans (by kernel_rfl) (Eq.trans (e112 k x.1.1 x.1.2.1 x.1.2.2.1 x.1.2.2.2.1 x.1.2.2.2.2.1 x.1.2.2.2.2.2.1 x.1.2.2.2.2.2.2.1 x.1.2.2.2.2.2.2.2.1 x.1.2.2.2.2.2.2.2.2.1 K).symm (by kernel_rfl))) a r
end
end Go.Proofs.Ytlcklflbhhnnhaa.PM
