/- The small machine's run is the typed form (printed by a program of this work). -/
import Derived.Test.YtecnlienmpdlaaaPA0
set_option linter.unusedVariables false
set_option linter.unusedSimpArgs false
set_option maxRecDepth 100000
namespace Go.Proofs.Ytecnlienmpdlaaa.PM
open Go
noncomputable def F : Nat → Option PFn := findN [(52, .code Try.f52 an52), (73, .code Try.f73 an73), (53, .code Try.f53 an53), (85, .code Try.f85 an85), (62, .code Try.f62 an62), (47, .code Try.f47 an47), (50, .code Try.f50 an50), (18, .code Try.f18 an18), (41, .code Try.f41 an41), (54, .code Try.f54 an54), (55, .code Try.f55 an55), (49, .code Try.f49 an49), (51, .code Try.f51 an51), (19, .code Try.f19 an19), (97, .code Try.f97 an97), (108, .code Try.f108 an108), (96, .code Try.f96 an96), (74, .code Try.f74 an74), (75, .code Try.f75 an75), (72, .ext [.lend (.int .u8)] (cloneSpec (.int .u8) 1)), (76, .code Try.f76 an76), (56, .code Try.f56 an56), (20, .code Try.f20 an20), (77, .code Try.f77 an77), (78, .code Try.f78 an78), (22, .code Try.f22 an22), (57, .code Try.f57 an57), (21, .code Try.f21 an21), (23, .code Try.f23 an23), (16, .code Try.f16 an16), (13, .code Try.f13 an13), (5, .code Try.f5 an5), (24, .ext [.lend (.int .u8)] (cloneSpec (.int .u8) 1)), (6, .code Try.f6 an6)]
section
variable {R : Type}
noncomputable def S52 (k g : Nat) (a : List PV) (r : List RowS) (K : List PV → List RowS → Option R) : Option R := callC T F k g a r K
theorem S52_eq (k : Nat) : S52 (R := R) k = callC T F k := by
  funext g a r K
  exact rfl
theorem e52 (k : Nat) (a0 : Int) (a1 : Int) (a2 : Int) (K : List PV → List RowS → Option R) : callC T F k 52 [.val [] (.int .i64) a0, .val [] (.int .i64) a1, .val [] (.int .i64) a2] [] K = f52 k a0 a1 a2 (fun z0 => K [.val [] .bool z0] []) := by
  rw [f52_def]
  cases k with
  | zero => rfl
  | succ k =>
    refine Eq.trans (show _ = exec T an52 (modesOf F) 0 k 15 (callC T F k) (ending T Try.f52 an52 0 K) (bodyOf Try.f52) ⟨argEnv 0 [.val [] (.int .i64) a0, .val [] (.int .i64) a1, .val [] (.int .i64) a2] (fun _ => none), rowsOf []⟩ (ending T Try.f52 an52 0 K) (fun _ _ => none) from by kernel_rfl) ?_
    rw [← S52_eq k, ← execS_eq T an52 (modesOf F) 0 k 15 (S52 k) (fun _ _ _ _ _ => none) (bodyOf Try.f52) (cuts_of _ _ _ _ _ _ _ _ (bodyOf Try.f52) (l := []) (by kernel_rfl) trivial)]
    kernel_rfl
noncomputable def s52 (k : Nat) (a : List PV) (r : List RowS) (K : List PV → List RowS → Option R) : Option R :=
  onShape [.val [] (.int .i64), .val [] (.int .i64), .val [] (.int .i64)] [] (fun v => f52 k v.1.1 v.1.2.1 v.1.2.2.1 (fun z0 => K [.val [] .bool z0] [])) (callC T F k 52 a r K) a r
theorem s52_eq (k : Nat) (a : List PV) (r : List RowS) (K : List PV → List RowS → Option R) : s52 k a r K = callC T F k 52 a r K := by
  unfold s52
  exact onShape_eq (a := [.val [] (.int .i64), .val [] (.int .i64), .val [] (.int .i64)]) (b := []) (G := fun a r => callC T F k 52 a r K) (fun x y => Eq.trans (by kernel_rfl) (Eq.trans (e52 k x.1 x.2.1 x.2.2.1 K).symm (by kernel_rfl))) a r
end
section
variable {R : Type}
noncomputable def S73 (k g : Nat) (a : List PV) (r : List RowS) (K : List PV → List RowS → Option R) : Option R := callC T F k g a r K
theorem S73_eq (k : Nat) : S73 (R := R) k = callC T F k := by
  funext g a r K
  exact rfl
section
variable {R : Type} (k : Nat) (K : List PV → List RowS → Option R)
noncomputable def L73_0 (ws : List PV) (rs : List RowS) (N : St → Option R) (X : Nat → St → Option R) : Option R :=
  onShape [.val [] .str, .val [] (.int .i64), .val [] (.int .i64)] [] (fun v => f73_0 k (fun z0 => K [.val [] .bool z0] []) (N (sh jn73_0 [] [])) v.1.1 v.1.2.1 k v.1.2.2.1) (inner T an73 (modesOf F) 0 k 27 (S73 k) (ending T Try.f73 an73 0 K) cd73_0 (sh sp73_0 ws rs) N X) ws rs
noncomputable def L73 (id : Nat) (ws : List PV) (rs : List RowS) (N : St → Option R) (X : Nat → St → Option R) : Option R := bif id == 0 then L73_0 k K ws rs N X else none
theorem b73_0 (rec : St → Option R) (N : St → Option R) (X : Nat → St → Option R) (v0_0 : ByteArray) (v0_1 : Int) (v0_2 : Int) :
    execS T an73 (modesOf F) 0 k 27 (S73 k) (L73 k K) (ending T Try.f73 an73 0 K) bd73_0 (sh sp73_0 [.val [] .str v0_0, .val [] (.int .i64) v0_1, .val [] (.int .i64) v0_2] []) (fun st => atHead an73 0 bd73_0 st rec) (outX an73 0 0 N X) =
      f73_0b k (fun v0_2 => rec (sh sp73_0 [.val [] .str v0_0, .val [] (.int .i64) v0_1, .val [] (.int .i64) v0_2] [])) (fun z0 => K [.val [] .bool z0] []) (N (sh jn73_0 [] [])) v0_0 v0_1 v0_2 := by kernel_rfl
theorem i73_0 (N : St → Option R) (X : Nat → St → Option R) (v0_0 : ByteArray) (v0_1 : Int) (m : Nat) : ∀ (v0_2 : Int),
    iter (atHead an73 0 bd73_0) m (fun st N' => exec T an73 (modesOf F) 0 k 27 (S73 k) (ending T Try.f73 an73 0 K) bd73_0 st N' (outX an73 0 0 N X)) (sh sp73_0 [.val [] .str v0_0, .val [] (.int .i64) v0_1, .val [] (.int .i64) v0_2] []) = f73_0d k (fun z0 => K [.val [] .bool z0] []) (N (sh jn73_0 [] [])) v0_0 v0_1 m v0_2 := by
  induction m with
  | zero => intros; rfl
  | succ m ih =>
    intro v0_2
    simp only [iter]
    rw [← execS_eq T an73 (modesOf F) 0 k 27 (S73 k) (L73 k K) bd73_0 (cuts_of _ _ _ _ _ _ _ _ bd73_0 (l := []) (by kernel_rfl) trivial)]
    refine (b73_0 k K _ N X v0_0 v0_1 v0_2).trans ?_
    simp only [f73_0d, ih]
theorem l73_0 (ws : List PV) (rs : List RowS) (N : St → Option R) (X : Nat → St → Option R) : L73 k K 0 ws rs N X = inner T an73 (modesOf F) 0 k 27 (S73 k) (ending T Try.f73 an73 0 K) cd73_0 (sh sp73_0 ws rs) N X := by
  show L73_0 k K ws rs N X = _
  unfold L73_0
  rw [f73_0_def]
  exact onShape_eq (a := [.val [] .str, .val [] (.int .i64), .val [] (.int .i64)]) (b := []) (G := fun ws rs => inner T an73 (modesOf F) 0 k 27 (S73 k) (ending T Try.f73 an73 0 K) cd73_0 (sh sp73_0 ws rs) N X) (fun x y => Eq.trans (by kernel_rfl) (Eq.trans (i73_0 k K N X x.1 x.2.1 k x.2.2.1).symm (by kernel_rfl))) ws rs
end
theorem e73 (k : Nat) (a0 : ByteArray) (K : List PV → List RowS → Option R) : callC T F k 73 [.val [] .str a0] [] K = f73 k a0 (fun z0 => K [.val [] .bool z0] []) := by
  rw [f73_def]
  cases k with
  | zero => rfl
  | succ k =>
    refine Eq.trans (show _ = exec T an73 (modesOf F) 0 k 27 (callC T F k) (ending T Try.f73 an73 0 K) (bodyOf Try.f73) ⟨argEnv 0 [.val [] .str a0] (fun _ => none), rowsOf []⟩ (ending T Try.f73 an73 0 K) (fun _ _ => none) from by kernel_rfl) ?_
    rw [← S73_eq k, ← execS_eq T an73 (modesOf F) 0 k 27 (S73 k) (L73 k K) (bodyOf Try.f73) (cuts_of _ _ _ _ _ _ _ _ (bodyOf Try.f73) (l := [(0, sp73_0, cd73_0)]) (by kernel_rfl) ⟨l73_0 k K, trivial⟩)]
    kernel_rfl
noncomputable def s73 (k : Nat) (a : List PV) (r : List RowS) (K : List PV → List RowS → Option R) : Option R :=
  onShape [.val [] .str] [] (fun v => f73 k v.1.1 (fun z0 => K [.val [] .bool z0] [])) (callC T F k 73 a r K) a r
theorem s73_eq (k : Nat) (a : List PV) (r : List RowS) (K : List PV → List RowS → Option R) : s73 k a r K = callC T F k 73 a r K := by
  unfold s73
  exact onShape_eq (a := [.val [] .str]) (b := []) (G := fun a r => callC T F k 73 a r K) (fun x y => Eq.trans (by kernel_rfl) (Eq.trans (e73 k x.1 K).symm (by kernel_rfl))) a r
end
section
variable {R : Type}
noncomputable def S53 (k g : Nat) (a : List PV) (r : List RowS) (K : List PV → List RowS → Option R) : Option R := bif g == 73 then s73 k a r K else callC T F k g a r K
theorem S53_eq (k : Nat) : S53 (R := R) k = callC T F k := by
  funext g a r K
  exact pick_eq (fun e => by subst e; exact s73_eq k a r K) (rfl)
theorem e53 (k : Nat) (a0 : ByteArray) (K : List PV → List RowS → Option R) : callC T F k 53 [.val [] .str a0] [] K = f53 k a0 (fun z0 => K [.val [] .bool z0] []) := by
  rw [f53_def]
  cases k with
  | zero => rfl
  | succ k =>
    refine Eq.trans (show _ = exec T an53 (modesOf F) 0 k 10 (callC T F k) (ending T Try.f53 an53 0 K) (bodyOf Try.f53) ⟨argEnv 0 [.val [] .str a0] (fun _ => none), rowsOf []⟩ (ending T Try.f53 an53 0 K) (fun _ _ => none) from by kernel_rfl) ?_
    rw [← S53_eq k, ← execS_eq T an53 (modesOf F) 0 k 10 (S53 k) (fun _ _ _ _ _ => none) (bodyOf Try.f53) (cuts_of _ _ _ _ _ _ _ _ (bodyOf Try.f53) (l := []) (by kernel_rfl) trivial)]
    kernel_rfl
noncomputable def s53 (k : Nat) (a : List PV) (r : List RowS) (K : List PV → List RowS → Option R) : Option R :=
  onShape [.val [] .str] [] (fun v => f53 k v.1.1 (fun z0 => K [.val [] .bool z0] [])) (callC T F k 53 a r K) a r
theorem s53_eq (k : Nat) (a : List PV) (r : List RowS) (K : List PV → List RowS → Option R) : s53 k a r K = callC T F k 53 a r K := by
  unfold s53
  exact onShape_eq (a := [.val [] .str]) (b := []) (G := fun a r => callC T F k 53 a r K) (fun x y => Eq.trans (by kernel_rfl) (Eq.trans (e53 k x.1 K).symm (by kernel_rfl))) a r
end
section
variable {R : Type}
noncomputable def S85 (k g : Nat) (a : List PV) (r : List RowS) (K : List PV → List RowS → Option R) : Option R := callC T F k g a r K
theorem S85_eq (k : Nat) : S85 (R := R) k = callC T F k := by
  funext g a r K
  exact rfl
theorem e85 (k : Nat) (a0 : Int) (a1 : Int) (K : List PV → List RowS → Option R) : callC T F k 85 [.val [] (.int .u64) a0, .val [] (.int .u64) a1] [] K = f85 k a0 a1 (fun z0 z1 => K [.val [] (.int .u64) z0, .val [] (.int .u64) z1] []) := by
  rw [f85_def]
  cases k with
  | zero => rfl
  | succ k =>
    refine Eq.trans (show _ = exec T an85 (modesOf F) 0 k 51 (callC T F k) (ending T Try.f85 an85 0 K) (bodyOf Try.f85) ⟨argEnv 0 [.val [] (.int .u64) a0, .val [] (.int .u64) a1] (fun _ => none), rowsOf []⟩ (ending T Try.f85 an85 0 K) (fun _ _ => none) from by kernel_rfl) ?_
    rw [← S85_eq k, ← execS_eq T an85 (modesOf F) 0 k 51 (S85 k) (fun _ _ _ _ _ => none) (bodyOf Try.f85) (cuts_of _ _ _ _ _ _ _ _ (bodyOf Try.f85) (l := []) (by kernel_rfl) trivial)]
    kernel_rfl
noncomputable def s85 (k : Nat) (a : List PV) (r : List RowS) (K : List PV → List RowS → Option R) : Option R :=
  onShape [.val [] (.int .u64), .val [] (.int .u64)] [] (fun v => f85 k v.1.1 v.1.2.1 (fun z0 z1 => K [.val [] (.int .u64) z0, .val [] (.int .u64) z1] [])) (callC T F k 85 a r K) a r
theorem s85_eq (k : Nat) (a : List PV) (r : List RowS) (K : List PV → List RowS → Option R) : s85 k a r K = callC T F k 85 a r K := by
  unfold s85
  exact onShape_eq (a := [.val [] (.int .u64), .val [] (.int .u64)]) (b := []) (G := fun a r => callC T F k 85 a r K) (fun x y => Eq.trans (by kernel_rfl) (Eq.trans (e85 k x.1 x.2.1 K).symm (by kernel_rfl))) a r
end
section
variable {R : Type}
noncomputable def S62 (k g : Nat) (a : List PV) (r : List RowS) (K : List PV → List RowS → Option R) : Option R := bif g == 85 then s85 k a r K else callC T F k g a r K
theorem S62_eq (k : Nat) : S62 (R := R) k = callC T F k := by
  funext g a r K
  exact pick_eq (fun e => by subst e; exact s85_eq k a r K) (rfl)
theorem e62 (k : Nat) (a0 : Int) (a1 : Int) (K : List PV → List RowS → Option R) : callC T F k 62 [.val [] (.int .u64) a0, .val [] (.int .u64) a1] [] K = f62 k a0 a1 (fun z0 z1 => K [.val [] (.int .u64) z0, .val [] (.int .u64) z1] []) := by
  rw [f62_def]
  cases k with
  | zero => rfl
  | succ k =>
    refine Eq.trans (show _ = exec T an62 (modesOf F) 0 k 30 (callC T F k) (ending T Try.f62 an62 0 K) (bodyOf Try.f62) ⟨argEnv 0 [.val [] (.int .u64) a0, .val [] (.int .u64) a1] (fun _ => none), rowsOf []⟩ (ending T Try.f62 an62 0 K) (fun _ _ => none) from by kernel_rfl) ?_
    rw [← S62_eq k, ← execS_eq T an62 (modesOf F) 0 k 30 (S62 k) (fun _ _ _ _ _ => none) (bodyOf Try.f62) (cuts_of _ _ _ _ _ _ _ _ (bodyOf Try.f62) (l := []) (by kernel_rfl) trivial)]
    kernel_rfl
noncomputable def s62 (k : Nat) (a : List PV) (r : List RowS) (K : List PV → List RowS → Option R) : Option R :=
  onShape [.val [] (.int .u64), .val [] (.int .u64)] [] (fun v => f62 k v.1.1 v.1.2.1 (fun z0 z1 => K [.val [] (.int .u64) z0, .val [] (.int .u64) z1] [])) (callC T F k 62 a r K) a r
theorem s62_eq (k : Nat) (a : List PV) (r : List RowS) (K : List PV → List RowS → Option R) : s62 k a r K = callC T F k 62 a r K := by
  unfold s62
  exact onShape_eq (a := [.val [] (.int .u64), .val [] (.int .u64)]) (b := []) (G := fun a r => callC T F k 62 a r K) (fun x y => Eq.trans (by kernel_rfl) (Eq.trans (e62 k x.1 x.2.1 K).symm (by kernel_rfl))) a r
end
section
variable {R : Type}
noncomputable def S47 (k g : Nat) (a : List PV) (r : List RowS) (K : List PV → List RowS → Option R) : Option R := bif g == 62 then s62 k a r K else callC T F k g a r K
theorem S47_eq (k : Nat) : S47 (R := R) k = callC T F k := by
  funext g a r K
  exact pick_eq (fun e => by subst e; exact s62_eq k a r K) (rfl)
section
variable {R : Type} (k : Nat) (K : List PV → List RowS → Option R)
noncomputable def L47_1000002 (ws : List PV) (rs : List RowS) (N : St → Option R) (X : Nat → St → Option R) : Option R :=
  onShape [.val [(0, 0)] (.slice (.int .u8)), .val [] (.int .i64), .val [] .bool] [] (fun v => f47_1000002 k (N (sh fi47_2 [.val [(0, 0)] (.slice (.int .u8)) v.1.1, .val [] (.int .i64) v.1.2.1] [])) v.1.1 v.1.2.1 v.1.2.2.1) (inner T an47 (modesOf F) 0 k 48 (S47 k) (ending T Try.f47 an47 0 K) cd47_1000002 (sh sp47_1000002 ws rs) N X) ws rs
noncomputable def L47_1000005 (ws : List PV) (rs : List RowS) (N : St → Option R) (X : Nat → St → Option R) : Option R :=
  onShape [.val [(0, 0)] (.slice (.int .u8)), .val [] (.int .u64), .val [] .bool] [] (fun v => f47_1000005 k (N (sh fi47_5 [.val [(0, 0)] (.slice (.int .u8)) v.1.1, .val [] (.int .u64) v.1.2.1] [])) v.1.1 v.1.2.1 v.1.2.2.1) (inner T an47 (modesOf F) 0 k 48 (S47 k) (ending T Try.f47 an47 0 K) cd47_1000005 (sh sp47_1000005 ws rs) N X) ws rs
noncomputable def L47_0 (ws : List PV) (rs : List RowS) (N : St → Option R) (X : Nat → St → Option R) : Option R :=
  onShape [.rw 1, .val [] (.int .i64)] [.arr [] (.int .u8)] (fun v => f47_0 k (fun y0_0 => N (sh jn47_0 [.rw 1] [⟨0, .arr [] (.int .u8) y0_0⟩])) k v.1.2.1 v.2.1) (inner T an47 (modesOf F) 0 k 48 (S47 k) (ending T Try.f47 an47 0 K) cd47_0 (sh sp47_0 ws rs) N X) ws rs
noncomputable def L47 (id : Nat) (ws : List PV) (rs : List RowS) (N : St → Option R) (X : Nat → St → Option R) : Option R := bif id == 1000002 then L47_1000002 k K ws rs N X else bif id == 1000005 then L47_1000005 k K ws rs N X else bif id == 0 then L47_0 k K ws rs N X else none
theorem l47_1000002 (ws : List PV) (rs : List RowS) (N : St → Option R) (X : Nat → St → Option R) : L47 k K 1000002 ws rs N X = inner T an47 (modesOf F) 0 k 48 (S47 k) (ending T Try.f47 an47 0 K) cd47_1000002 (sh sp47_1000002 ws rs) N X := by
  show L47_1000002 k K ws rs N X = _
  unfold L47_1000002
  rw [f47_1000002_def]
  exact onShape_eq (a := [.val [(0, 0)] (.slice (.int .u8)), .val [] (.int .i64), .val [] .bool]) (b := []) (G := fun ws rs => inner T an47 (modesOf F) 0 k 48 (S47 k) (ending T Try.f47 an47 0 K) cd47_1000002 (sh sp47_1000002 ws rs) N X) (fun x y => Eq.trans (by kernel_rfl) (innerS_eq T an47 (modesOf F) 0 k 48 (S47 k) (L47 k K) cd47_1000002 (l := []) (by kernel_rfl) trivial _ N X)) ws rs
theorem l47_1000005 (ws : List PV) (rs : List RowS) (N : St → Option R) (X : Nat → St → Option R) : L47 k K 1000005 ws rs N X = inner T an47 (modesOf F) 0 k 48 (S47 k) (ending T Try.f47 an47 0 K) cd47_1000005 (sh sp47_1000005 ws rs) N X := by
  show L47_1000005 k K ws rs N X = _
  unfold L47_1000005
  rw [f47_1000005_def]
  exact onShape_eq (a := [.val [(0, 0)] (.slice (.int .u8)), .val [] (.int .u64), .val [] .bool]) (b := []) (G := fun ws rs => inner T an47 (modesOf F) 0 k 48 (S47 k) (ending T Try.f47 an47 0 K) cd47_1000005 (sh sp47_1000005 ws rs) N X) (fun x y => Eq.trans (by kernel_rfl) (innerS_eq T an47 (modesOf F) 0 k 48 (S47 k) (L47 k K) cd47_1000005 (l := []) (by kernel_rfl) trivial _ N X)) ws rs
theorem b47_0 (rec : St → Option R) (N : St → Option R) (X : Nat → St → Option R) (v0_0 : Int) (v0_1 : List Int) :
    execS T an47 (modesOf F) 0 k 48 (S47 k) (L47 k K) (ending T Try.f47 an47 0 K) bd47_0 (sh sp47_0 [.rw 1, .val [] (.int .i64) v0_0] [⟨0, .arr [] (.int .u8) v0_1⟩]) (fun st => atHead an47 0 bd47_0 st rec) (outX an47 0 0 N X) =
      f47_0b k (fun v0_0 v0_1 => rec (sh sp47_0 [.rw 1, .val [] (.int .i64) v0_0] [⟨0, .arr [] (.int .u8) v0_1⟩])) (fun y0_0 => N (sh jn47_0 [.rw 1] [⟨0, .arr [] (.int .u8) y0_0⟩])) v0_0 v0_1 := by kernel_rfl
theorem i47_0 (N : St → Option R) (X : Nat → St → Option R) (m : Nat) : ∀ (v0_0 : Int) (v0_1 : List Int),
    iter (atHead an47 0 bd47_0) m (fun st N' => exec T an47 (modesOf F) 0 k 48 (S47 k) (ending T Try.f47 an47 0 K) bd47_0 st N' (outX an47 0 0 N X)) (sh sp47_0 [.rw 1, .val [] (.int .i64) v0_0] [⟨0, .arr [] (.int .u8) v0_1⟩]) = f47_0d k (fun y0_0 => N (sh jn47_0 [.rw 1] [⟨0, .arr [] (.int .u8) y0_0⟩])) m v0_0 v0_1 := by
  induction m with
  | zero => intros; rfl
  | succ m ih =>
    intro v0_0 v0_1
    simp only [iter]
    rw [← execS_eq T an47 (modesOf F) 0 k 48 (S47 k) (L47 k K) bd47_0 (cuts_of _ _ _ _ _ _ _ _ bd47_0 (l := []) (by kernel_rfl) trivial)]
    refine (b47_0 k K _ N X v0_0 v0_1).trans ?_
    simp only [f47_0d, ih]
theorem l47_0 (ws : List PV) (rs : List RowS) (N : St → Option R) (X : Nat → St → Option R) : L47 k K 0 ws rs N X = inner T an47 (modesOf F) 0 k 48 (S47 k) (ending T Try.f47 an47 0 K) cd47_0 (sh sp47_0 ws rs) N X := by
  show L47_0 k K ws rs N X = _
  unfold L47_0
  rw [f47_0_def]
  exact onShape_eq (a := [.rw 1, .val [] (.int .i64)]) (b := [.arr [] (.int .u8)]) (G := fun ws rs => inner T an47 (modesOf F) 0 k 48 (S47 k) (ending T Try.f47 an47 0 K) cd47_0 (sh sp47_0 ws rs) N X) (fun x y => Eq.trans (by kernel_rfl) (Eq.trans (i47_0 k K N X k x.2.1 y.1).symm (by kernel_rfl))) ws rs
end
theorem e47 (k : Nat) (a0 : List Int) (a1 : Int) (K : List PV → List RowS → Option R) : callC T F k 47 [.val [(0, 0)] (.slice (.int .u8)) a0, .val [] (.int .i64) a1] [] K = f47 k a0 a1 (fun z0 => K [.rw 1] [⟨0, .arr [] (.int .u8) z0⟩]) := by
  rw [f47_def]
  cases k with
  | zero => rfl
  | succ k =>
    refine Eq.trans (show _ = exec T an47 (modesOf F) 0 k 48 (callC T F k) (ending T Try.f47 an47 0 K) (bodyOf Try.f47) ⟨argEnv 0 [.val [(0, 0)] (.slice (.int .u8)) a0, .val [] (.int .i64) a1] (fun _ => none), rowsOf []⟩ (ending T Try.f47 an47 0 K) (fun _ _ => none) from by kernel_rfl) ?_
    rw [← S47_eq k, ← execS_eq T an47 (modesOf F) 0 k 48 (S47 k) (L47 k K) (bodyOf Try.f47) (cuts_of _ _ _ _ _ _ _ _ (bodyOf Try.f47) (l := [(1000002, sp47_1000002, cd47_1000002), (1000005, sp47_1000005, cd47_1000005), (0, sp47_0, cd47_0)]) (by kernel_rfl) ⟨l47_1000002 k K, l47_1000005 k K, l47_0 k K, trivial⟩)]
    kernel_rfl
noncomputable def s47 (k : Nat) (a : List PV) (r : List RowS) (K : List PV → List RowS → Option R) : Option R :=
  onShape [.val [(0, 0)] (.slice (.int .u8)), .val [] (.int .i64)] [] (fun v => f47 k v.1.1 v.1.2.1 (fun z0 => K [.rw 1] [⟨0, .arr [] (.int .u8) z0⟩])) (callC T F k 47 a r K) a r
theorem s47_eq (k : Nat) (a : List PV) (r : List RowS) (K : List PV → List RowS → Option R) : s47 k a r K = callC T F k 47 a r K := by
  unfold s47
  exact onShape_eq (a := [.val [(0, 0)] (.slice (.int .u8)), .val [] (.int .i64)]) (b := []) (G := fun a r => callC T F k 47 a r K) (fun x y => Eq.trans (by kernel_rfl) (Eq.trans (e47 k x.1 x.2.1 K).symm (by kernel_rfl))) a r
end
section
variable {R : Type}
noncomputable def S50 (k g : Nat) (a : List PV) (r : List RowS) (K : List PV → List RowS → Option R) : Option R := callC T F k g a r K
theorem S50_eq (k : Nat) : S50 (R := R) k = callC T F k := by
  funext g a r K
  exact rfl
section
variable {R : Type} (k : Nat) (K : List PV → List RowS → Option R)
noncomputable def L50_1000011 (ws : List PV) (rs : List RowS) (N : St → Option R) (X : Nat → St → Option R) : Option R :=
  onShape [.val [] (.int .i64), .val [(0, 0)] (.slice (.int .u8)), .val [] (.int .i64), .val [] (.int .i64), .val [] (.int .i64), .val [] .bool] [] (fun v => f50_1000011 k (fun yN_0 => N (sh fi50_11 [.val [] (.int .i64) yN_0, .val [(0, 0)] (.slice (.int .u8)) v.1.2.1, .val [] (.int .i64) v.1.2.2.1, .val [] (.int .i64) v.1.2.2.2.1, .val [] (.int .i64) v.1.2.2.2.2.1] [])) v.1.1 v.1.2.1 v.1.2.2.1 v.1.2.2.2.1 v.1.2.2.2.2.1 v.1.2.2.2.2.2.1) (inner T an50 (modesOf F) 0 k 31 (S50 k) (ending T Try.f50 an50 0 K) cd50_1000011 (sh sp50_1000011 ws rs) N X) ws rs
noncomputable def L50_2 (ws : List PV) (rs : List RowS) (N : St → Option R) (X : Nat → St → Option R) : Option R :=
  onShape [.val [] (.int .i64), .val [(0, 0)] (.slice (.int .u8)), .val [] (.int .i64), .val [] (.int .i64), .val [] (.int .i64)] [] (fun v => f50_2 k (fun y2_0 => N (sh jn50_2 [.val [] (.int .i64) y2_0, .val [(0, 0)] (.slice (.int .u8)) v.1.2.1, .val [] (.int .i64) v.1.2.2.1, .val [] (.int .i64) v.1.2.2.2.1] [])) v.1.2.1 v.1.2.2.1 v.1.2.2.2.1 k v.1.1 v.1.2.2.2.2.1) (inner T an50 (modesOf F) 0 k 31 (S50 k) (ending T Try.f50 an50 0 K) cd50_2 (sh sp50_2 ws rs) N X) ws rs
noncomputable def L50_0 (ws : List PV) (rs : List RowS) (N : St → Option R) (X : Nat → St → Option R) : Option R :=
  onShape [.val [] (.int .i64), .val [(0, 0)] (.slice (.int .u8)), .val [] (.int .i64), .val [] (.int .i64)] [] (fun v => f50_0 k (fun y0_0 => N (sh jn50_0 [.val [] (.int .i64) y0_0] [])) v.1.2.1 v.1.2.2.1 k v.1.1 v.1.2.2.2.1) (inner T an50 (modesOf F) 0 k 31 (S50 k) (ending T Try.f50 an50 0 K) cd50_0 (sh sp50_0 ws rs) N X) ws rs
noncomputable def L50 (id : Nat) (ws : List PV) (rs : List RowS) (N : St → Option R) (X : Nat → St → Option R) : Option R := bif id == 1000011 then L50_1000011 k K ws rs N X else bif id == 2 then L50_2 k K ws rs N X else bif id == 0 then L50_0 k K ws rs N X else none
theorem l50_1000011 (ws : List PV) (rs : List RowS) (N : St → Option R) (X : Nat → St → Option R) : L50 k K 1000011 ws rs N X = inner T an50 (modesOf F) 0 k 31 (S50 k) (ending T Try.f50 an50 0 K) cd50_1000011 (sh sp50_1000011 ws rs) N X := by
  show L50_1000011 k K ws rs N X = _
  unfold L50_1000011
  rw [f50_1000011_def]
  exact onShape_eq (a := [.val [] (.int .i64), .val [(0, 0)] (.slice (.int .u8)), .val [] (.int .i64), .val [] (.int .i64), .val [] (.int .i64), .val [] .bool]) (b := []) (G := fun ws rs => inner T an50 (modesOf F) 0 k 31 (S50 k) (ending T Try.f50 an50 0 K) cd50_1000011 (sh sp50_1000011 ws rs) N X) (fun x y => Eq.trans (by kernel_rfl) (innerS_eq T an50 (modesOf F) 0 k 31 (S50 k) (L50 k K) cd50_1000011 (l := []) (by kernel_rfl) trivial _ N X)) ws rs
theorem b50_2 (rec : St → Option R) (N : St → Option R) (X : Nat → St → Option R) (v2_1 : List Int) (v2_2 : Int) (v2_3 : Int) (v2_0 : Int) (v2_4 : Int) :
    execS T an50 (modesOf F) 0 k 31 (S50 k) (L50 k K) (ending T Try.f50 an50 0 K) bd50_2 (sh sp50_2 [.val [] (.int .i64) v2_0, .val [(0, 0)] (.slice (.int .u8)) v2_1, .val [] (.int .i64) v2_2, .val [] (.int .i64) v2_3, .val [] (.int .i64) v2_4] []) (fun st => atHead an50 0 bd50_2 st rec) (outX an50 0 2 N X) =
      f50_2b k (fun v2_0 v2_4 => rec (sh sp50_2 [.val [] (.int .i64) v2_0, .val [(0, 0)] (.slice (.int .u8)) v2_1, .val [] (.int .i64) v2_2, .val [] (.int .i64) v2_3, .val [] (.int .i64) v2_4] [])) (fun y2_0 => N (sh jn50_2 [.val [] (.int .i64) y2_0, .val [(0, 0)] (.slice (.int .u8)) v2_1, .val [] (.int .i64) v2_2, .val [] (.int .i64) v2_3] [])) v2_1 v2_2 v2_3 v2_0 v2_4 := by kernel_rfl
theorem i50_2 (N : St → Option R) (X : Nat → St → Option R) (v2_1 : List Int) (v2_2 : Int) (v2_3 : Int) (m : Nat) : ∀ (v2_0 : Int) (v2_4 : Int),
    iter (atHead an50 0 bd50_2) m (fun st N' => exec T an50 (modesOf F) 0 k 31 (S50 k) (ending T Try.f50 an50 0 K) bd50_2 st N' (outX an50 0 2 N X)) (sh sp50_2 [.val [] (.int .i64) v2_0, .val [(0, 0)] (.slice (.int .u8)) v2_1, .val [] (.int .i64) v2_2, .val [] (.int .i64) v2_3, .val [] (.int .i64) v2_4] []) = f50_2d k (fun y2_0 => N (sh jn50_2 [.val [] (.int .i64) y2_0, .val [(0, 0)] (.slice (.int .u8)) v2_1, .val [] (.int .i64) v2_2, .val [] (.int .i64) v2_3] [])) v2_1 v2_2 v2_3 m v2_0 v2_4 := by
  induction m with
  | zero => intros; rfl
  | succ m ih =>
    intro v2_0 v2_4
    simp only [iter]
    rw [← execS_eq T an50 (modesOf F) 0 k 31 (S50 k) (L50 k K) bd50_2 (cuts_of _ _ _ _ _ _ _ _ bd50_2 (l := [(1000011, sp50_1000011, cd50_1000011)]) (by kernel_rfl) ⟨l50_1000011 k K, trivial⟩)]
    refine (b50_2 k K _ N X v2_1 v2_2 v2_3 v2_0 v2_4).trans ?_
    simp only [f50_2d, ih]
theorem l50_2 (ws : List PV) (rs : List RowS) (N : St → Option R) (X : Nat → St → Option R) : L50 k K 2 ws rs N X = inner T an50 (modesOf F) 0 k 31 (S50 k) (ending T Try.f50 an50 0 K) cd50_2 (sh sp50_2 ws rs) N X := by
  show L50_2 k K ws rs N X = _
  unfold L50_2
  rw [f50_2_def]
  exact onShape_eq (a := [.val [] (.int .i64), .val [(0, 0)] (.slice (.int .u8)), .val [] (.int .i64), .val [] (.int .i64), .val [] (.int .i64)]) (b := []) (G := fun ws rs => inner T an50 (modesOf F) 0 k 31 (S50 k) (ending T Try.f50 an50 0 K) cd50_2 (sh sp50_2 ws rs) N X) (fun x y => Eq.trans (by kernel_rfl) (Eq.trans (i50_2 k K N X x.2.1 x.2.2.1 x.2.2.2.1 k x.1 x.2.2.2.2.1).symm (by kernel_rfl))) ws rs
theorem b50_0 (rec : St → Option R) (N : St → Option R) (X : Nat → St → Option R) (v0_1 : List Int) (v0_2 : Int) (v0_0 : Int) (v0_3 : Int) :
    execS T an50 (modesOf F) 0 k 31 (S50 k) (L50 k K) (ending T Try.f50 an50 0 K) bd50_0 (sh sp50_0 [.val [] (.int .i64) v0_0, .val [(0, 0)] (.slice (.int .u8)) v0_1, .val [] (.int .i64) v0_2, .val [] (.int .i64) v0_3] []) (fun st => atHead an50 0 bd50_0 st rec) (outX an50 0 0 N X) =
      f50_0b k (fun v0_0 v0_3 => rec (sh sp50_0 [.val [] (.int .i64) v0_0, .val [(0, 0)] (.slice (.int .u8)) v0_1, .val [] (.int .i64) v0_2, .val [] (.int .i64) v0_3] [])) (fun y0_0 => N (sh jn50_0 [.val [] (.int .i64) y0_0] [])) v0_1 v0_2 v0_0 v0_3 := by kernel_rfl
theorem i50_0 (N : St → Option R) (X : Nat → St → Option R) (v0_1 : List Int) (v0_2 : Int) (m : Nat) : ∀ (v0_0 : Int) (v0_3 : Int),
    iter (atHead an50 0 bd50_0) m (fun st N' => exec T an50 (modesOf F) 0 k 31 (S50 k) (ending T Try.f50 an50 0 K) bd50_0 st N' (outX an50 0 0 N X)) (sh sp50_0 [.val [] (.int .i64) v0_0, .val [(0, 0)] (.slice (.int .u8)) v0_1, .val [] (.int .i64) v0_2, .val [] (.int .i64) v0_3] []) = f50_0d k (fun y0_0 => N (sh jn50_0 [.val [] (.int .i64) y0_0] [])) v0_1 v0_2 m v0_0 v0_3 := by
  induction m with
  | zero => intros; rfl
  | succ m ih =>
    intro v0_0 v0_3
    simp only [iter]
    rw [← execS_eq T an50 (modesOf F) 0 k 31 (S50 k) (L50 k K) bd50_0 (cuts_of _ _ _ _ _ _ _ _ bd50_0 (l := [(2, sp50_2, cd50_2)]) (by kernel_rfl) ⟨l50_2 k K, trivial⟩)]
    refine (b50_0 k K _ N X v0_1 v0_2 v0_0 v0_3).trans ?_
    simp only [f50_0d, ih]
theorem l50_0 (ws : List PV) (rs : List RowS) (N : St → Option R) (X : Nat → St → Option R) : L50 k K 0 ws rs N X = inner T an50 (modesOf F) 0 k 31 (S50 k) (ending T Try.f50 an50 0 K) cd50_0 (sh sp50_0 ws rs) N X := by
  show L50_0 k K ws rs N X = _
  unfold L50_0
  rw [f50_0_def]
  exact onShape_eq (a := [.val [] (.int .i64), .val [(0, 0)] (.slice (.int .u8)), .val [] (.int .i64), .val [] (.int .i64)]) (b := []) (G := fun ws rs => inner T an50 (modesOf F) 0 k 31 (S50 k) (ending T Try.f50 an50 0 K) cd50_0 (sh sp50_0 ws rs) N X) (fun x y => Eq.trans (by kernel_rfl) (Eq.trans (i50_0 k K N X x.2.1 x.2.2.1 k x.1 x.2.2.2.1).symm (by kernel_rfl))) ws rs
end
theorem e50 (k : Nat) (a0 : List Int) (K : List PV → List RowS → Option R) : callC T F k 50 [.val [(0, 0)] (.slice (.int .u8)) a0] [] K = f50 k a0 (fun z0 => K [.val [] (.int .i64) z0] []) := by
  rw [f50_def]
  cases k with
  | zero => rfl
  | succ k =>
    refine Eq.trans (show _ = exec T an50 (modesOf F) 0 k 31 (callC T F k) (ending T Try.f50 an50 0 K) (bodyOf Try.f50) ⟨argEnv 0 [.val [(0, 0)] (.slice (.int .u8)) a0] (fun _ => none), rowsOf []⟩ (ending T Try.f50 an50 0 K) (fun _ _ => none) from by kernel_rfl) ?_
    rw [← S50_eq k, ← execS_eq T an50 (modesOf F) 0 k 31 (S50 k) (L50 k K) (bodyOf Try.f50) (cuts_of _ _ _ _ _ _ _ _ (bodyOf Try.f50) (l := [(0, sp50_0, cd50_0)]) (by kernel_rfl) ⟨l50_0 k K, trivial⟩)]
    kernel_rfl
noncomputable def s50 (k : Nat) (a : List PV) (r : List RowS) (K : List PV → List RowS → Option R) : Option R :=
  onShape [.val [(0, 0)] (.slice (.int .u8))] [] (fun v => f50 k v.1.1 (fun z0 => K [.val [] (.int .i64) z0] [])) (callC T F k 50 a r K) a r
theorem s50_eq (k : Nat) (a : List PV) (r : List RowS) (K : List PV → List RowS → Option R) : s50 k a r K = callC T F k 50 a r K := by
  unfold s50
  exact onShape_eq (a := [.val [(0, 0)] (.slice (.int .u8))]) (b := []) (G := fun a r => callC T F k 50 a r K) (fun x y => Eq.trans (by kernel_rfl) (Eq.trans (e50 k x.1 K).symm (by kernel_rfl))) a r
end
section
variable {R : Type}
noncomputable def S18 (k g : Nat) (a : List PV) (r : List RowS) (K : List PV → List RowS → Option R) : Option R := bif g == 47 then s47 k a r K else bif g == 50 then s50 k a r K else bif g == 52 then s52 k a r K else bif g == 53 then s53 k a r K else callC T F k g a r K
theorem S18_eq (k : Nat) : S18 (R := R) k = callC T F k := by
  funext g a r K
  exact pick_eq (fun e => by subst e; exact s47_eq k a r K) (pick_eq (fun e => by subst e; exact s50_eq k a r K) (pick_eq (fun e => by subst e; exact s52_eq k a r K) (pick_eq (fun e => by subst e; exact s53_eq k a r K) (rfl))))
section
variable {R : Type} (k : Nat) (K : List PV → List RowS → Option R)
noncomputable def L18_1000013 (ws : List PV) (rs : List RowS) (N : St → Option R) (X : Nat → St → Option R) : Option R :=
  onShape [.val [] (.int .i64), .ptr 1 0, .val [] (.int .u8), .val [] (.int .u8), .val [] .bool] [.vars [.val [] (.int .i64), .val [] .bool, .val [] .str, .val [] (.int .i64), .val [] .bool, .val [(0, 0)] (.slice (.int .u8))]] (fun v => f18_1000013 k (fun yN_1 => N (sh fi18_13 [.val [] (.int .i64) v.1.1, .ptr 1 0, .val [] (.int .u8) yN_1, .val [] (.int .u8) v.1.2.2.2.1] [⟨0, .vars [.val [] (.int .i64) v.2.1.1, .val [] .bool v.2.1.2.1, .val [] .str v.2.1.2.2.1, .val [] (.int .i64) v.2.1.2.2.2.1, .val [] .bool v.2.1.2.2.2.2.1, .val [(0, 0)] (.slice (.int .u8)) v.2.1.2.2.2.2.2.1]⟩])) v.1.1 v.1.2.2.1 v.1.2.2.2.1 v.1.2.2.2.2.1 v.2.1.1 v.2.1.2.1 v.2.1.2.2.1 v.2.1.2.2.2.1 v.2.1.2.2.2.2.1 v.2.1.2.2.2.2.2.1) (inner T an18 (modesOf F) 0 k 128 (S18 k) (ending T Try.f18 an18 0 K) cd18_1000013 (sh sp18_1000013 ws rs) N X) ws rs
noncomputable def L18_1000015 (ws : List PV) (rs : List RowS) (N : St → Option R) (X : Nat → St → Option R) : Option R :=
  onShape [.val [] (.int .i64), .ptr 1 0, .val [] (.int .u8), .val [] (.int .u8), .val [] .bool] [.vars [.val [] (.int .i64), .val [] .bool, .val [] .str, .val [] (.int .i64), .val [] .bool, .val [(0, 0)] (.slice (.int .u8))]] (fun v => f18_1000015 k (fun yN_2 => N (sh fi18_15 [.val [] (.int .i64) v.1.1, .ptr 1 0, .val [] (.int .u8) v.1.2.2.1, .val [] (.int .u8) yN_2] [⟨0, .vars [.val [] (.int .i64) v.2.1.1, .val [] .bool v.2.1.2.1, .val [] .str v.2.1.2.2.1, .val [] (.int .i64) v.2.1.2.2.2.1, .val [] .bool v.2.1.2.2.2.2.1, .val [(0, 0)] (.slice (.int .u8)) v.2.1.2.2.2.2.2.1]⟩])) v.1.1 v.1.2.2.1 v.1.2.2.2.1 v.1.2.2.2.2.1 v.2.1.1 v.2.1.2.1 v.2.1.2.2.1 v.2.1.2.2.2.1 v.2.1.2.2.2.2.1 v.2.1.2.2.2.2.2.1) (inner T an18 (modesOf F) 0 k 128 (S18 k) (ending T Try.f18 an18 0 K) cd18_1000015 (sh sp18_1000015 ws rs) N X) ws rs
noncomputable def L18 (id : Nat) (ws : List PV) (rs : List RowS) (N : St → Option R) (X : Nat → St → Option R) : Option R := bif id == 1000013 then L18_1000013 k K ws rs N X else bif id == 1000015 then L18_1000015 k K ws rs N X else none
theorem l18_1000013 (ws : List PV) (rs : List RowS) (N : St → Option R) (X : Nat → St → Option R) : L18 k K 1000013 ws rs N X = inner T an18 (modesOf F) 0 k 128 (S18 k) (ending T Try.f18 an18 0 K) cd18_1000013 (sh sp18_1000013 ws rs) N X := by
  show L18_1000013 k K ws rs N X = _
  unfold L18_1000013
  rw [f18_1000013_def]
  exact onShape_eq (a := [.val [] (.int .i64), .ptr 1 0, .val [] (.int .u8), .val [] (.int .u8), .val [] .bool]) (b := [.vars [.val [] (.int .i64), .val [] .bool, .val [] .str, .val [] (.int .i64), .val [] .bool, .val [(0, 0)] (.slice (.int .u8))]]) (G := fun ws rs => inner T an18 (modesOf F) 0 k 128 (S18 k) (ending T Try.f18 an18 0 K) cd18_1000013 (sh sp18_1000013 ws rs) N X) (fun x y => Eq.trans (by kernel_rfl) (innerS_eq T an18 (modesOf F) 0 k 128 (S18 k) (L18 k K) cd18_1000013 (l := []) (by kernel_rfl) trivial _ N X)) ws rs
theorem l18_1000015 (ws : List PV) (rs : List RowS) (N : St → Option R) (X : Nat → St → Option R) : L18 k K 1000015 ws rs N X = inner T an18 (modesOf F) 0 k 128 (S18 k) (ending T Try.f18 an18 0 K) cd18_1000015 (sh sp18_1000015 ws rs) N X := by
  show L18_1000015 k K ws rs N X = _
  unfold L18_1000015
  rw [f18_1000015_def]
  exact onShape_eq (a := [.val [] (.int .i64), .ptr 1 0, .val [] (.int .u8), .val [] (.int .u8), .val [] .bool]) (b := [.vars [.val [] (.int .i64), .val [] .bool, .val [] .str, .val [] (.int .i64), .val [] .bool, .val [(0, 0)] (.slice (.int .u8))]]) (G := fun ws rs => inner T an18 (modesOf F) 0 k 128 (S18 k) (ending T Try.f18 an18 0 K) cd18_1000015 (sh sp18_1000015 ws rs) N X) (fun x y => Eq.trans (by kernel_rfl) (innerS_eq T an18 (modesOf F) 0 k 128 (S18 k) (L18 k K) cd18_1000015 (l := []) (by kernel_rfl) trivial _ N X)) ws rs
end
theorem e18 (k : Nat) (a0 : Int) (a1 : Int) (a2 : Bool) (a3 : ByteArray) (a4 : Int) (a5 : Bool) (a6 : List Int) (K : List PV → List RowS → Option R) : callC T F k 18 [.val [] (.int .i64) a0, .agg [.val [] (.int .i64) a1, .val [] .bool a2, .val [] .str a3, .val [] (.int .i64) a4, .val [] .bool a5, .val [(0, 0)] (.slice (.int .u8)) a6]] [] K = f18 k a0 a1 a2 a3 a4 a5 a6 (fun z0 z1 => K [.rw 1, .val [] (.int .i64) z0] [⟨0, .arr [] (.int .u8) z1⟩]) := by
  rw [f18_def]
  cases k with
  | zero => rfl
  | succ k =>
    refine Eq.trans (show _ = exec T an18 (modesOf F) 0 k 128 (callC T F k) (ending T Try.f18 an18 0 K) (bodyOf Try.f18) ⟨argEnv 0 [.val [] (.int .i64) a0, .agg [.val [] (.int .i64) a1, .val [] .bool a2, .val [] .str a3, .val [] (.int .i64) a4, .val [] .bool a5, .val [(0, 0)] (.slice (.int .u8)) a6]] (fun _ => none), rowsOf []⟩ (ending T Try.f18 an18 0 K) (fun _ _ => none) from by kernel_rfl) ?_
    rw [← S18_eq k, ← execS_eq T an18 (modesOf F) 0 k 128 (S18 k) (L18 k K) (bodyOf Try.f18) (cuts_of _ _ _ _ _ _ _ _ (bodyOf Try.f18) (l := [(1000013, sp18_1000013, cd18_1000013), (1000015, sp18_1000015, cd18_1000015)]) (by kernel_rfl) ⟨l18_1000013 k K, l18_1000015 k K, trivial⟩)]
    kernel_rfl
noncomputable def s18 (k : Nat) (a : List PV) (r : List RowS) (K : List PV → List RowS → Option R) : Option R :=
  onShape [.val [] (.int .i64), .agg [.val [] (.int .i64), .val [] .bool, .val [] .str, .val [] (.int .i64), .val [] .bool, .val [(0, 0)] (.slice (.int .u8))]] [] (fun v => f18 k v.1.1 v.1.2.1.1 v.1.2.1.2.1 v.1.2.1.2.2.1 v.1.2.1.2.2.2.1 v.1.2.1.2.2.2.2.1 v.1.2.1.2.2.2.2.2.1 (fun z0 z1 => K [.rw 1, .val [] (.int .i64) z0] [⟨0, .arr [] (.int .u8) z1⟩])) (callC T F k 18 a r K) a r
theorem s18_eq (k : Nat) (a : List PV) (r : List RowS) (K : List PV → List RowS → Option R) : s18 k a r K = callC T F k 18 a r K := by
  unfold s18
  exact onShape_eq (a := [.val [] (.int .i64), .agg [.val [] (.int .i64), .val [] .bool, .val [] .str, .val [] (.int .i64), .val [] .bool, .val [(0, 0)] (.slice (.int .u8))]]) (b := []) (G := fun a r => callC T F k 18 a r K) (fun x y => Eq.trans (by kernel_rfl) (Eq.trans (e18 k x.1 x.2.1.1 x.2.1.2.1 x.2.1.2.2.1 x.2.1.2.2.2.1 x.2.1.2.2.2.2.1 x.2.1.2.2.2.2.2.1 K).symm (by kernel_rfl))) a r
end
section
variable {R : Type}
noncomputable def S41 (k g : Nat) (a : List PV) (r : List RowS) (K : List PV → List RowS → Option R) : Option R := callC T F k g a r K
theorem S41_eq (k : Nat) : S41 (R := R) k = callC T F k := by
  funext g a r K
  exact rfl
theorem e41 (k : Nat) (a0 : Int) (a1 : Int) (a2 : Int) (K : List PV → List RowS → Option R) : callC T F k 41 [.val [] (.int .i64) a0, .val [] (.int .i64) a1, .val [] (.int .i64) a2] [] K = f41 k a0 a1 a2 (fun z0 => K [.val [] .bool z0] []) := by
  rw [f41_def]
  cases k with
  | zero => rfl
  | succ k =>
    refine Eq.trans (show _ = exec T an41 (modesOf F) 0 k 15 (callC T F k) (ending T Try.f41 an41 0 K) (bodyOf Try.f41) ⟨argEnv 0 [.val [] (.int .i64) a0, .val [] (.int .i64) a1, .val [] (.int .i64) a2] (fun _ => none), rowsOf []⟩ (ending T Try.f41 an41 0 K) (fun _ _ => none) from by kernel_rfl) ?_
    rw [← S41_eq k, ← execS_eq T an41 (modesOf F) 0 k 15 (S41 k) (fun _ _ _ _ _ => none) (bodyOf Try.f41) (cuts_of _ _ _ _ _ _ _ _ (bodyOf Try.f41) (l := []) (by kernel_rfl) trivial)]
    kernel_rfl
noncomputable def s41 (k : Nat) (a : List PV) (r : List RowS) (K : List PV → List RowS → Option R) : Option R :=
  onShape [.val [] (.int .i64), .val [] (.int .i64), .val [] (.int .i64)] [] (fun v => f41 k v.1.1 v.1.2.1 v.1.2.2.1 (fun z0 => K [.val [] .bool z0] [])) (callC T F k 41 a r K) a r
theorem s41_eq (k : Nat) (a : List PV) (r : List RowS) (K : List PV → List RowS → Option R) : s41 k a r K = callC T F k 41 a r K := by
  unfold s41
  exact onShape_eq (a := [.val [] (.int .i64), .val [] (.int .i64), .val [] (.int .i64)]) (b := []) (G := fun a r => callC T F k 41 a r K) (fun x y => Eq.trans (by kernel_rfl) (Eq.trans (e41 k x.1 x.2.1 x.2.2.1 K).symm (by kernel_rfl))) a r
end
section
variable {R : Type}
noncomputable def S54 (k g : Nat) (a : List PV) (r : List RowS) (K : List PV → List RowS → Option R) : Option R := bif g == 41 then s41 k a r K else callC T F k g a r K
theorem S54_eq (k : Nat) : S54 (R := R) k = callC T F k := by
  funext g a r K
  exact pick_eq (fun e => by subst e; exact s41_eq k a r K) (rfl)
section
variable {R : Type} (k : Nat) (K : List PV → List RowS → Option R)
noncomputable def L54_0 (ws : List PV) (rs : List RowS) (N : St → Option R) (X : Nat → St → Option R) : Option R :=
  onShape [.val [] .str, .val [] (.int .i64)] [] (fun v => f54_0 k (fun z0 => K [.val [] .bool z0] []) (N (sh jn54_0 [.val [] .str v.1.1] [])) v.1.1 k v.1.2.1) (inner T an54 (modesOf F) 0 k 23 (S54 k) (ending T Try.f54 an54 0 K) cd54_0 (sh sp54_0 ws rs) N X) ws rs
noncomputable def L54 (id : Nat) (ws : List PV) (rs : List RowS) (N : St → Option R) (X : Nat → St → Option R) : Option R := bif id == 0 then L54_0 k K ws rs N X else none
theorem b54_0 (rec : St → Option R) (N : St → Option R) (X : Nat → St → Option R) (v0_0 : ByteArray) (v0_1 : Int) :
    execS T an54 (modesOf F) 0 k 23 (S54 k) (L54 k K) (ending T Try.f54 an54 0 K) bd54_0 (sh sp54_0 [.val [] .str v0_0, .val [] (.int .i64) v0_1] []) (fun st => atHead an54 0 bd54_0 st rec) (outX an54 0 0 N X) =
      f54_0b k (fun v0_1 => rec (sh sp54_0 [.val [] .str v0_0, .val [] (.int .i64) v0_1] [])) (fun z0 => K [.val [] .bool z0] []) (N (sh jn54_0 [.val [] .str v0_0] [])) v0_0 v0_1 := by kernel_rfl
theorem i54_0 (N : St → Option R) (X : Nat → St → Option R) (v0_0 : ByteArray) (m : Nat) : ∀ (v0_1 : Int),
    iter (atHead an54 0 bd54_0) m (fun st N' => exec T an54 (modesOf F) 0 k 23 (S54 k) (ending T Try.f54 an54 0 K) bd54_0 st N' (outX an54 0 0 N X)) (sh sp54_0 [.val [] .str v0_0, .val [] (.int .i64) v0_1] []) = f54_0d k (fun z0 => K [.val [] .bool z0] []) (N (sh jn54_0 [.val [] .str v0_0] [])) v0_0 m v0_1 := by
  induction m with
  | zero => intros; rfl
  | succ m ih =>
    intro v0_1
    simp only [iter]
    rw [← execS_eq T an54 (modesOf F) 0 k 23 (S54 k) (L54 k K) bd54_0 (cuts_of _ _ _ _ _ _ _ _ bd54_0 (l := []) (by kernel_rfl) trivial)]
    refine (b54_0 k K _ N X v0_0 v0_1).trans ?_
    simp only [f54_0d, ih]
theorem l54_0 (ws : List PV) (rs : List RowS) (N : St → Option R) (X : Nat → St → Option R) : L54 k K 0 ws rs N X = inner T an54 (modesOf F) 0 k 23 (S54 k) (ending T Try.f54 an54 0 K) cd54_0 (sh sp54_0 ws rs) N X := by
  show L54_0 k K ws rs N X = _
  unfold L54_0
  rw [f54_0_def]
  exact onShape_eq (a := [.val [] .str, .val [] (.int .i64)]) (b := []) (G := fun ws rs => inner T an54 (modesOf F) 0 k 23 (S54 k) (ending T Try.f54 an54 0 K) cd54_0 (sh sp54_0 ws rs) N X) (fun x y => Eq.trans (by kernel_rfl) (Eq.trans (i54_0 k K N X x.1 k x.2.1).symm (by kernel_rfl))) ws rs
end
theorem e54 (k : Nat) (a0 : ByteArray) (K : List PV → List RowS → Option R) : callC T F k 54 [.val [] .str a0] [] K = f54 k a0 (fun z0 => K [.val [] .bool z0] []) := by
  rw [f54_def]
  cases k with
  | zero => rfl
  | succ k =>
    refine Eq.trans (show _ = exec T an54 (modesOf F) 0 k 23 (callC T F k) (ending T Try.f54 an54 0 K) (bodyOf Try.f54) ⟨argEnv 0 [.val [] .str a0] (fun _ => none), rowsOf []⟩ (ending T Try.f54 an54 0 K) (fun _ _ => none) from by kernel_rfl) ?_
    rw [← S54_eq k, ← execS_eq T an54 (modesOf F) 0 k 23 (S54 k) (L54 k K) (bodyOf Try.f54) (cuts_of _ _ _ _ _ _ _ _ (bodyOf Try.f54) (l := [(0, sp54_0, cd54_0)]) (by kernel_rfl) ⟨l54_0 k K, trivial⟩)]
    kernel_rfl
noncomputable def s54 (k : Nat) (a : List PV) (r : List RowS) (K : List PV → List RowS → Option R) : Option R :=
  onShape [.val [] .str] [] (fun v => f54 k v.1.1 (fun z0 => K [.val [] .bool z0] [])) (callC T F k 54 a r K) a r
theorem s54_eq (k : Nat) (a : List PV) (r : List RowS) (K : List PV → List RowS → Option R) : s54 k a r K = callC T F k 54 a r K := by
  unfold s54
  exact onShape_eq (a := [.val [] .str]) (b := []) (G := fun a r => callC T F k 54 a r K) (fun x y => Eq.trans (by kernel_rfl) (Eq.trans (e54 k x.1 K).symm (by kernel_rfl))) a r
end
section
variable {R : Type}
noncomputable def S55 (k g : Nat) (a : List PV) (r : List RowS) (K : List PV → List RowS → Option R) : Option R := callC T F k g a r K
theorem S55_eq (k : Nat) : S55 (R := R) k = callC T F k := by
  funext g a r K
  exact rfl
theorem e55 (k : Nat) (a0 : Int) (a1 : ByteArray) (K : List PV → List RowS → Option R) : callC T F k 55 [.val [] (.int .i64) a0, .val [] .str a1] [] K = f55 k a0 a1 (fun z0 => K [.val [] (.int .i64) z0] []) := by
  rw [f55_def]
  cases k with
  | zero => rfl
  | succ k =>
    refine Eq.trans (show _ = exec T an55 (modesOf F) 0 k 10 (callC T F k) (ending T Try.f55 an55 0 K) (bodyOf Try.f55) ⟨argEnv 0 [.val [] (.int .i64) a0, .val [] .str a1] (fun _ => none), rowsOf []⟩ (ending T Try.f55 an55 0 K) (fun _ _ => none) from by kernel_rfl) ?_
    rw [← S55_eq k, ← execS_eq T an55 (modesOf F) 0 k 10 (S55 k) (fun _ _ _ _ _ => none) (bodyOf Try.f55) (cuts_of _ _ _ _ _ _ _ _ (bodyOf Try.f55) (l := []) (by kernel_rfl) trivial)]
    kernel_rfl
noncomputable def s55 (k : Nat) (a : List PV) (r : List RowS) (K : List PV → List RowS → Option R) : Option R :=
  onShape [.val [] (.int .i64), .val [] .str] [] (fun v => f55 k v.1.1 v.1.2.1 (fun z0 => K [.val [] (.int .i64) z0] [])) (callC T F k 55 a r K) a r
theorem s55_eq (k : Nat) (a : List PV) (r : List RowS) (K : List PV → List RowS → Option R) : s55 k a r K = callC T F k 55 a r K := by
  unfold s55
  exact onShape_eq (a := [.val [] (.int .i64), .val [] .str]) (b := []) (G := fun a r => callC T F k 55 a r K) (fun x y => Eq.trans (by kernel_rfl) (Eq.trans (e55 k x.1 x.2.1 K).symm (by kernel_rfl))) a r
end
section
variable {R : Type}
noncomputable def S49 (k g : Nat) (a : List PV) (r : List RowS) (K : List PV → List RowS → Option R) : Option R := callC T F k g a r K
theorem S49_eq (k : Nat) : S49 (R := R) k = callC T F k := by
  funext g a r K
  exact rfl
section
variable {R : Type} (k : Nat) (K : List PV → List RowS → Option R)
noncomputable def L49_0 (ws : List PV) (rs : List RowS) (N : St → Option R) (X : Nat → St → Option R) : Option R :=
  onShape [.val [] (.int .i64), .rw 1, .val [] (.int .i64)] [.arr [] (.int .u8)] (fun v => f49_0 k (fun y0_0 => N (sh jn49_0 [.rw 1] [⟨0, .arr [] (.int .u8) y0_0⟩])) v.1.1 k v.1.2.2.1 v.2.1) (inner T an49 (modesOf F) 0 k 16 (S49 k) (ending T Try.f49 an49 0 K) cd49_0 (sh sp49_0 ws rs) N X) ws rs
noncomputable def L49 (id : Nat) (ws : List PV) (rs : List RowS) (N : St → Option R) (X : Nat → St → Option R) : Option R := bif id == 0 then L49_0 k K ws rs N X else none
theorem b49_0 (rec : St → Option R) (N : St → Option R) (X : Nat → St → Option R) (v0_0 : Int) (v0_1 : Int) (v0_2 : List Int) :
    execS T an49 (modesOf F) 0 k 16 (S49 k) (L49 k K) (ending T Try.f49 an49 0 K) bd49_0 (sh sp49_0 [.val [] (.int .i64) v0_0, .rw 1, .val [] (.int .i64) v0_1] [⟨0, .arr [] (.int .u8) v0_2⟩]) (fun st => atHead an49 0 bd49_0 st rec) (outX an49 0 0 N X) =
      f49_0b k (fun v0_1 v0_2 => rec (sh sp49_0 [.val [] (.int .i64) v0_0, .rw 1, .val [] (.int .i64) v0_1] [⟨0, .arr [] (.int .u8) v0_2⟩])) (fun y0_0 => N (sh jn49_0 [.rw 1] [⟨0, .arr [] (.int .u8) y0_0⟩])) v0_0 v0_1 v0_2 := by kernel_rfl
theorem i49_0 (N : St → Option R) (X : Nat → St → Option R) (v0_0 : Int) (m : Nat) : ∀ (v0_1 : Int) (v0_2 : List Int),
    iter (atHead an49 0 bd49_0) m (fun st N' => exec T an49 (modesOf F) 0 k 16 (S49 k) (ending T Try.f49 an49 0 K) bd49_0 st N' (outX an49 0 0 N X)) (sh sp49_0 [.val [] (.int .i64) v0_0, .rw 1, .val [] (.int .i64) v0_1] [⟨0, .arr [] (.int .u8) v0_2⟩]) = f49_0d k (fun y0_0 => N (sh jn49_0 [.rw 1] [⟨0, .arr [] (.int .u8) y0_0⟩])) v0_0 m v0_1 v0_2 := by
  induction m with
  | zero => intros; rfl
  | succ m ih =>
    intro v0_1 v0_2
    simp only [iter]
    rw [← execS_eq T an49 (modesOf F) 0 k 16 (S49 k) (L49 k K) bd49_0 (cuts_of _ _ _ _ _ _ _ _ bd49_0 (l := []) (by kernel_rfl) trivial)]
    refine (b49_0 k K _ N X v0_0 v0_1 v0_2).trans ?_
    simp only [f49_0d, ih]
theorem l49_0 (ws : List PV) (rs : List RowS) (N : St → Option R) (X : Nat → St → Option R) : L49 k K 0 ws rs N X = inner T an49 (modesOf F) 0 k 16 (S49 k) (ending T Try.f49 an49 0 K) cd49_0 (sh sp49_0 ws rs) N X := by
  show L49_0 k K ws rs N X = _
  unfold L49_0
  rw [f49_0_def]
  exact onShape_eq (a := [.val [] (.int .i64), .rw 1, .val [] (.int .i64)]) (b := [.arr [] (.int .u8)]) (G := fun ws rs => inner T an49 (modesOf F) 0 k 16 (S49 k) (ending T Try.f49 an49 0 K) cd49_0 (sh sp49_0 ws rs) N X) (fun x y => Eq.trans (by kernel_rfl) (Eq.trans (i49_0 k K N X x.1 k x.2.2.1 y.1).symm (by kernel_rfl))) ws rs
end
theorem e49 (k : Nat) (a0 : Int) (K : List PV → List RowS → Option R) : callC T F k 49 [.val [] (.int .i64) a0] [] K = f49 k a0 (fun z0 => K [.rw 1] [⟨0, .arr [] (.int .u8) z0⟩]) := by
  rw [f49_def]
  cases k with
  | zero => rfl
  | succ k =>
    refine Eq.trans (show _ = exec T an49 (modesOf F) 0 k 16 (callC T F k) (ending T Try.f49 an49 0 K) (bodyOf Try.f49) ⟨argEnv 0 [.val [] (.int .i64) a0] (fun _ => none), rowsOf []⟩ (ending T Try.f49 an49 0 K) (fun _ _ => none) from by kernel_rfl) ?_
    rw [← S49_eq k, ← execS_eq T an49 (modesOf F) 0 k 16 (S49 k) (L49 k K) (bodyOf Try.f49) (cuts_of _ _ _ _ _ _ _ _ (bodyOf Try.f49) (l := [(0, sp49_0, cd49_0)]) (by kernel_rfl) ⟨l49_0 k K, trivial⟩)]
    kernel_rfl
noncomputable def s49 (k : Nat) (a : List PV) (r : List RowS) (K : List PV → List RowS → Option R) : Option R :=
  onShape [.val [] (.int .i64)] [] (fun v => f49 k v.1.1 (fun z0 => K [.rw 1] [⟨0, .arr [] (.int .u8) z0⟩])) (callC T F k 49 a r K) a r
theorem s49_eq (k : Nat) (a : List PV) (r : List RowS) (K : List PV → List RowS → Option R) : s49 k a r K = callC T F k 49 a r K := by
  unfold s49
  exact onShape_eq (a := [.val [] (.int .i64)]) (b := []) (G := fun a r => callC T F k 49 a r K) (fun x y => Eq.trans (by kernel_rfl) (Eq.trans (e49 k x.1 K).symm (by kernel_rfl))) a r
end
section
variable {R : Type}
noncomputable def S51 (k g : Nat) (a : List PV) (r : List RowS) (K : List PV → List RowS → Option R) : Option R := callC T F k g a r K
theorem S51_eq (k : Nat) : S51 (R := R) k = callC T F k := by
  funext g a r K
  exact rfl
section
variable {R : Type} (k : Nat) (K : List PV → List RowS → Option R)
noncomputable def L51_1000011 (ws : List PV) (rs : List RowS) (N : St → Option R) (X : Nat → St → Option R) : Option R :=
  onShape [.val [(0, 0)] (.slice (.int .u8)), .val [] (.int .i64), .val [] (.int .i64), .val [] (.int .i64), .val [] .bool] [] (fun v => f51_1000011 k (fun yN_1 => N (sh fi51_11 [.val [(0, 0)] (.slice (.int .u8)) v.1.1, .val [] (.int .i64) yN_1, .val [] (.int .i64) v.1.2.2.1, .val [] (.int .i64) v.1.2.2.2.1] [])) v.1.1 v.1.2.1 v.1.2.2.1 v.1.2.2.2.1 v.1.2.2.2.2.1) (inner T an51 (modesOf F) 0 k 32 (S51 k) (ending T Try.f51 an51 0 K) cd51_1000011 (sh sp51_1000011 ws rs) N X) ws rs
noncomputable def L51_2 (ws : List PV) (rs : List RowS) (N : St → Option R) (X : Nat → St → Option R) : Option R :=
  onShape [.val [(0, 0)] (.slice (.int .u8)), .val [] (.int .i64), .val [] (.int .i64), .val [] (.int .i64)] [] (fun v => f51_2 k (fun y2_1 => N (sh jn51_2 [.val [(0, 0)] (.slice (.int .u8)) v.1.1, .val [] (.int .i64) y2_1, .val [] (.int .i64) v.1.2.2.1] [])) v.1.1 v.1.2.2.1 k v.1.2.1 v.1.2.2.2.1) (inner T an51 (modesOf F) 0 k 32 (S51 k) (ending T Try.f51 an51 0 K) cd51_2 (sh sp51_2 ws rs) N X) ws rs
noncomputable def L51_0 (ws : List PV) (rs : List RowS) (N : St → Option R) (X : Nat → St → Option R) : Option R :=
  onShape [.val [(0, 0)] (.slice (.int .u8)), .val [] (.int .i64), .val [] (.int .i64)] [] (fun v => f51_0 k (fun y0_0 => N (sh jn51_0 [.val [] (.int .i64) y0_0] [])) v.1.1 k v.1.2.1 v.1.2.2.1) (inner T an51 (modesOf F) 0 k 32 (S51 k) (ending T Try.f51 an51 0 K) cd51_0 (sh sp51_0 ws rs) N X) ws rs
noncomputable def L51 (id : Nat) (ws : List PV) (rs : List RowS) (N : St → Option R) (X : Nat → St → Option R) : Option R := bif id == 1000011 then L51_1000011 k K ws rs N X else bif id == 2 then L51_2 k K ws rs N X else bif id == 0 then L51_0 k K ws rs N X else none
theorem l51_1000011 (ws : List PV) (rs : List RowS) (N : St → Option R) (X : Nat → St → Option R) : L51 k K 1000011 ws rs N X = inner T an51 (modesOf F) 0 k 32 (S51 k) (ending T Try.f51 an51 0 K) cd51_1000011 (sh sp51_1000011 ws rs) N X := by
  show L51_1000011 k K ws rs N X = _
  unfold L51_1000011
  rw [f51_1000011_def]
  exact onShape_eq (a := [.val [(0, 0)] (.slice (.int .u8)), .val [] (.int .i64), .val [] (.int .i64), .val [] (.int .i64), .val [] .bool]) (b := []) (G := fun ws rs => inner T an51 (modesOf F) 0 k 32 (S51 k) (ending T Try.f51 an51 0 K) cd51_1000011 (sh sp51_1000011 ws rs) N X) (fun x y => Eq.trans (by kernel_rfl) (innerS_eq T an51 (modesOf F) 0 k 32 (S51 k) (L51 k K) cd51_1000011 (l := []) (by kernel_rfl) trivial _ N X)) ws rs
theorem b51_2 (rec : St → Option R) (N : St → Option R) (X : Nat → St → Option R) (v2_0 : List Int) (v2_2 : Int) (v2_1 : Int) (v2_3 : Int) :
    execS T an51 (modesOf F) 0 k 32 (S51 k) (L51 k K) (ending T Try.f51 an51 0 K) bd51_2 (sh sp51_2 [.val [(0, 0)] (.slice (.int .u8)) v2_0, .val [] (.int .i64) v2_1, .val [] (.int .i64) v2_2, .val [] (.int .i64) v2_3] []) (fun st => atHead an51 0 bd51_2 st rec) (outX an51 0 2 N X) =
      f51_2b k (fun v2_1 v2_3 => rec (sh sp51_2 [.val [(0, 0)] (.slice (.int .u8)) v2_0, .val [] (.int .i64) v2_1, .val [] (.int .i64) v2_2, .val [] (.int .i64) v2_3] [])) (fun y2_1 => N (sh jn51_2 [.val [(0, 0)] (.slice (.int .u8)) v2_0, .val [] (.int .i64) y2_1, .val [] (.int .i64) v2_2] [])) v2_0 v2_2 v2_1 v2_3 := by kernel_rfl
theorem i51_2 (N : St → Option R) (X : Nat → St → Option R) (v2_0 : List Int) (v2_2 : Int) (m : Nat) : ∀ (v2_1 : Int) (v2_3 : Int),
    iter (atHead an51 0 bd51_2) m (fun st N' => exec T an51 (modesOf F) 0 k 32 (S51 k) (ending T Try.f51 an51 0 K) bd51_2 st N' (outX an51 0 2 N X)) (sh sp51_2 [.val [(0, 0)] (.slice (.int .u8)) v2_0, .val [] (.int .i64) v2_1, .val [] (.int .i64) v2_2, .val [] (.int .i64) v2_3] []) = f51_2d k (fun y2_1 => N (sh jn51_2 [.val [(0, 0)] (.slice (.int .u8)) v2_0, .val [] (.int .i64) y2_1, .val [] (.int .i64) v2_2] [])) v2_0 v2_2 m v2_1 v2_3 := by
  induction m with
  | zero => intros; rfl
  | succ m ih =>
    intro v2_1 v2_3
    simp only [iter]
    rw [← execS_eq T an51 (modesOf F) 0 k 32 (S51 k) (L51 k K) bd51_2 (cuts_of _ _ _ _ _ _ _ _ bd51_2 (l := [(1000011, sp51_1000011, cd51_1000011)]) (by kernel_rfl) ⟨l51_1000011 k K, trivial⟩)]
    refine (b51_2 k K _ N X v2_0 v2_2 v2_1 v2_3).trans ?_
    simp only [f51_2d, ih]
theorem l51_2 (ws : List PV) (rs : List RowS) (N : St → Option R) (X : Nat → St → Option R) : L51 k K 2 ws rs N X = inner T an51 (modesOf F) 0 k 32 (S51 k) (ending T Try.f51 an51 0 K) cd51_2 (sh sp51_2 ws rs) N X := by
  show L51_2 k K ws rs N X = _
  unfold L51_2
  rw [f51_2_def]
  exact onShape_eq (a := [.val [(0, 0)] (.slice (.int .u8)), .val [] (.int .i64), .val [] (.int .i64), .val [] (.int .i64)]) (b := []) (G := fun ws rs => inner T an51 (modesOf F) 0 k 32 (S51 k) (ending T Try.f51 an51 0 K) cd51_2 (sh sp51_2 ws rs) N X) (fun x y => Eq.trans (by kernel_rfl) (Eq.trans (i51_2 k K N X x.1 x.2.2.1 k x.2.1 x.2.2.2.1).symm (by kernel_rfl))) ws rs
theorem b51_0 (rec : St → Option R) (N : St → Option R) (X : Nat → St → Option R) (v0_0 : List Int) (v0_1 : Int) (v0_2 : Int) :
    execS T an51 (modesOf F) 0 k 32 (S51 k) (L51 k K) (ending T Try.f51 an51 0 K) bd51_0 (sh sp51_0 [.val [(0, 0)] (.slice (.int .u8)) v0_0, .val [] (.int .i64) v0_1, .val [] (.int .i64) v0_2] []) (fun st => atHead an51 0 bd51_0 st rec) (outX an51 0 0 N X) =
      f51_0b k (fun v0_1 v0_2 => rec (sh sp51_0 [.val [(0, 0)] (.slice (.int .u8)) v0_0, .val [] (.int .i64) v0_1, .val [] (.int .i64) v0_2] [])) (fun y0_0 => N (sh jn51_0 [.val [] (.int .i64) y0_0] [])) v0_0 v0_1 v0_2 := by kernel_rfl
theorem i51_0 (N : St → Option R) (X : Nat → St → Option R) (v0_0 : List Int) (m : Nat) : ∀ (v0_1 : Int) (v0_2 : Int),
    iter (atHead an51 0 bd51_0) m (fun st N' => exec T an51 (modesOf F) 0 k 32 (S51 k) (ending T Try.f51 an51 0 K) bd51_0 st N' (outX an51 0 0 N X)) (sh sp51_0 [.val [(0, 0)] (.slice (.int .u8)) v0_0, .val [] (.int .i64) v0_1, .val [] (.int .i64) v0_2] []) = f51_0d k (fun y0_0 => N (sh jn51_0 [.val [] (.int .i64) y0_0] [])) v0_0 m v0_1 v0_2 := by
  induction m with
  | zero => intros; rfl
  | succ m ih =>
    intro v0_1 v0_2
    simp only [iter]
    rw [← execS_eq T an51 (modesOf F) 0 k 32 (S51 k) (L51 k K) bd51_0 (cuts_of _ _ _ _ _ _ _ _ bd51_0 (l := [(2, sp51_2, cd51_2)]) (by kernel_rfl) ⟨l51_2 k K, trivial⟩)]
    refine (b51_0 k K _ N X v0_0 v0_1 v0_2).trans ?_
    simp only [f51_0d, ih]
theorem l51_0 (ws : List PV) (rs : List RowS) (N : St → Option R) (X : Nat → St → Option R) : L51 k K 0 ws rs N X = inner T an51 (modesOf F) 0 k 32 (S51 k) (ending T Try.f51 an51 0 K) cd51_0 (sh sp51_0 ws rs) N X := by
  show L51_0 k K ws rs N X = _
  unfold L51_0
  rw [f51_0_def]
  exact onShape_eq (a := [.val [(0, 0)] (.slice (.int .u8)), .val [] (.int .i64), .val [] (.int .i64)]) (b := []) (G := fun ws rs => inner T an51 (modesOf F) 0 k 32 (S51 k) (ending T Try.f51 an51 0 K) cd51_0 (sh sp51_0 ws rs) N X) (fun x y => Eq.trans (by kernel_rfl) (Eq.trans (i51_0 k K N X x.1 k x.2.1 x.2.2.1).symm (by kernel_rfl))) ws rs
end
theorem e51 (k : Nat) (a0 : List Int) (K : List PV → List RowS → Option R) : callC T F k 51 [.val [(0, 0)] (.slice (.int .u8)) a0] [] K = f51 k a0 (fun z0 => K [.val [] (.int .i64) z0] []) := by
  rw [f51_def]
  cases k with
  | zero => rfl
  | succ k =>
    refine Eq.trans (show _ = exec T an51 (modesOf F) 0 k 32 (callC T F k) (ending T Try.f51 an51 0 K) (bodyOf Try.f51) ⟨argEnv 0 [.val [(0, 0)] (.slice (.int .u8)) a0] (fun _ => none), rowsOf []⟩ (ending T Try.f51 an51 0 K) (fun _ _ => none) from by kernel_rfl) ?_
    rw [← S51_eq k, ← execS_eq T an51 (modesOf F) 0 k 32 (S51 k) (L51 k K) (bodyOf Try.f51) (cuts_of _ _ _ _ _ _ _ _ (bodyOf Try.f51) (l := [(0, sp51_0, cd51_0)]) (by kernel_rfl) ⟨l51_0 k K, trivial⟩)]
    kernel_rfl
noncomputable def s51 (k : Nat) (a : List PV) (r : List RowS) (K : List PV → List RowS → Option R) : Option R :=
  onShape [.val [(0, 0)] (.slice (.int .u8))] [] (fun v => f51 k v.1.1 (fun z0 => K [.val [] (.int .i64) z0] [])) (callC T F k 51 a r K) a r
theorem s51_eq (k : Nat) (a : List PV) (r : List RowS) (K : List PV → List RowS → Option R) : s51 k a r K = callC T F k 51 a r K := by
  unfold s51
  exact onShape_eq (a := [.val [(0, 0)] (.slice (.int .u8))]) (b := []) (G := fun a r => callC T F k 51 a r K) (fun x y => Eq.trans (by kernel_rfl) (Eq.trans (e51 k x.1 K).symm (by kernel_rfl))) a r
end
section
variable {R : Type}
noncomputable def S19 (k g : Nat) (a : List PV) (r : List RowS) (K : List PV → List RowS → Option R) : Option R := bif g == 41 then s41 k a r K else bif g == 49 then s49 k a r K else bif g == 51 then s51 k a r K else bif g == 54 then s54 k a r K else bif g == 55 then s55 k a r K else callC T F k g a r K
theorem S19_eq (k : Nat) : S19 (R := R) k = callC T F k := by
  funext g a r K
  exact pick_eq (fun e => by subst e; exact s41_eq k a r K) (pick_eq (fun e => by subst e; exact s49_eq k a r K) (pick_eq (fun e => by subst e; exact s51_eq k a r K) (pick_eq (fun e => by subst e; exact s54_eq k a r K) (pick_eq (fun e => by subst e; exact s55_eq k a r K) (rfl)))))
section
variable {R : Type} (k : Nat) (K : List PV → List RowS → Option R)
noncomputable def L19_1000013 (ws : List PV) (rs : List RowS) (N : St → Option R) (X : Nat → St → Option R) : Option R :=
  onShape [.val [] (.int .i64), .ptr 1 0, .val [] (.int .u8), .val [] (.int .u8), .val [] .bool] [.vars [.val [] (.int .i64), .val [] .bool, .val [] .str, .val [] (.int .i64), .val [] .bool, .val [(0, 0)] (.slice (.int .u8))]] (fun v => f19_1000013 k (fun yN_1 => N (sh fi19_13 [.val [] (.int .i64) v.1.1, .ptr 1 0, .val [] (.int .u8) yN_1, .val [] (.int .u8) v.1.2.2.2.1] [⟨0, .vars [.val [] (.int .i64) v.2.1.1, .val [] .bool v.2.1.2.1, .val [] .str v.2.1.2.2.1, .val [] (.int .i64) v.2.1.2.2.2.1, .val [] .bool v.2.1.2.2.2.2.1, .val [(0, 0)] (.slice (.int .u8)) v.2.1.2.2.2.2.2.1]⟩])) v.1.1 v.1.2.2.1 v.1.2.2.2.1 v.1.2.2.2.2.1 v.2.1.1 v.2.1.2.1 v.2.1.2.2.1 v.2.1.2.2.2.1 v.2.1.2.2.2.2.1 v.2.1.2.2.2.2.2.1) (inner T an19 (modesOf F) 0 k 122 (S19 k) (ending T Try.f19 an19 0 K) cd19_1000013 (sh sp19_1000013 ws rs) N X) ws rs
noncomputable def L19_1000015 (ws : List PV) (rs : List RowS) (N : St → Option R) (X : Nat → St → Option R) : Option R :=
  onShape [.val [] (.int .i64), .ptr 1 0, .val [] (.int .u8), .val [] (.int .u8), .val [] .bool] [.vars [.val [] (.int .i64), .val [] .bool, .val [] .str, .val [] (.int .i64), .val [] .bool, .val [(0, 0)] (.slice (.int .u8))]] (fun v => f19_1000015 k (fun yN_2 => N (sh fi19_15 [.val [] (.int .i64) v.1.1, .ptr 1 0, .val [] (.int .u8) v.1.2.2.1, .val [] (.int .u8) yN_2] [⟨0, .vars [.val [] (.int .i64) v.2.1.1, .val [] .bool v.2.1.2.1, .val [] .str v.2.1.2.2.1, .val [] (.int .i64) v.2.1.2.2.2.1, .val [] .bool v.2.1.2.2.2.2.1, .val [(0, 0)] (.slice (.int .u8)) v.2.1.2.2.2.2.2.1]⟩])) v.1.1 v.1.2.2.1 v.1.2.2.2.1 v.1.2.2.2.2.1 v.2.1.1 v.2.1.2.1 v.2.1.2.2.1 v.2.1.2.2.2.1 v.2.1.2.2.2.2.1 v.2.1.2.2.2.2.2.1) (inner T an19 (modesOf F) 0 k 122 (S19 k) (ending T Try.f19 an19 0 K) cd19_1000015 (sh sp19_1000015 ws rs) N X) ws rs
noncomputable def L19 (id : Nat) (ws : List PV) (rs : List RowS) (N : St → Option R) (X : Nat → St → Option R) : Option R := bif id == 1000013 then L19_1000013 k K ws rs N X else bif id == 1000015 then L19_1000015 k K ws rs N X else none
theorem l19_1000013 (ws : List PV) (rs : List RowS) (N : St → Option R) (X : Nat → St → Option R) : L19 k K 1000013 ws rs N X = inner T an19 (modesOf F) 0 k 122 (S19 k) (ending T Try.f19 an19 0 K) cd19_1000013 (sh sp19_1000013 ws rs) N X := by
  show L19_1000013 k K ws rs N X = _
  unfold L19_1000013
  rw [f19_1000013_def]
  exact onShape_eq (a := [.val [] (.int .i64), .ptr 1 0, .val [] (.int .u8), .val [] (.int .u8), .val [] .bool]) (b := [.vars [.val [] (.int .i64), .val [] .bool, .val [] .str, .val [] (.int .i64), .val [] .bool, .val [(0, 0)] (.slice (.int .u8))]]) (G := fun ws rs => inner T an19 (modesOf F) 0 k 122 (S19 k) (ending T Try.f19 an19 0 K) cd19_1000013 (sh sp19_1000013 ws rs) N X) (fun x y => Eq.trans (by kernel_rfl) (innerS_eq T an19 (modesOf F) 0 k 122 (S19 k) (L19 k K) cd19_1000013 (l := []) (by kernel_rfl) trivial _ N X)) ws rs
theorem l19_1000015 (ws : List PV) (rs : List RowS) (N : St → Option R) (X : Nat → St → Option R) : L19 k K 1000015 ws rs N X = inner T an19 (modesOf F) 0 k 122 (S19 k) (ending T Try.f19 an19 0 K) cd19_1000015 (sh sp19_1000015 ws rs) N X := by
  show L19_1000015 k K ws rs N X = _
  unfold L19_1000015
  rw [f19_1000015_def]
  exact onShape_eq (a := [.val [] (.int .i64), .ptr 1 0, .val [] (.int .u8), .val [] (.int .u8), .val [] .bool]) (b := [.vars [.val [] (.int .i64), .val [] .bool, .val [] .str, .val [] (.int .i64), .val [] .bool, .val [(0, 0)] (.slice (.int .u8))]]) (G := fun ws rs => inner T an19 (modesOf F) 0 k 122 (S19 k) (ending T Try.f19 an19 0 K) cd19_1000015 (sh sp19_1000015 ws rs) N X) (fun x y => Eq.trans (by kernel_rfl) (innerS_eq T an19 (modesOf F) 0 k 122 (S19 k) (L19 k K) cd19_1000015 (l := []) (by kernel_rfl) trivial _ N X)) ws rs
end
theorem e19 (k : Nat) (a0 : Int) (a1 : Int) (a2 : Bool) (a3 : ByteArray) (a4 : Int) (a5 : Bool) (a6 : List Int) (K : List PV → List RowS → Option R) : callC T F k 19 [.val [] (.int .i64) a0, .agg [.val [] (.int .i64) a1, .val [] .bool a2, .val [] .str a3, .val [] (.int .i64) a4, .val [] .bool a5, .val [(0, 0)] (.slice (.int .u8)) a6]] [] K = f19 k a0 a1 a2 a3 a4 a5 a6 (fun z0 z1 => K [.rw 1, .val [] (.int .i64) z0] [⟨0, .arr [] (.int .u8) z1⟩]) := by
  rw [f19_def]
  cases k with
  | zero => rfl
  | succ k =>
    refine Eq.trans (show _ = exec T an19 (modesOf F) 0 k 122 (callC T F k) (ending T Try.f19 an19 0 K) (bodyOf Try.f19) ⟨argEnv 0 [.val [] (.int .i64) a0, .agg [.val [] (.int .i64) a1, .val [] .bool a2, .val [] .str a3, .val [] (.int .i64) a4, .val [] .bool a5, .val [(0, 0)] (.slice (.int .u8)) a6]] (fun _ => none), rowsOf []⟩ (ending T Try.f19 an19 0 K) (fun _ _ => none) from by kernel_rfl) ?_
    rw [← S19_eq k, ← execS_eq T an19 (modesOf F) 0 k 122 (S19 k) (L19 k K) (bodyOf Try.f19) (cuts_of _ _ _ _ _ _ _ _ (bodyOf Try.f19) (l := [(1000013, sp19_1000013, cd19_1000013), (1000015, sp19_1000015, cd19_1000015)]) (by kernel_rfl) ⟨l19_1000013 k K, l19_1000015 k K, trivial⟩)]
    kernel_rfl
noncomputable def s19 (k : Nat) (a : List PV) (r : List RowS) (K : List PV → List RowS → Option R) : Option R :=
  onShape [.val [] (.int .i64), .agg [.val [] (.int .i64), .val [] .bool, .val [] .str, .val [] (.int .i64), .val [] .bool, .val [(0, 0)] (.slice (.int .u8))]] [] (fun v => f19 k v.1.1 v.1.2.1.1 v.1.2.1.2.1 v.1.2.1.2.2.1 v.1.2.1.2.2.2.1 v.1.2.1.2.2.2.2.1 v.1.2.1.2.2.2.2.2.1 (fun z0 z1 => K [.rw 1, .val [] (.int .i64) z0] [⟨0, .arr [] (.int .u8) z1⟩])) (callC T F k 19 a r K) a r
theorem s19_eq (k : Nat) (a : List PV) (r : List RowS) (K : List PV → List RowS → Option R) : s19 k a r K = callC T F k 19 a r K := by
  unfold s19
  exact onShape_eq (a := [.val [] (.int .i64), .agg [.val [] (.int .i64), .val [] .bool, .val [] .str, .val [] (.int .i64), .val [] .bool, .val [(0, 0)] (.slice (.int .u8))]]) (b := []) (G := fun a r => callC T F k 19 a r K) (fun x y => Eq.trans (by kernel_rfl) (Eq.trans (e19 k x.1 x.2.1.1 x.2.1.2.1 x.2.1.2.2.1 x.2.1.2.2.2.1 x.2.1.2.2.2.2.1 x.2.1.2.2.2.2.2.1 K).symm (by kernel_rfl))) a r
end
section
variable {R : Type}
noncomputable def S97 (k g : Nat) (a : List PV) (r : List RowS) (K : List PV → List RowS → Option R) : Option R := callC T F k g a r K
theorem S97_eq (k : Nat) : S97 (R := R) k = callC T F k := by
  funext g a r K
  exact rfl
theorem e97 (k : Nat) (a0 : Int) (K : List PV → List RowS → Option R) : callC T F k 97 [.val [] (.int .u8) a0] [] K = f97 k a0 (fun z0 => K [.val [] .bool z0] []) := by
  rw [f97_def]
  cases k with
  | zero => rfl
  | succ k =>
    refine Eq.trans (show _ = exec T an97 (modesOf F) 0 k 5 (callC T F k) (ending T Try.f97 an97 0 K) (bodyOf Try.f97) ⟨argEnv 0 [.val [] (.int .u8) a0] (fun _ => none), rowsOf []⟩ (ending T Try.f97 an97 0 K) (fun _ _ => none) from by kernel_rfl) ?_
    rw [← S97_eq k, ← execS_eq T an97 (modesOf F) 0 k 5 (S97 k) (fun _ _ _ _ _ => none) (bodyOf Try.f97) (cuts_of _ _ _ _ _ _ _ _ (bodyOf Try.f97) (l := []) (by kernel_rfl) trivial)]
    kernel_rfl
noncomputable def s97 (k : Nat) (a : List PV) (r : List RowS) (K : List PV → List RowS → Option R) : Option R :=
  onShape [.val [] (.int .u8)] [] (fun v => f97 k v.1.1 (fun z0 => K [.val [] .bool z0] [])) (callC T F k 97 a r K) a r
theorem s97_eq (k : Nat) (a : List PV) (r : List RowS) (K : List PV → List RowS → Option R) : s97 k a r K = callC T F k 97 a r K := by
  unfold s97
  exact onShape_eq (a := [.val [] (.int .u8)]) (b := []) (G := fun a r => callC T F k 97 a r K) (fun x y => Eq.trans (by kernel_rfl) (Eq.trans (e97 k x.1 K).symm (by kernel_rfl))) a r
end
section
variable {R : Type}
noncomputable def S108 (k g : Nat) (a : List PV) (r : List RowS) (K : List PV → List RowS → Option R) : Option R := bif g == 97 then s97 k a r K else callC T F k g a r K
theorem S108_eq (k : Nat) : S108 (R := R) k = callC T F k := by
  funext g a r K
  exact pick_eq (fun e => by subst e; exact s97_eq k a r K) (rfl)
section
variable {R : Type} (k : Nat) (K : List PV → List RowS → Option R)
noncomputable def L108_0 (ws : List PV) (rs : List RowS) (N : St → Option R) (X : Nat → St → Option R) : Option R :=
  onShape [.val [(0, 0)] (.slice (.int .u8)), .fn 97 [], .val [] (.int .i64), .val [] (.int .i64)] [] (fun v => f108_0 k (fun z0 => K [.val [] (.int .i64) z0] []) (N (sh jn108_0 [] [])) v.1.1 v.1.2.2.1 k v.1.2.2.2.1) (inner T an108 (modesOf F) 0 k 19 (S108 k) (ending T Try.f108 an108 0 K) cd108_0 (sh sp108_0 ws rs) N X) ws rs
noncomputable def L108 (id : Nat) (ws : List PV) (rs : List RowS) (N : St → Option R) (X : Nat → St → Option R) : Option R := bif id == 0 then L108_0 k K ws rs N X else none
theorem b108_0 (rec : St → Option R) (N : St → Option R) (X : Nat → St → Option R) (v0_0 : List Int) (v0_1 : Int) (v0_2 : Int) :
    execS T an108 (modesOf F) 0 k 19 (S108 k) (L108 k K) (ending T Try.f108 an108 0 K) bd108_0 (sh sp108_0 [.val [(0, 0)] (.slice (.int .u8)) v0_0, .fn 97 [], .val [] (.int .i64) v0_1, .val [] (.int .i64) v0_2] []) (fun st => atHead an108 0 bd108_0 st rec) (outX an108 0 0 N X) =
      f108_0b k (fun v0_2 => rec (sh sp108_0 [.val [(0, 0)] (.slice (.int .u8)) v0_0, .fn 97 [], .val [] (.int .i64) v0_1, .val [] (.int .i64) v0_2] [])) (fun z0 => K [.val [] (.int .i64) z0] []) (N (sh jn108_0 [] [])) v0_0 v0_1 v0_2 := by kernel_rfl
theorem i108_0 (N : St → Option R) (X : Nat → St → Option R) (v0_0 : List Int) (v0_1 : Int) (m : Nat) : ∀ (v0_2 : Int),
    iter (atHead an108 0 bd108_0) m (fun st N' => exec T an108 (modesOf F) 0 k 19 (S108 k) (ending T Try.f108 an108 0 K) bd108_0 st N' (outX an108 0 0 N X)) (sh sp108_0 [.val [(0, 0)] (.slice (.int .u8)) v0_0, .fn 97 [], .val [] (.int .i64) v0_1, .val [] (.int .i64) v0_2] []) = f108_0d k (fun z0 => K [.val [] (.int .i64) z0] []) (N (sh jn108_0 [] [])) v0_0 v0_1 m v0_2 := by
  induction m with
  | zero => intros; rfl
  | succ m ih =>
    intro v0_2
    simp only [iter]
    rw [← execS_eq T an108 (modesOf F) 0 k 19 (S108 k) (L108 k K) bd108_0 (cuts_of _ _ _ _ _ _ _ _ bd108_0 (l := []) (by kernel_rfl) trivial)]
    refine (b108_0 k K _ N X v0_0 v0_1 v0_2).trans ?_
    simp only [f108_0d, ih]
theorem l108_0 (ws : List PV) (rs : List RowS) (N : St → Option R) (X : Nat → St → Option R) : L108 k K 0 ws rs N X = inner T an108 (modesOf F) 0 k 19 (S108 k) (ending T Try.f108 an108 0 K) cd108_0 (sh sp108_0 ws rs) N X := by
  show L108_0 k K ws rs N X = _
  unfold L108_0
  rw [f108_0_def]
  exact onShape_eq (a := [.val [(0, 0)] (.slice (.int .u8)), .fn 97 [], .val [] (.int .i64), .val [] (.int .i64)]) (b := []) (G := fun ws rs => inner T an108 (modesOf F) 0 k 19 (S108 k) (ending T Try.f108 an108 0 K) cd108_0 (sh sp108_0 ws rs) N X) (fun x y => Eq.trans (by kernel_rfl) (Eq.trans (i108_0 k K N X x.1 x.2.2.1 k x.2.2.2.1).symm (by kernel_rfl))) ws rs
end
theorem e108 (k : Nat) (a0 : List Int) (K : List PV → List RowS → Option R) : callC T F k 108 [.val [(0, 0)] (.slice (.int .u8)) a0, .fn 97 []] [] K = f108 k a0 (fun z0 => K [.val [] (.int .i64) z0] []) := by
  rw [f108_def]
  cases k with
  | zero => rfl
  | succ k =>
    refine Eq.trans (show _ = exec T an108 (modesOf F) 0 k 19 (callC T F k) (ending T Try.f108 an108 0 K) (bodyOf Try.f108) ⟨argEnv 0 [.val [(0, 0)] (.slice (.int .u8)) a0, .fn 97 []] (fun _ => none), rowsOf []⟩ (ending T Try.f108 an108 0 K) (fun _ _ => none) from by kernel_rfl) ?_
    rw [← S108_eq k, ← execS_eq T an108 (modesOf F) 0 k 19 (S108 k) (L108 k K) (bodyOf Try.f108) (cuts_of _ _ _ _ _ _ _ _ (bodyOf Try.f108) (l := [(0, sp108_0, cd108_0)]) (by kernel_rfl) ⟨l108_0 k K, trivial⟩)]
    kernel_rfl
noncomputable def s108 (k : Nat) (a : List PV) (r : List RowS) (K : List PV → List RowS → Option R) : Option R :=
  onShape [.val [(0, 0)] (.slice (.int .u8)), .fn 97 []] [] (fun v => f108 k v.1.1 (fun z0 => K [.val [] (.int .i64) z0] [])) (callC T F k 108 a r K) a r
theorem s108_eq (k : Nat) (a : List PV) (r : List RowS) (K : List PV → List RowS → Option R) : s108 k a r K = callC T F k 108 a r K := by
  unfold s108
  exact onShape_eq (a := [.val [(0, 0)] (.slice (.int .u8)), .fn 97 []]) (b := []) (G := fun a r => callC T F k 108 a r K) (fun x y => Eq.trans (by kernel_rfl) (Eq.trans (e108 k x.1 K).symm (by kernel_rfl))) a r
end
section
variable {R : Type}
noncomputable def S96 (k g : Nat) (a : List PV) (r : List RowS) (K : List PV → List RowS → Option R) : Option R := bif g == 108 then s108 k a r K else callC T F k g a r K
theorem S96_eq (k : Nat) : S96 (R := R) k = callC T F k := by
  funext g a r K
  exact pick_eq (fun e => by subst e; exact s108_eq k a r K) (rfl)
theorem e96 (k : Nat) (a0 : List Int) (K : List PV → List RowS → Option R) : callC T F k 96 [.val [(0, 0)] (.slice (.int .u8)) a0, .fn 97 []] [] K = f96 k a0 (fun z0 => K [.val [] .bool z0] []) := by
  rw [f96_def]
  cases k with
  | zero => rfl
  | succ k =>
    refine Eq.trans (show _ = exec T an96 (modesOf F) 0 k 9 (callC T F k) (ending T Try.f96 an96 0 K) (bodyOf Try.f96) ⟨argEnv 0 [.val [(0, 0)] (.slice (.int .u8)) a0, .fn 97 []] (fun _ => none), rowsOf []⟩ (ending T Try.f96 an96 0 K) (fun _ _ => none) from by kernel_rfl) ?_
    rw [← S96_eq k, ← execS_eq T an96 (modesOf F) 0 k 9 (S96 k) (fun _ _ _ _ _ => none) (bodyOf Try.f96) (cuts_of _ _ _ _ _ _ _ _ (bodyOf Try.f96) (l := []) (by kernel_rfl) trivial)]
    kernel_rfl
noncomputable def s96 (k : Nat) (a : List PV) (r : List RowS) (K : List PV → List RowS → Option R) : Option R :=
  onShape [.val [(0, 0)] (.slice (.int .u8)), .fn 97 []] [] (fun v => f96 k v.1.1 (fun z0 => K [.val [] .bool z0] [])) (callC T F k 96 a r K) a r
theorem s96_eq (k : Nat) (a : List PV) (r : List RowS) (K : List PV → List RowS → Option R) : s96 k a r K = callC T F k 96 a r K := by
  unfold s96
  exact onShape_eq (a := [.val [(0, 0)] (.slice (.int .u8)), .fn 97 []]) (b := []) (G := fun a r => callC T F k 96 a r K) (fun x y => Eq.trans (by kernel_rfl) (Eq.trans (e96 k x.1 K).symm (by kernel_rfl))) a r
end
section
variable {R : Type}
noncomputable def S74 (k g : Nat) (a : List PV) (r : List RowS) (K : List PV → List RowS → Option R) : Option R := bif g == 96 then s96 k a r K else callC T F k g a r K
theorem S74_eq (k : Nat) : S74 (R := R) k = callC T F k := by
  funext g a r K
  exact pick_eq (fun e => by subst e; exact s96_eq k a r K) (rfl)
theorem e74 (k : Nat) (a0 : List Int) (K : List PV → List RowS → Option R) : callC T F k 74 [.val [(0, 0)] (.slice (.int .u8)) a0] [] K = f74 k a0 (fun z0 => K [.val [] .bool z0] []) := by
  rw [f74_def]
  cases k with
  | zero => rfl
  | succ k =>
    refine Eq.trans (show _ = exec T an74 (modesOf F) 0 k 6 (callC T F k) (ending T Try.f74 an74 0 K) (bodyOf Try.f74) ⟨argEnv 0 [.val [(0, 0)] (.slice (.int .u8)) a0] (fun _ => none), rowsOf []⟩ (ending T Try.f74 an74 0 K) (fun _ _ => none) from by kernel_rfl) ?_
    rw [← S74_eq k, ← execS_eq T an74 (modesOf F) 0 k 6 (S74 k) (fun _ _ _ _ _ => none) (bodyOf Try.f74) (cuts_of _ _ _ _ _ _ _ _ (bodyOf Try.f74) (l := []) (by kernel_rfl) trivial)]
    kernel_rfl
noncomputable def s74 (k : Nat) (a : List PV) (r : List RowS) (K : List PV → List RowS → Option R) : Option R :=
  onShape [.val [(0, 0)] (.slice (.int .u8))] [] (fun v => f74 k v.1.1 (fun z0 => K [.val [] .bool z0] [])) (callC T F k 74 a r K) a r
theorem s74_eq (k : Nat) (a : List PV) (r : List RowS) (K : List PV → List RowS → Option R) : s74 k a r K = callC T F k 74 a r K := by
  unfold s74
  exact onShape_eq (a := [.val [(0, 0)] (.slice (.int .u8))]) (b := []) (G := fun a r => callC T F k 74 a r K) (fun x y => Eq.trans (by kernel_rfl) (Eq.trans (e74 k x.1 K).symm (by kernel_rfl))) a r
end
section
variable {R : Type}
noncomputable def S75 (k g : Nat) (a : List PV) (r : List RowS) (K : List PV → List RowS → Option R) : Option R := callC T F k g a r K
theorem S75_eq (k : Nat) : S75 (R := R) k = callC T F k := by
  funext g a r K
  exact rfl
theorem e75 (k : Nat) (a0 : List Int) (K : List PV → List RowS → Option R) : callC T F k 75 [.val [(0, 0)] (.slice (.int .u8)) a0] [] K = f75 k a0 (fun z0 => K [.val [] (.int .i64) z0] []) := by
  rw [f75_def]
  cases k with
  | zero => rfl
  | succ k =>
    refine Eq.trans (show _ = exec T an75 (modesOf F) 0 k 25 (callC T F k) (ending T Try.f75 an75 0 K) (bodyOf Try.f75) ⟨argEnv 0 [.val [(0, 0)] (.slice (.int .u8)) a0] (fun _ => none), rowsOf []⟩ (ending T Try.f75 an75 0 K) (fun _ _ => none) from by kernel_rfl) ?_
    rw [← S75_eq k, ← execS_eq T an75 (modesOf F) 0 k 25 (S75 k) (fun _ _ _ _ _ => none) (bodyOf Try.f75) (cuts_of _ _ _ _ _ _ _ _ (bodyOf Try.f75) (l := []) (by kernel_rfl) trivial)]
    kernel_rfl
noncomputable def s75 (k : Nat) (a : List PV) (r : List RowS) (K : List PV → List RowS → Option R) : Option R :=
  onShape [.val [(0, 0)] (.slice (.int .u8))] [] (fun v => f75 k v.1.1 (fun z0 => K [.val [] (.int .i64) z0] [])) (callC T F k 75 a r K) a r
theorem s75_eq (k : Nat) (a : List PV) (r : List RowS) (K : List PV → List RowS → Option R) : s75 k a r K = callC T F k 75 a r K := by
  unfold s75
  exact onShape_eq (a := [.val [(0, 0)] (.slice (.int .u8))]) (b := []) (G := fun a r => callC T F k 75 a r K) (fun x y => Eq.trans (by kernel_rfl) (Eq.trans (e75 k x.1 K).symm (by kernel_rfl))) a r
end
section
variable {R : Type}
theorem e72 (k : Nat) (a0 : List Int) (K : List PV → List RowS → Option R) : callC T F k 72 [.val [(0, 0)] (.slice (.int .u8)) a0] [] K = f72 k a0 (fun z0 => K [.rw 1] [⟨0, .arr [] (.int .u8) z0⟩]) := by
  rw [f72_def]
  cases k with
  | zero => rfl
  | succ k => exact clone_call (m := [.lend (.int .u8)]) (ty := (.int .u8)) (bytes := 1) (by kernel_rfl) a0 K
noncomputable def s72 (k : Nat) (a : List PV) (r : List RowS) (K : List PV → List RowS → Option R) : Option R :=
  onShape [.val [(0, 0)] (.slice (.int .u8))] [] (fun v => f72 k v.1.1 (fun z0 => K [.rw 1] [⟨0, .arr [] (.int .u8) z0⟩])) (callC T F k 72 a r K) a r
theorem s72_eq (k : Nat) (a : List PV) (r : List RowS) (K : List PV → List RowS → Option R) : s72 k a r K = callC T F k 72 a r K := by
  unfold s72
  exact onShape_eq (a := [.val [(0, 0)] (.slice (.int .u8))]) (b := []) (G := fun a r => callC T F k 72 a r K) (fun x y => Eq.trans (by kernel_rfl) (Eq.trans (e72 k x.1 K).symm (by kernel_rfl))) a r
end
section
variable {R : Type}
noncomputable def S76 (k g : Nat) (a : List PV) (r : List RowS) (K : List PV → List RowS → Option R) : Option R := callC T F k g a r K
theorem S76_eq (k : Nat) : S76 (R := R) k = callC T F k := by
  funext g a r K
  exact rfl
section
variable {R : Type} (k : Nat) (K : List PV → List RowS → Option R)
noncomputable def L76_0 (ws : List PV) (rs : List RowS) (N : St → Option R) (X : Nat → St → Option R) : Option R :=
  onShape [.val [(0, 0)] (.slice (.int .u8)), .val [(0, 0)] (.slice (.int .u8)), .val [] (.int .i64), .val [] (.int .i64)] [] (fun v => f76_0 k (fun z0 => K [.val [] .bool z0] []) (N (sh jn76_0 [] [])) v.1.1 v.1.2.1 v.1.2.2.1 k v.1.2.2.2.1) (inner T an76 (modesOf F) 0 k 26 (S76 k) (ending T Try.f76 an76 0 K) cd76_0 (sh sp76_0 ws rs) N X) ws rs
noncomputable def L76 (id : Nat) (ws : List PV) (rs : List RowS) (N : St → Option R) (X : Nat → St → Option R) : Option R := bif id == 0 then L76_0 k K ws rs N X else none
theorem b76_0 (rec : St → Option R) (N : St → Option R) (X : Nat → St → Option R) (v0_0 : List Int) (v0_1 : List Int) (v0_2 : Int) (v0_3 : Int) :
    execS T an76 (modesOf F) 0 k 26 (S76 k) (L76 k K) (ending T Try.f76 an76 0 K) bd76_0 (sh sp76_0 [.val [(0, 0)] (.slice (.int .u8)) v0_0, .val [(0, 0)] (.slice (.int .u8)) v0_1, .val [] (.int .i64) v0_2, .val [] (.int .i64) v0_3] []) (fun st => atHead an76 0 bd76_0 st rec) (outX an76 0 0 N X) =
      f76_0b k (fun v0_3 => rec (sh sp76_0 [.val [(0, 0)] (.slice (.int .u8)) v0_0, .val [(0, 0)] (.slice (.int .u8)) v0_1, .val [] (.int .i64) v0_2, .val [] (.int .i64) v0_3] [])) (fun z0 => K [.val [] .bool z0] []) (N (sh jn76_0 [] [])) v0_0 v0_1 v0_2 v0_3 := by kernel_rfl
theorem i76_0 (N : St → Option R) (X : Nat → St → Option R) (v0_0 : List Int) (v0_1 : List Int) (v0_2 : Int) (m : Nat) : ∀ (v0_3 : Int),
    iter (atHead an76 0 bd76_0) m (fun st N' => exec T an76 (modesOf F) 0 k 26 (S76 k) (ending T Try.f76 an76 0 K) bd76_0 st N' (outX an76 0 0 N X)) (sh sp76_0 [.val [(0, 0)] (.slice (.int .u8)) v0_0, .val [(0, 0)] (.slice (.int .u8)) v0_1, .val [] (.int .i64) v0_2, .val [] (.int .i64) v0_3] []) = f76_0d k (fun z0 => K [.val [] .bool z0] []) (N (sh jn76_0 [] [])) v0_0 v0_1 v0_2 m v0_3 := by
  induction m with
  | zero => intros; rfl
  | succ m ih =>
    intro v0_3
    simp only [iter]
    rw [← execS_eq T an76 (modesOf F) 0 k 26 (S76 k) (L76 k K) bd76_0 (cuts_of _ _ _ _ _ _ _ _ bd76_0 (l := []) (by kernel_rfl) trivial)]
    refine (b76_0 k K _ N X v0_0 v0_1 v0_2 v0_3).trans ?_
    simp only [f76_0d, ih]
theorem l76_0 (ws : List PV) (rs : List RowS) (N : St → Option R) (X : Nat → St → Option R) : L76 k K 0 ws rs N X = inner T an76 (modesOf F) 0 k 26 (S76 k) (ending T Try.f76 an76 0 K) cd76_0 (sh sp76_0 ws rs) N X := by
  show L76_0 k K ws rs N X = _
  unfold L76_0
  rw [f76_0_def]
  exact onShape_eq (a := [.val [(0, 0)] (.slice (.int .u8)), .val [(0, 0)] (.slice (.int .u8)), .val [] (.int .i64), .val [] (.int .i64)]) (b := []) (G := fun ws rs => inner T an76 (modesOf F) 0 k 26 (S76 k) (ending T Try.f76 an76 0 K) cd76_0 (sh sp76_0 ws rs) N X) (fun x y => Eq.trans (by kernel_rfl) (Eq.trans (i76_0 k K N X x.1 x.2.1 x.2.2.1 k x.2.2.2.1).symm (by kernel_rfl))) ws rs
end
theorem e76 (k : Nat) (a0 : List Int) (a1 : List Int) (K : List PV → List RowS → Option R) : callC T F k 76 [.val [(0, 0)] (.slice (.int .u8)) a0, .val [(0, 0)] (.slice (.int .u8)) a1] [] K = f76 k a0 a1 (fun z0 => K [.val [] .bool z0] []) := by
  rw [f76_def]
  cases k with
  | zero => rfl
  | succ k =>
    refine Eq.trans (show _ = exec T an76 (modesOf F) 0 k 26 (callC T F k) (ending T Try.f76 an76 0 K) (bodyOf Try.f76) ⟨argEnv 0 [.val [(0, 0)] (.slice (.int .u8)) a0, .val [(0, 0)] (.slice (.int .u8)) a1] (fun _ => none), rowsOf []⟩ (ending T Try.f76 an76 0 K) (fun _ _ => none) from by kernel_rfl) ?_
    rw [← S76_eq k, ← execS_eq T an76 (modesOf F) 0 k 26 (S76 k) (L76 k K) (bodyOf Try.f76) (cuts_of _ _ _ _ _ _ _ _ (bodyOf Try.f76) (l := [(0, sp76_0, cd76_0)]) (by kernel_rfl) ⟨l76_0 k K, trivial⟩)]
    kernel_rfl
noncomputable def s76 (k : Nat) (a : List PV) (r : List RowS) (K : List PV → List RowS → Option R) : Option R :=
  onShape [.val [(0, 0)] (.slice (.int .u8)), .val [(0, 0)] (.slice (.int .u8))] [] (fun v => f76 k v.1.1 v.1.2.1 (fun z0 => K [.val [] .bool z0] [])) (callC T F k 76 a r K) a r
theorem s76_eq (k : Nat) (a : List PV) (r : List RowS) (K : List PV → List RowS → Option R) : s76 k a r K = callC T F k 76 a r K := by
  unfold s76
  exact onShape_eq (a := [.val [(0, 0)] (.slice (.int .u8)), .val [(0, 0)] (.slice (.int .u8))]) (b := []) (G := fun a r => callC T F k 76 a r K) (fun x y => Eq.trans (by kernel_rfl) (Eq.trans (e76 k x.1 x.2.1 K).symm (by kernel_rfl))) a r
end
section
variable {R : Type}
noncomputable def S56 (k g : Nat) (a : List PV) (r : List RowS) (K : List PV → List RowS → Option R) : Option R := bif g == 18 then s18 k a r K else bif g == 72 then s72 k a r K else bif g == 74 then s74 k a r K else bif g == 75 then s75 k a r K else bif g == 76 then s76 k a r K else callC T F k g a r K
theorem S56_eq (k : Nat) : S56 (R := R) k = callC T F k := by
  funext g a r K
  exact pick_eq (fun e => by subst e; exact s18_eq k a r K) (pick_eq (fun e => by subst e; exact s72_eq k a r K) (pick_eq (fun e => by subst e; exact s74_eq k a r K) (pick_eq (fun e => by subst e; exact s75_eq k a r K) (pick_eq (fun e => by subst e; exact s76_eq k a r K) (rfl)))))
theorem e56 (k : Nat) (a0 : List Int) (K : List PV → List RowS → Option R) : callC T F k 56 [.val [(0, 0)] (.slice (.int .u8)) a0] [] K = f56 k a0 (fun z0 z1 z2 z3 z4 z5 z6 => K [.val [] (.int .i64) z0, .agg [.val [] (.int .i64) z1, .val [] .bool z2, .val [] .str z3, .val [] (.int .i64) z4, .val [] .bool z5, .rw 1]] [⟨0, .arr [] (.int .u8) z6⟩]) := by
  rw [f56_def]
  cases k with
  | zero => rfl
  | succ k =>
    refine Eq.trans (show _ = exec T an56 (modesOf F) 0 k 99 (callC T F k) (ending T Try.f56 an56 0 K) (bodyOf Try.f56) ⟨argEnv 0 [.val [(0, 0)] (.slice (.int .u8)) a0] (fun _ => none), rowsOf []⟩ (ending T Try.f56 an56 0 K) (fun _ _ => none) from by kernel_rfl) ?_
    rw [← S56_eq k, ← execS_eq T an56 (modesOf F) 0 k 99 (S56 k) (fun _ _ _ _ _ => none) (bodyOf Try.f56) (cuts_of _ _ _ _ _ _ _ _ (bodyOf Try.f56) (l := []) (by kernel_rfl) trivial)]
    kernel_rfl
noncomputable def s56 (k : Nat) (a : List PV) (r : List RowS) (K : List PV → List RowS → Option R) : Option R :=
  onShape [.val [(0, 0)] (.slice (.int .u8))] [] (fun v => f56 k v.1.1 (fun z0 z1 z2 z3 z4 z5 z6 => K [.val [] (.int .i64) z0, .agg [.val [] (.int .i64) z1, .val [] .bool z2, .val [] .str z3, .val [] (.int .i64) z4, .val [] .bool z5, .rw 1]] [⟨0, .arr [] (.int .u8) z6⟩])) (callC T F k 56 a r K) a r
theorem s56_eq (k : Nat) (a : List PV) (r : List RowS) (K : List PV → List RowS → Option R) : s56 k a r K = callC T F k 56 a r K := by
  unfold s56
  exact onShape_eq (a := [.val [(0, 0)] (.slice (.int .u8))]) (b := []) (G := fun a r => callC T F k 56 a r K) (fun x y => Eq.trans (by kernel_rfl) (Eq.trans (e56 k x.1 K).symm (by kernel_rfl))) a r
end
section
variable {R : Type}
noncomputable def S20 (k g : Nat) (a : List PV) (r : List RowS) (K : List PV → List RowS → Option R) : Option R := bif g == 52 then s52 k a r K else bif g == 56 then s56 k a r K else callC T F k g a r K
theorem S20_eq (k : Nat) : S20 (R := R) k = callC T F k := by
  funext g a r K
  exact pick_eq (fun e => by subst e; exact s52_eq k a r K) (pick_eq (fun e => by subst e; exact s56_eq k a r K) (rfl))
theorem e20 (k : Nat) (a0 : List Int) (K : List PV → List RowS → Option R) : callC T F k 20 [.val [(0, 0)] (.slice (.int .u8)) a0] [] K = f20 k a0 (fun z0 z1 z2 z3 z4 z5 z6 z7 => K [.val [] (.int .i64) z0, .agg [.val [] (.int .i64) z1, .val [] .bool z2, .val [] .str z3, .val [] (.int .i64) z4, .val [] .bool z5, .rw 1], .val [] (.int .i64) z6] [⟨0, .arr [] (.int .u8) z7⟩]) := by
  rw [f20_def]
  cases k with
  | zero => rfl
  | succ k =>
    refine Eq.trans (show _ = exec T an20 (modesOf F) 0 k 19 (callC T F k) (ending T Try.f20 an20 0 K) (bodyOf Try.f20) ⟨argEnv 0 [.val [(0, 0)] (.slice (.int .u8)) a0] (fun _ => none), rowsOf []⟩ (ending T Try.f20 an20 0 K) (fun _ _ => none) from by kernel_rfl) ?_
    rw [← S20_eq k, ← execS_eq T an20 (modesOf F) 0 k 19 (S20 k) (fun _ _ _ _ _ => none) (bodyOf Try.f20) (cuts_of _ _ _ _ _ _ _ _ (bodyOf Try.f20) (l := []) (by kernel_rfl) trivial)]
    kernel_rfl
noncomputable def s20 (k : Nat) (a : List PV) (r : List RowS) (K : List PV → List RowS → Option R) : Option R :=
  onShape [.val [(0, 0)] (.slice (.int .u8))] [] (fun v => f20 k v.1.1 (fun z0 z1 z2 z3 z4 z5 z6 z7 => K [.val [] (.int .i64) z0, .agg [.val [] (.int .i64) z1, .val [] .bool z2, .val [] .str z3, .val [] (.int .i64) z4, .val [] .bool z5, .rw 1], .val [] (.int .i64) z6] [⟨0, .arr [] (.int .u8) z7⟩])) (callC T F k 20 a r K) a r
theorem s20_eq (k : Nat) (a : List PV) (r : List RowS) (K : List PV → List RowS → Option R) : s20 k a r K = callC T F k 20 a r K := by
  unfold s20
  exact onShape_eq (a := [.val [(0, 0)] (.slice (.int .u8))]) (b := []) (G := fun a r => callC T F k 20 a r K) (fun x y => Eq.trans (by kernel_rfl) (Eq.trans (e20 k x.1 K).symm (by kernel_rfl))) a r
end
section
variable {R : Type}
noncomputable def S77 (k g : Nat) (a : List PV) (r : List RowS) (K : List PV → List RowS → Option R) : Option R := callC T F k g a r K
theorem S77_eq (k : Nat) : S77 (R := R) k = callC T F k := by
  funext g a r K
  exact rfl
section
variable {R : Type} (k : Nat) (K : List PV → List RowS → Option R)
noncomputable def L77_0 (ws : List PV) (rs : List RowS) (N : St → Option R) (X : Nat → St → Option R) : Option R :=
  onShape [.val [(0, 0)] (.slice (.int .u8)), .val [] (.int .i64)] [] (fun v => f77_0 k (fun z0 => K [.val [] .bool z0] []) (N (sh jn77_0 [] [])) v.1.1 k v.1.2.1) (inner T an77 (modesOf F) 0 k 15 (S77 k) (ending T Try.f77 an77 0 K) cd77_0 (sh sp77_0 ws rs) N X) ws rs
noncomputable def L77 (id : Nat) (ws : List PV) (rs : List RowS) (N : St → Option R) (X : Nat → St → Option R) : Option R := bif id == 0 then L77_0 k K ws rs N X else none
theorem b77_0 (rec : St → Option R) (N : St → Option R) (X : Nat → St → Option R) (v0_0 : List Int) (v0_1 : Int) :
    execS T an77 (modesOf F) 0 k 15 (S77 k) (L77 k K) (ending T Try.f77 an77 0 K) bd77_0 (sh sp77_0 [.val [(0, 0)] (.slice (.int .u8)) v0_0, .val [] (.int .i64) v0_1] []) (fun st => atHead an77 0 bd77_0 st rec) (outX an77 0 0 N X) =
      f77_0b k (fun v0_1 => rec (sh sp77_0 [.val [(0, 0)] (.slice (.int .u8)) v0_0, .val [] (.int .i64) v0_1] [])) (fun z0 => K [.val [] .bool z0] []) (N (sh jn77_0 [] [])) v0_0 v0_1 := by kernel_rfl
theorem i77_0 (N : St → Option R) (X : Nat → St → Option R) (v0_0 : List Int) (m : Nat) : ∀ (v0_1 : Int),
    iter (atHead an77 0 bd77_0) m (fun st N' => exec T an77 (modesOf F) 0 k 15 (S77 k) (ending T Try.f77 an77 0 K) bd77_0 st N' (outX an77 0 0 N X)) (sh sp77_0 [.val [(0, 0)] (.slice (.int .u8)) v0_0, .val [] (.int .i64) v0_1] []) = f77_0d k (fun z0 => K [.val [] .bool z0] []) (N (sh jn77_0 [] [])) v0_0 m v0_1 := by
  induction m with
  | zero => intros; rfl
  | succ m ih =>
    intro v0_1
    simp only [iter]
    rw [← execS_eq T an77 (modesOf F) 0 k 15 (S77 k) (L77 k K) bd77_0 (cuts_of _ _ _ _ _ _ _ _ bd77_0 (l := []) (by kernel_rfl) trivial)]
    refine (b77_0 k K _ N X v0_0 v0_1).trans ?_
    simp only [f77_0d, ih]
theorem l77_0 (ws : List PV) (rs : List RowS) (N : St → Option R) (X : Nat → St → Option R) : L77 k K 0 ws rs N X = inner T an77 (modesOf F) 0 k 15 (S77 k) (ending T Try.f77 an77 0 K) cd77_0 (sh sp77_0 ws rs) N X := by
  show L77_0 k K ws rs N X = _
  unfold L77_0
  rw [f77_0_def]
  exact onShape_eq (a := [.val [(0, 0)] (.slice (.int .u8)), .val [] (.int .i64)]) (b := []) (G := fun ws rs => inner T an77 (modesOf F) 0 k 15 (S77 k) (ending T Try.f77 an77 0 K) cd77_0 (sh sp77_0 ws rs) N X) (fun x y => Eq.trans (by kernel_rfl) (Eq.trans (i77_0 k K N X x.1 k x.2.1).symm (by kernel_rfl))) ws rs
end
theorem e77 (k : Nat) (a0 : List Int) (K : List PV → List RowS → Option R) : callC T F k 77 [.val [(0, 0)] (.slice (.int .u8)) a0] [] K = f77 k a0 (fun z0 => K [.val [] .bool z0] []) := by
  rw [f77_def]
  cases k with
  | zero => rfl
  | succ k =>
    refine Eq.trans (show _ = exec T an77 (modesOf F) 0 k 15 (callC T F k) (ending T Try.f77 an77 0 K) (bodyOf Try.f77) ⟨argEnv 0 [.val [(0, 0)] (.slice (.int .u8)) a0] (fun _ => none), rowsOf []⟩ (ending T Try.f77 an77 0 K) (fun _ _ => none) from by kernel_rfl) ?_
    rw [← S77_eq k, ← execS_eq T an77 (modesOf F) 0 k 15 (S77 k) (L77 k K) (bodyOf Try.f77) (cuts_of _ _ _ _ _ _ _ _ (bodyOf Try.f77) (l := [(0, sp77_0, cd77_0)]) (by kernel_rfl) ⟨l77_0 k K, trivial⟩)]
    kernel_rfl
noncomputable def s77 (k : Nat) (a : List PV) (r : List RowS) (K : List PV → List RowS → Option R) : Option R :=
  onShape [.val [(0, 0)] (.slice (.int .u8))] [] (fun v => f77 k v.1.1 (fun z0 => K [.val [] .bool z0] [])) (callC T F k 77 a r K) a r
theorem s77_eq (k : Nat) (a : List PV) (r : List RowS) (K : List PV → List RowS → Option R) : s77 k a r K = callC T F k 77 a r K := by
  unfold s77
  exact onShape_eq (a := [.val [(0, 0)] (.slice (.int .u8))]) (b := []) (G := fun a r => callC T F k 77 a r K) (fun x y => Eq.trans (by kernel_rfl) (Eq.trans (e77 k x.1 K).symm (by kernel_rfl))) a r
end
section
variable {R : Type}
noncomputable def S78 (k g : Nat) (a : List PV) (r : List RowS) (K : List PV → List RowS → Option R) : Option R := callC T F k g a r K
theorem S78_eq (k : Nat) : S78 (R := R) k = callC T F k := by
  funext g a r K
  exact rfl
theorem e78 (k : Nat) (a0 : List Int) (a1 : Int) (K : List PV → List RowS → Option R) : callC T F k 78 [.val [(0, 0)] (.slice (.int .u8)) a0, .val [] (.int .i64) a1] [] K = f78 k a0 a1 (fun z0 => K [.val [] (.int .i64) z0] []) := by
  rw [f78_def]
  cases k with
  | zero => rfl
  | succ k =>
    refine Eq.trans (show _ = exec T an78 (modesOf F) 0 k 18 (callC T F k) (ending T Try.f78 an78 0 K) (bodyOf Try.f78) ⟨argEnv 0 [.val [(0, 0)] (.slice (.int .u8)) a0, .val [] (.int .i64) a1] (fun _ => none), rowsOf []⟩ (ending T Try.f78 an78 0 K) (fun _ _ => none) from by kernel_rfl) ?_
    rw [← S78_eq k, ← execS_eq T an78 (modesOf F) 0 k 18 (S78 k) (fun _ _ _ _ _ => none) (bodyOf Try.f78) (cuts_of _ _ _ _ _ _ _ _ (bodyOf Try.f78) (l := []) (by kernel_rfl) trivial)]
    kernel_rfl
noncomputable def s78 (k : Nat) (a : List PV) (r : List RowS) (K : List PV → List RowS → Option R) : Option R :=
  onShape [.val [(0, 0)] (.slice (.int .u8)), .val [] (.int .i64)] [] (fun v => f78 k v.1.1 v.1.2.1 (fun z0 => K [.val [] (.int .i64) z0] [])) (callC T F k 78 a r K) a r
theorem s78_eq (k : Nat) (a : List PV) (r : List RowS) (K : List PV → List RowS → Option R) : s78 k a r K = callC T F k 78 a r K := by
  unfold s78
  exact onShape_eq (a := [.val [(0, 0)] (.slice (.int .u8)), .val [] (.int .i64)]) (b := []) (G := fun a r => callC T F k 78 a r K) (fun x y => Eq.trans (by kernel_rfl) (Eq.trans (e78 k x.1 x.2.1 K).symm (by kernel_rfl))) a r
end
section
variable {R : Type}
noncomputable def S22 (k g : Nat) (a : List PV) (r : List RowS) (K : List PV → List RowS → Option R) : Option R := callC T F k g a r K
theorem S22_eq (k : Nat) : S22 (R := R) k = callC T F k := by
  funext g a r K
  exact rfl
theorem e22 (k : Nat) (a0 : List Int) (a1 : List Int) (K : List PV → List RowS → Option R) : callC T F k 22 [.val [(0, 0)] (.slice (.int .u8)) a0, .val [(0, 0)] (.slice (.int .u8)) a1] [] K = f22 k a0 a1 (fun z0 => K [.val [] .bool z0] []) := by
  rw [f22_def]
  cases k with
  | zero => rfl
  | succ k =>
    refine Eq.trans (show _ = exec T an22 (modesOf F) 0 k 10 (callC T F k) (ending T Try.f22 an22 0 K) (bodyOf Try.f22) ⟨argEnv 0 [.val [(0, 0)] (.slice (.int .u8)) a0, .val [(0, 0)] (.slice (.int .u8)) a1] (fun _ => none), rowsOf []⟩ (ending T Try.f22 an22 0 K) (fun _ _ => none) from by kernel_rfl) ?_
    rw [← S22_eq k, ← execS_eq T an22 (modesOf F) 0 k 10 (S22 k) (fun _ _ _ _ _ => none) (bodyOf Try.f22) (cuts_of _ _ _ _ _ _ _ _ (bodyOf Try.f22) (l := []) (by kernel_rfl) trivial)]
    kernel_rfl
noncomputable def s22 (k : Nat) (a : List PV) (r : List RowS) (K : List PV → List RowS → Option R) : Option R :=
  onShape [.val [(0, 0)] (.slice (.int .u8)), .val [(0, 0)] (.slice (.int .u8))] [] (fun v => f22 k v.1.1 v.1.2.1 (fun z0 => K [.val [] .bool z0] [])) (callC T F k 22 a r K) a r
theorem s22_eq (k : Nat) (a : List PV) (r : List RowS) (K : List PV → List RowS → Option R) : s22 k a r K = callC T F k 22 a r K := by
  unfold s22
  exact onShape_eq (a := [.val [(0, 0)] (.slice (.int .u8)), .val [(0, 0)] (.slice (.int .u8))]) (b := []) (G := fun a r => callC T F k 22 a r K) (fun x y => Eq.trans (by kernel_rfl) (Eq.trans (e22 k x.1 x.2.1 K).symm (by kernel_rfl))) a r
end
section
variable {R : Type}
noncomputable def S57 (k g : Nat) (a : List PV) (r : List RowS) (K : List PV → List RowS → Option R) : Option R := bif g == 19 then s19 k a r K else bif g == 22 then s22 k a r K else bif g == 77 then s77 k a r K else bif g == 78 then s78 k a r K else callC T F k g a r K
theorem S57_eq (k : Nat) : S57 (R := R) k = callC T F k := by
  funext g a r K
  exact pick_eq (fun e => by subst e; exact s19_eq k a r K) (pick_eq (fun e => by subst e; exact s22_eq k a r K) (pick_eq (fun e => by subst e; exact s77_eq k a r K) (pick_eq (fun e => by subst e; exact s78_eq k a r K) (rfl))))
theorem e57 (k : Nat) (a0 : List Int) (K : List PV → List RowS → Option R) : callC T F k 57 [.val [(0, 0)] (.slice (.int .u8)) a0] [] K = f57 k a0 (fun z0 z1 z2 z3 z4 z5 z6 => K [.val [] (.int .i64) z0, .agg [.val [] (.int .i64) z1, .val [] .bool z2, .val [] .str z3, .val [] (.int .i64) z4, .val [] .bool z5, .rw 1]] [⟨0, .arr [] (.int .u8) z6⟩]) := by
  rw [f57_def]
  cases k with
  | zero => rfl
  | succ k =>
    refine Eq.trans (show _ = exec T an57 (modesOf F) 0 k 86 (callC T F k) (ending T Try.f57 an57 0 K) (bodyOf Try.f57) ⟨argEnv 0 [.val [(0, 0)] (.slice (.int .u8)) a0] (fun _ => none), rowsOf []⟩ (ending T Try.f57 an57 0 K) (fun _ _ => none) from by kernel_rfl) ?_
    rw [← S57_eq k, ← execS_eq T an57 (modesOf F) 0 k 86 (S57 k) (fun _ _ _ _ _ => none) (bodyOf Try.f57) (cuts_of _ _ _ _ _ _ _ _ (bodyOf Try.f57) (l := []) (by kernel_rfl) trivial)]
    kernel_rfl
noncomputable def s57 (k : Nat) (a : List PV) (r : List RowS) (K : List PV → List RowS → Option R) : Option R :=
  onShape [.val [(0, 0)] (.slice (.int .u8))] [] (fun v => f57 k v.1.1 (fun z0 z1 z2 z3 z4 z5 z6 => K [.val [] (.int .i64) z0, .agg [.val [] (.int .i64) z1, .val [] .bool z2, .val [] .str z3, .val [] (.int .i64) z4, .val [] .bool z5, .rw 1]] [⟨0, .arr [] (.int .u8) z6⟩])) (callC T F k 57 a r K) a r
theorem s57_eq (k : Nat) (a : List PV) (r : List RowS) (K : List PV → List RowS → Option R) : s57 k a r K = callC T F k 57 a r K := by
  unfold s57
  exact onShape_eq (a := [.val [(0, 0)] (.slice (.int .u8))]) (b := []) (G := fun a r => callC T F k 57 a r K) (fun x y => Eq.trans (by kernel_rfl) (Eq.trans (e57 k x.1 K).symm (by kernel_rfl))) a r
end
section
variable {R : Type}
noncomputable def S21 (k g : Nat) (a : List PV) (r : List RowS) (K : List PV → List RowS → Option R) : Option R := bif g == 41 then s41 k a r K else bif g == 57 then s57 k a r K else callC T F k g a r K
theorem S21_eq (k : Nat) : S21 (R := R) k = callC T F k := by
  funext g a r K
  exact pick_eq (fun e => by subst e; exact s41_eq k a r K) (pick_eq (fun e => by subst e; exact s57_eq k a r K) (rfl))
theorem e21 (k : Nat) (a0 : List Int) (K : List PV → List RowS → Option R) : callC T F k 21 [.val [(0, 0)] (.slice (.int .u8)) a0] [] K = f21 k a0 (fun z0 z1 z2 z3 z4 z5 z6 z7 => K [.val [] (.int .i64) z0, .agg [.val [] (.int .i64) z1, .val [] .bool z2, .val [] .str z3, .val [] (.int .i64) z4, .val [] .bool z5, .rw 1], .val [] (.int .i64) z6] [⟨0, .arr [] (.int .u8) z7⟩]) := by
  rw [f21_def]
  cases k with
  | zero => rfl
  | succ k =>
    refine Eq.trans (show _ = exec T an21 (modesOf F) 0 k 19 (callC T F k) (ending T Try.f21 an21 0 K) (bodyOf Try.f21) ⟨argEnv 0 [.val [(0, 0)] (.slice (.int .u8)) a0] (fun _ => none), rowsOf []⟩ (ending T Try.f21 an21 0 K) (fun _ _ => none) from by kernel_rfl) ?_
    rw [← S21_eq k, ← execS_eq T an21 (modesOf F) 0 k 19 (S21 k) (fun _ _ _ _ _ => none) (bodyOf Try.f21) (cuts_of _ _ _ _ _ _ _ _ (bodyOf Try.f21) (l := []) (by kernel_rfl) trivial)]
    kernel_rfl
noncomputable def s21 (k : Nat) (a : List PV) (r : List RowS) (K : List PV → List RowS → Option R) : Option R :=
  onShape [.val [(0, 0)] (.slice (.int .u8))] [] (fun v => f21 k v.1.1 (fun z0 z1 z2 z3 z4 z5 z6 z7 => K [.val [] (.int .i64) z0, .agg [.val [] (.int .i64) z1, .val [] .bool z2, .val [] .str z3, .val [] (.int .i64) z4, .val [] .bool z5, .rw 1], .val [] (.int .i64) z6] [⟨0, .arr [] (.int .u8) z7⟩])) (callC T F k 21 a r K) a r
theorem s21_eq (k : Nat) (a : List PV) (r : List RowS) (K : List PV → List RowS → Option R) : s21 k a r K = callC T F k 21 a r K := by
  unfold s21
  exact onShape_eq (a := [.val [(0, 0)] (.slice (.int .u8))]) (b := []) (G := fun a r => callC T F k 21 a r K) (fun x y => Eq.trans (by kernel_rfl) (Eq.trans (e21 k x.1 K).symm (by kernel_rfl))) a r
end
section
variable {R : Type}
noncomputable def S23 (k g : Nat) (a : List PV) (r : List RowS) (K : List PV → List RowS → Option R) : Option R := bif g == 22 then s22 k a r K else callC T F k g a r K
theorem S23_eq (k : Nat) : S23 (R := R) k = callC T F k := by
  funext g a r K
  exact pick_eq (fun e => by subst e; exact s22_eq k a r K) (rfl)
theorem e23 (k : Nat) (a0 : Int) (a1 : Bool) (a2 : ByteArray) (a3 : Int) (a4 : Bool) (a5 : List Int) (a6 : Int) (a7 : Bool) (a8 : ByteArray) (a9 : Int) (a10 : Bool) (a11 : List Int) (K : List PV → List RowS → Option R) : callC T F k 23 [.agg [.val [] (.int .i64) a0, .val [] .bool a1, .val [] .str a2, .val [] (.int .i64) a3, .val [] .bool a4, .val [(0, 0)] (.slice (.int .u8)) a5], .agg [.val [] (.int .i64) a6, .val [] .bool a7, .val [] .str a8, .val [] (.int .i64) a9, .val [] .bool a10, .val [(0, 0)] (.slice (.int .u8)) a11]] [] K = f23 k a0 a1 a2 a3 a4 a5 a6 a7 a8 a9 a10 a11 (fun z0 => K [.val [] .bool z0] []) := by
  rw [f23_def]
  cases k with
  | zero => rfl
  | succ k =>
    refine Eq.trans (show _ = exec T an23 (modesOf F) 0 k 45 (callC T F k) (ending T Try.f23 an23 0 K) (bodyOf Try.f23) ⟨argEnv 0 [.agg [.val [] (.int .i64) a0, .val [] .bool a1, .val [] .str a2, .val [] (.int .i64) a3, .val [] .bool a4, .val [(0, 0)] (.slice (.int .u8)) a5], .agg [.val [] (.int .i64) a6, .val [] .bool a7, .val [] .str a8, .val [] (.int .i64) a9, .val [] .bool a10, .val [(0, 0)] (.slice (.int .u8)) a11]] (fun _ => none), rowsOf []⟩ (ending T Try.f23 an23 0 K) (fun _ _ => none) from by kernel_rfl) ?_
    rw [← S23_eq k, ← execS_eq T an23 (modesOf F) 0 k 45 (S23 k) (fun _ _ _ _ _ => none) (bodyOf Try.f23) (cuts_of _ _ _ _ _ _ _ _ (bodyOf Try.f23) (l := []) (by kernel_rfl) trivial)]
    kernel_rfl
noncomputable def s23 (k : Nat) (a : List PV) (r : List RowS) (K : List PV → List RowS → Option R) : Option R :=
  onShape [.agg [.val [] (.int .i64), .val [] .bool, .val [] .str, .val [] (.int .i64), .val [] .bool, .val [(0, 0)] (.slice (.int .u8))], .agg [.val [] (.int .i64), .val [] .bool, .val [] .str, .val [] (.int .i64), .val [] .bool, .val [(0, 0)] (.slice (.int .u8))]] [] (fun v => f23 k v.1.1.1 v.1.1.2.1 v.1.1.2.2.1 v.1.1.2.2.2.1 v.1.1.2.2.2.2.1 v.1.1.2.2.2.2.2.1 v.1.2.1.1 v.1.2.1.2.1 v.1.2.1.2.2.1 v.1.2.1.2.2.2.1 v.1.2.1.2.2.2.2.1 v.1.2.1.2.2.2.2.2.1 (fun z0 => K [.val [] .bool z0] [])) (callC T F k 23 a r K) a r
theorem s23_eq (k : Nat) (a : List PV) (r : List RowS) (K : List PV → List RowS → Option R) : s23 k a r K = callC T F k 23 a r K := by
  unfold s23
  exact onShape_eq (a := [.agg [.val [] (.int .i64), .val [] .bool, .val [] .str, .val [] (.int .i64), .val [] .bool, .val [(0, 0)] (.slice (.int .u8))], .agg [.val [] (.int .i64), .val [] .bool, .val [] .str, .val [] (.int .i64), .val [] .bool, .val [(0, 0)] (.slice (.int .u8))]]) (b := []) (G := fun a r => callC T F k 23 a r K) (fun x y => Eq.trans (by kernel_rfl) (Eq.trans (e23 k x.1.1 x.1.2.1 x.1.2.2.1 x.1.2.2.2.1 x.1.2.2.2.2.1 x.1.2.2.2.2.2.1 x.2.1.1 x.2.1.2.1 x.2.1.2.2.1 x.2.1.2.2.2.1 x.2.1.2.2.2.2.1 x.2.1.2.2.2.2.2.1 K).symm (by kernel_rfl))) a r
end
section
variable {R : Type}
noncomputable def S16 (k g : Nat) (a : List PV) (r : List RowS) (K : List PV → List RowS → Option R) : Option R := bif g == 50 then s50 k a r K else callC T F k g a r K
theorem S16_eq (k : Nat) : S16 (R := R) k = callC T F k := by
  funext g a r K
  exact pick_eq (fun e => by subst e; exact s50_eq k a r K) (rfl)
theorem e16 (k : Nat) (a0 : List Int) (K : List PV → List RowS → Option R) : callC T F k 16 [.val [(0, 0)] (.slice (.int .u8)) a0] [] K = f16 k a0 (fun z0 z1 => K [.val [] (.int .i64) z0, .val [] (.int .i64) z1] []) := by
  rw [f16_def]
  cases k with
  | zero => rfl
  | succ k =>
    refine Eq.trans (show _ = exec T an16 (modesOf F) 0 k 9 (callC T F k) (ending T Try.f16 an16 0 K) (bodyOf Try.f16) ⟨argEnv 0 [.val [(0, 0)] (.slice (.int .u8)) a0] (fun _ => none), rowsOf []⟩ (ending T Try.f16 an16 0 K) (fun _ _ => none) from by kernel_rfl) ?_
    rw [← S16_eq k, ← execS_eq T an16 (modesOf F) 0 k 9 (S16 k) (fun _ _ _ _ _ => none) (bodyOf Try.f16) (cuts_of _ _ _ _ _ _ _ _ (bodyOf Try.f16) (l := []) (by kernel_rfl) trivial)]
    kernel_rfl
noncomputable def s16 (k : Nat) (a : List PV) (r : List RowS) (K : List PV → List RowS → Option R) : Option R :=
  onShape [.val [(0, 0)] (.slice (.int .u8))] [] (fun v => f16 k v.1.1 (fun z0 z1 => K [.val [] (.int .i64) z0, .val [] (.int .i64) z1] [])) (callC T F k 16 a r K) a r
theorem s16_eq (k : Nat) (a : List PV) (r : List RowS) (K : List PV → List RowS → Option R) : s16 k a r K = callC T F k 16 a r K := by
  unfold s16
  exact onShape_eq (a := [.val [(0, 0)] (.slice (.int .u8))]) (b := []) (G := fun a r => callC T F k 16 a r K) (fun x y => Eq.trans (by kernel_rfl) (Eq.trans (e16 k x.1 K).symm (by kernel_rfl))) a r
end
section
variable {R : Type}
noncomputable def S13 (k g : Nat) (a : List PV) (r : List RowS) (K : List PV → List RowS → Option R) : Option R := bif g == 16 then s16 k a r K else callC T F k g a r K
theorem S13_eq (k : Nat) : S13 (R := R) k = callC T F k := by
  funext g a r K
  exact pick_eq (fun e => by subst e; exact s16_eq k a r K) (rfl)
theorem e13 (k : Nat) (K : List PV → List RowS → Option R) : callC T F k 13 [] [] K = f13 k (fun z0 => K [.val [] .bool z0] []) := by
  rw [f13_def]
  cases k with
  | zero => rfl
  | succ k =>
    refine Eq.trans (show _ = exec T an13 (modesOf F) 0 k 15 (callC T F k) (ending T Try.f13 an13 0 K) (bodyOf Try.f13) ⟨argEnv 0 [] (fun _ => none), rowsOf []⟩ (ending T Try.f13 an13 0 K) (fun _ _ => none) from by kernel_rfl) ?_
    rw [← S13_eq k, ← execS_eq T an13 (modesOf F) 0 k 15 (S13 k) (fun _ _ _ _ _ => none) (bodyOf Try.f13) (cuts_of _ _ _ _ _ _ _ _ (bodyOf Try.f13) (l := []) (by kernel_rfl) trivial)]
    kernel_rfl
noncomputable def s13 (k : Nat) (a : List PV) (r : List RowS) (K : List PV → List RowS → Option R) : Option R :=
  onShape [] [] (fun v => f13 k (fun z0 => K [.val [] .bool z0] [])) (callC T F k 13 a r K) a r
theorem s13_eq (k : Nat) (a : List PV) (r : List RowS) (K : List PV → List RowS → Option R) : s13 k a r K = callC T F k 13 a r K := by
  unfold s13
  exact onShape_eq (a := []) (b := []) (G := fun a r => callC T F k 13 a r K) (fun x y => Eq.trans (by kernel_rfl) (Eq.trans (e13 k K).symm (by kernel_rfl))) a r
end
section
variable {R : Type}
noncomputable def S5 (k g : Nat) (a : List PV) (r : List RowS) (K : List PV → List RowS → Option R) : Option R := bif g == 13 then s13 k a r K else bif g == 18 then s18 k a r K else bif g == 19 then s19 k a r K else bif g == 20 then s20 k a r K else bif g == 21 then s21 k a r K else bif g == 22 then s22 k a r K else bif g == 23 then s23 k a r K else callC T F k g a r K
theorem S5_eq (k : Nat) : S5 (R := R) k = callC T F k := by
  funext g a r K
  exact pick_eq (fun e => by subst e; exact s13_eq k a r K) (pick_eq (fun e => by subst e; exact s18_eq k a r K) (pick_eq (fun e => by subst e; exact s19_eq k a r K) (pick_eq (fun e => by subst e; exact s20_eq k a r K) (pick_eq (fun e => by subst e; exact s21_eq k a r K) (pick_eq (fun e => by subst e; exact s22_eq k a r K) (pick_eq (fun e => by subst e; exact s23_eq k a r K) (rfl)))))))
theorem e5 (k : Nat) (a0 : Int) (a1 : Int) (a2 : Bool) (a3 : ByteArray) (a4 : Int) (a5 : Bool) (a6 : List Int) (a7 : List Int) (K : List PV → List RowS → Option R) : callC T F k 5 [.val [] (.int .i64) a0, .agg [.val [] (.int .i64) a1, .val [] .bool a2, .val [] .str a3, .val [] (.int .i64) a4, .val [] .bool a5, .val [(0, 0)] (.slice (.int .u8)) a6], .val [(0, 0)] (.slice (.int .u8)) a7] [] K = f5 k a0 a1 a2 a3 a4 a5 a6 a7 (fun z0 => K [.val [] .bool z0] []) := by
  rw [f5_def]
  cases k with
  | zero => rfl
  | succ k =>
    refine Eq.trans (show _ = exec T an5 (modesOf F) 0 k 67 (callC T F k) (ending T Try.f5 an5 0 K) (bodyOf Try.f5) ⟨argEnv 0 [.val [] (.int .i64) a0, .agg [.val [] (.int .i64) a1, .val [] .bool a2, .val [] .str a3, .val [] (.int .i64) a4, .val [] .bool a5, .val [(0, 0)] (.slice (.int .u8)) a6], .val [(0, 0)] (.slice (.int .u8)) a7] (fun _ => none), rowsOf []⟩ (ending T Try.f5 an5 0 K) (fun _ _ => none) from by kernel_rfl) ?_
    rw [← S5_eq k, ← execS_eq T an5 (modesOf F) 0 k 67 (S5 k) (fun _ _ _ _ _ => none) (bodyOf Try.f5) (cuts_of _ _ _ _ _ _ _ _ (bodyOf Try.f5) (l := []) (by kernel_rfl) trivial)]
    kernel_rfl
noncomputable def s5 (k : Nat) (a : List PV) (r : List RowS) (K : List PV → List RowS → Option R) : Option R :=
  onShape [.val [] (.int .i64), .agg [.val [] (.int .i64), .val [] .bool, .val [] .str, .val [] (.int .i64), .val [] .bool, .val [(0, 0)] (.slice (.int .u8))], .val [(0, 0)] (.slice (.int .u8))] [] (fun v => f5 k v.1.1 v.1.2.1.1 v.1.2.1.2.1 v.1.2.1.2.2.1 v.1.2.1.2.2.2.1 v.1.2.1.2.2.2.2.1 v.1.2.1.2.2.2.2.2.1 v.1.2.2.1 (fun z0 => K [.val [] .bool z0] [])) (callC T F k 5 a r K) a r
theorem s5_eq (k : Nat) (a : List PV) (r : List RowS) (K : List PV → List RowS → Option R) : s5 k a r K = callC T F k 5 a r K := by
  unfold s5
  exact onShape_eq (a := [.val [] (.int .i64), .agg [.val [] (.int .i64), .val [] .bool, .val [] .str, .val [] (.int .i64), .val [] .bool, .val [(0, 0)] (.slice (.int .u8))], .val [(0, 0)] (.slice (.int .u8))]) (b := []) (G := fun a r => callC T F k 5 a r K) (fun x y => Eq.trans (by kernel_rfl) (Eq.trans (e5 k x.1 x.2.1.1 x.2.1.2.1 x.2.1.2.2.1 x.2.1.2.2.2.1 x.2.1.2.2.2.2.1 x.2.1.2.2.2.2.2.1 x.2.2.1 K).symm (by kernel_rfl))) a r
end
section
variable {R : Type}
theorem e24 (k : Nat) (a0 : List Int) (K : List PV → List RowS → Option R) : callC T F k 24 [.val [(0, 0)] (.slice (.int .u8)) a0] [] K = f24 k a0 (fun z0 => K [.rw 1] [⟨0, .arr [] (.int .u8) z0⟩]) := by
  rw [f24_def]
  cases k with
  | zero => rfl
  | succ k => exact clone_call (m := [.lend (.int .u8)]) (ty := (.int .u8)) (bytes := 1) (by kernel_rfl) a0 K
noncomputable def s24 (k : Nat) (a : List PV) (r : List RowS) (K : List PV → List RowS → Option R) : Option R :=
  onShape [.val [(0, 0)] (.slice (.int .u8))] [] (fun v => f24 k v.1.1 (fun z0 => K [.rw 1] [⟨0, .arr [] (.int .u8) z0⟩])) (callC T F k 24 a r K) a r
theorem s24_eq (k : Nat) (a : List PV) (r : List RowS) (K : List PV → List RowS → Option R) : s24 k a r K = callC T F k 24 a r K := by
  unfold s24
  exact onShape_eq (a := [.val [(0, 0)] (.slice (.int .u8))]) (b := []) (G := fun a r => callC T F k 24 a r K) (fun x y => Eq.trans (by kernel_rfl) (Eq.trans (e24 k x.1 K).symm (by kernel_rfl))) a r
end
section
variable {R : Type}
noncomputable def S6 (k g : Nat) (a : List PV) (r : List RowS) (K : List PV → List RowS → Option R) : Option R := bif g == 13 then s13 k a r K else bif g == 18 then s18 k a r K else bif g == 20 then s20 k a r K else bif g == 23 then s23 k a r K else bif g == 24 then s24 k a r K else callC T F k g a r K
theorem S6_eq (k : Nat) : S6 (R := R) k = callC T F k := by
  funext g a r K
  exact pick_eq (fun e => by subst e; exact s13_eq k a r K) (pick_eq (fun e => by subst e; exact s18_eq k a r K) (pick_eq (fun e => by subst e; exact s20_eq k a r K) (pick_eq (fun e => by subst e; exact s23_eq k a r K) (pick_eq (fun e => by subst e; exact s24_eq k a r K) (rfl)))))
theorem e6 (k : Nat) (a0 : Int) (a1 : Int) (a2 : Bool) (a3 : ByteArray) (a4 : Int) (a5 : Bool) (a6 : List Int) (a7 : Int) (K : List PV → List RowS → Option R) : callC T F k 6 [.val [] (.int .i64) a0, .agg [.val [] (.int .i64) a1, .val [] .bool a2, .val [] .str a3, .val [] (.int .i64) a4, .val [] .bool a5, .val [(0, 0)] (.slice (.int .u8)) a6], .val [] (.int .i64) a7] [] K = f6 k a0 a1 a2 a3 a4 a5 a6 a7 (fun z0 => K [.val [] .bool z0] []) := by
  rw [f6_def]
  cases k with
  | zero => rfl
  | succ k =>
    refine Eq.trans (show _ = exec T an6 (modesOf F) 0 k 86 (callC T F k) (ending T Try.f6 an6 0 K) (bodyOf Try.f6) ⟨argEnv 0 [.val [] (.int .i64) a0, .agg [.val [] (.int .i64) a1, .val [] .bool a2, .val [] .str a3, .val [] (.int .i64) a4, .val [] .bool a5, .val [(0, 0)] (.slice (.int .u8)) a6], .val [] (.int .i64) a7] (fun _ => none), rowsOf []⟩ (ending T Try.f6 an6 0 K) (fun _ _ => none) from by kernel_rfl) ?_
    rw [← S6_eq k, ← execS_eq T an6 (modesOf F) 0 k 86 (S6 k) (fun _ _ _ _ _ => none) (bodyOf Try.f6) (cuts_of _ _ _ _ _ _ _ _ (bodyOf Try.f6) (l := []) (by kernel_rfl) trivial)]
    kernel_rfl
noncomputable def s6 (k : Nat) (a : List PV) (r : List RowS) (K : List PV → List RowS → Option R) : Option R :=
  onShape [.val [] (.int .i64), .agg [.val [] (.int .i64), .val [] .bool, .val [] .str, .val [] (.int .i64), .val [] .bool, .val [(0, 0)] (.slice (.int .u8))], .val [] (.int .i64)] [] (fun v => f6 k v.1.1 v.1.2.1.1 v.1.2.1.2.1 v.1.2.1.2.2.1 v.1.2.1.2.2.2.1 v.1.2.1.2.2.2.2.1 v.1.2.1.2.2.2.2.2.1 v.1.2.2.1 (fun z0 => K [.val [] .bool z0] [])) (callC T F k 6 a r K) a r
theorem s6_eq (k : Nat) (a : List PV) (r : List RowS) (K : List PV → List RowS → Option R) : s6 k a r K = callC T F k 6 a r K := by
  unfold s6
  exact onShape_eq (a := [.val [] (.int .i64), .agg [.val [] (.int .i64), .val [] .bool, .val [] .str, .val [] (.int .i64), .val [] .bool, .val [(0, 0)] (.slice (.int .u8))], .val [] (.int .i64)]) (b := []) (G := fun a r => callC T F k 6 a r K) (fun x y => Eq.trans (by kernel_rfl) (Eq.trans (e6 k x.1 x.2.1.1 x.2.1.2.1 x.2.1.2.2.1 x.2.1.2.2.2.1 x.2.1.2.2.2.2.1 x.2.1.2.2.2.2.2.1 x.2.2.1 K).symm (by kernel_rfl))) a r
end
end Go.Proofs.Ytecnlienmpdlaaa.PM
