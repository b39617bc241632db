/- The small machine's run is the typed form (printed by a program of this work). -/
import Derived.Test.YtlcklflbhhnnhaaPA0
set_option linter.unusedVariables false
set_option linter.unusedSimpArgs false
set_option maxRecDepth 100000
namespace Go.Proofs.Ytlcklflbhhnnhaa.PM
open Go
noncomputable def F : Nat → Option PFn := findN [(66, .code Try.f66 an66), (22, .code Try.f22 an22), (68, .code Try.f68 an68), (76, .code Try.f76 an76), (77, .ext [.lend (.int .u8)] (cloneSpec (.int .u8) 1)), (25, .code Try.f25 an25), (53, .code Try.f53 an53), (123, .code Try.f123 an123), (119, .code Try.f119 an119), (135, .ext [.lend (.int .u8), .any] repSpec), (87, .code Try.f87 an87), (132, .code Try.f132 an132), (114, .code Try.f114 an114), (115, .ext [.any, .any] (sortSpec 116)), (86, .code Try.f86 an86), (120, .code Try.f120 an120), (95, .code Try.f95 an95), (64, .code Try.f64 an64), (104, .code Try.f104 an104), (131, .code Try.f131 an131), (112, .code Try.f112 an112), (92, .code Try.f92 an92), (124, .code Try.f124 an124), (71, .code Try.f71 an71), (117, .code Try.f117 an117), (90, .code Try.f90 an90), (107, .code Try.f107 an107), (109, .ext [.lend (.prod (.int .i64) (.prod (.int .i64) .unit))] (cloneSpec (.prod (.int .i64) (.prod (.int .i64) .unit)) 16)), (128, .code Try.f128 an128), (108, .code Try.f108 an108), (79, .code Try.f79 an79), (82, .code Try.f82 an82), (100, .code Try.f100 an100), (59, .code Try.f59 an59), (70, .code Try.f70 an70), (69, .code Try.f69 an69), (125, .code Try.f125 an125), (101, .code Try.f101 an101), (60, .code Try.f60 an60), (18, .code Try.f18 an18), (24, .code Try.f24 an24), (16, .code Try.f16 an16)]
section
variable {R : Type}
noncomputable def S66 (k g : Nat) (a : List PV) (r : List RowS) (K : List PV → List RowS → Option R) : Option R := callC T F k g a r K
theorem S66_eq (k : Nat) : S66 (R := R) k = callC T F k := by
 funext g a r K
 exact rfl
theorem e66 (k : Nat) (a0 : Int) (a1 : Int) (a2 : Int) (K : List PV → List RowS → Option R) : callC T F k 66 [zi a0, zi a1, zi a2] [] K = f66 k a0 a1 a2 (fun z0 => K [.val [] .bool z0] []) := by
 rw [f66_def]
 cases k with
 | zero => rfl
 | succ k =>
   refine Eq.trans (show _ = exec T an66 (modesOf F) 0 k 15 (callC T F k) (ending T Try.f66 an66 0 K) (bodyOf Try.f66) ⟨argEnv 0 [zi a0, zi a1, zi a2] (fun _ => none), rowsOf []⟩ (ending T Try.f66 an66 0 K) (fun _ _ => none) from by kernel_rfl) ?_
   rw [← S66_eq k, ← execS_eq T an66 (modesOf F) 0 k 15 (S66 k) (fun _ _ _ _ _ => none) (bodyOf Try.f66) (cuts_of _ _ _ _ _ _ _ _ (bodyOf Try.f66) (l := []) (by kernel_rfl) trivial)]
   kernel_rfl
noncomputable def s66 (k : Nat) (a : List PV) (r : List RowS) (K : List PV → List RowS → Option R) : Option R :=
 onShape [.val [] (.int .i64), .val [] (.int .i64), .val [] (.int .i64)] [] (fun v => f66 k v.1.1 v.1.2.1 v.1.2.2.1 (fun z0 => K [.val [] .bool z0] [])) (callC T F k 66 a r K) a r
theorem s66_eq (k : Nat) (a : List PV) (r : List RowS) (K : List PV → List RowS → Option R) : s66 k a r K = callC T F k 66 a r K := by
 unfold s66
 exact onShape_eq (a := [.val [] (.int .i64), .val [] (.int .i64), .val [] (.int .i64)]) (b := []) (G := fun a r => callC T F k 66 a r K) (fun x y => Eq.trans (by kernel_rfl) (Eq.trans (e66 k x.1 x.2.1 x.2.2.1 K).symm (by kernel_rfl))) a r
end
section
variable {R : Type}
noncomputable def S22 (k g : Nat) (a : List PV) (r : List RowS) (K : List PV → List RowS → Option R) : Option R := bif g == 66 then s66 k a r K else callC T F k g a r K
theorem S22_eq (k : Nat) : S22 (R := R) k = callC T F k := by
 funext g a r K
 exact pick_eq (fun e => by subst e; exact s66_eq k a r K) (rfl)
theorem e22 (k : Nat) (a0 : Int) (a1 : Int) (a2 : Int) (a3 : Int) (a4 : Int) (K : List PV → List RowS → Option R) : callC T F k 22 [.agg [zi a0, zi a1, zi a2, zi a3, zi a4]] [] K = f22 k a0 a1 a2 a3 a4 (fun z0 => K [zi z0] []) := by
 rw [f22_def]
 cases k with
 | zero => rfl
 | succ k =>
   refine Eq.trans (show _ = exec T an22 (modesOf F) 0 k 31 (callC T F k) (ending T Try.f22 an22 0 K) (bodyOf Try.f22) ⟨argEnv 0 [.agg [zi a0, zi a1, zi a2, zi a3, zi a4]] (fun _ => none), rowsOf []⟩ (ending T Try.f22 an22 0 K) (fun _ _ => none) from by kernel_rfl) ?_
   rw [← S22_eq k, ← execS_eq T an22 (modesOf F) 0 k 31 (S22 k) (fun _ _ _ _ _ => none) (bodyOf Try.f22) (cuts_of _ _ _ _ _ _ _ _ (bodyOf Try.f22) (l := []) (by kernel_rfl) trivial)]
   kernel_rfl
noncomputable def s22 (k : Nat) (a : List PV) (r : List RowS) (K : List PV → List RowS → Option R) : Option R :=
 onShape [.agg [.val [] (.int .i64), .val [] (.int .i64), .val [] (.int .i64), .val [] (.int .i64), .val [] (.int .i64)]] [] (fun v => f22 k v.1.1.1 v.1.1.2.1 v.1.1.2.2.1 v.1.1.2.2.2.1 v.1.1.2.2.2.2.1 (fun z0 => K [zi z0] [])) (callC T F k 22 a r K) a r
theorem s22_eq (k : Nat) (a : List PV) (r : List RowS) (K : List PV → List RowS → Option R) : s22 k a r K = callC T F k 22 a r K := by
 unfold s22
 exact onShape_eq (a := [.agg [.val [] (.int .i64), .val [] (.int .i64), .val [] (.int .i64), .val [] (.int .i64), .val [] (.int .i64)]]) (b := []) (G := fun a r => callC T F k 22 a r K) (fun x y => Eq.trans (by kernel_rfl) (Eq.trans (e22 k x.1.1 x.1.2.1 x.1.2.2.1 x.1.2.2.2.1 x.1.2.2.2.2.1 K).symm (by kernel_rfl))) a r
end
section
variable {R : Type}
noncomputable def S68 (k g : Nat) (a : List PV) (r : List RowS) (K : List PV → List RowS → Option R) : Option R := callC T F k g a r K
theorem S68_eq (k : Nat) : S68 (R := R) k = callC T F k := by
 funext g a r K
 exact rfl
section
variable {R : Type} (k : Nat) (K : List PV → List RowS → Option R)
noncomputable def L68_0 (ws : List PV) (rs : List RowS) (N : St → Option R) (X : Nat → St → Option R) : Option R :=
 onShape [.val [] .str, .val [] (.int .i64), .val [] (.int .i64)] [] (fun v => f68_0 k (fun z0 => K [.val [] .bool z0] []) (N (sh jn68_0 [] [])) v.1.1 v.1.2.1 k v.1.2.2.1) (inner T an68 (modesOf F) 0 k 47 (S68 k) (ending T Try.f68 an68 0 K) cd68_0 (sh sp68_0 ws rs) N X) ws rs
noncomputable def L68 (id : Nat) (ws : List PV) (rs : List RowS) (N : St → Option R) (X : Nat → St → Option R) : Option R := bif id == 0 then L68_0 k K ws rs N X else none
theorem b68_0 (rec : St → Option R) (N : St → Option R) (X : Nat → St → Option R) (v0_0 : ByteArray) (v0_1 : Int) (v0_2 : Int) :
  execS T an68 (modesOf F) 0 k 47 (S68 k) (L68 k K) (ending T Try.f68 an68 0 K) bd68_0 (sh sp68_0 [.val [] .str v0_0, zi v0_1, zi v0_2] []) (fun st => atHead an68 0 bd68_0 st rec) (outX an68 0 0 N X) =
   f68_0b k (fun v0_2 => rec (sh sp68_0 [.val [] .str v0_0, zi v0_1, zi v0_2] [])) (fun z0 => K [.val [] .bool z0] []) (N (sh jn68_0 [] [])) v0_0 v0_1 v0_2 := by kernel_rfl
theorem i68_0 (N : St → Option R) (X : Nat → St → Option R) (v0_0 : ByteArray) (v0_1 : Int) (m : Nat) : ∀ (v0_2 : Int),
  iter (atHead an68 0 bd68_0) m (fun st N' => exec T an68 (modesOf F) 0 k 47 (S68 k) (ending T Try.f68 an68 0 K) bd68_0 st N' (outX an68 0 0 N X)) (sh sp68_0 [.val [] .str v0_0, zi v0_1, zi v0_2] []) = f68_0d k (fun z0 => K [.val [] .bool z0] []) (N (sh jn68_0 [] [])) v0_0 v0_1 m v0_2 := by
 induction m with
 | zero => intros; rfl
 | succ m ih =>
   intro v0_2
   simp only [iter]
   rw [← execS_eq T an68 (modesOf F) 0 k 47 (S68 k) (L68 k K) bd68_0 (cuts_of _ _ _ _ _ _ _ _ bd68_0 (l := []) (by kernel_rfl) trivial)]
   refine (b68_0 k K _ N X v0_0 v0_1 v0_2).trans ?_
   simp only [f68_0d, ih]
theorem l68_0 (ws : List PV) (rs : List RowS) (N : St → Option R) (X : Nat → St → Option R) : L68 k K 0 ws rs N X = inner T an68 (modesOf F) 0 k 47 (S68 k) (ending T Try.f68 an68 0 K) cd68_0 (sh sp68_0 ws rs) N X := by
 show L68_0 k K ws rs N X = _
 unfold L68_0
 rw [f68_0_def]
 exact onShape_eq (a := [.val [] .str, .val [] (.int .i64), .val [] (.int .i64)]) (b := []) (G := fun ws rs => inner T an68 (modesOf F) 0 k 47 (S68 k) (ending T Try.f68 an68 0 K) cd68_0 (sh sp68_0 ws rs) N X) (fun x y => Eq.trans (by kernel_rfl) (Eq.trans (i68_0 k K N X x.1 x.2.1 k x.2.2.1).symm (by kernel_rfl))) ws rs
end
theorem e68 (k : Nat) (a0 : ByteArray) (K : List PV → List RowS → Option R) : callC T F k 68 [.val [] .str a0] [] K = f68 k a0 (fun z0 => K [.val [] .bool z0] []) := by
 rw [f68_def]
 cases k with
 | zero => rfl
 | succ k =>
   refine Eq.trans (show _ = exec T an68 (modesOf F) 0 k 47 (callC T F k) (ending T Try.f68 an68 0 K) (bodyOf Try.f68) ⟨argEnv 0 [.val [] .str a0] (fun _ => none), rowsOf []⟩ (ending T Try.f68 an68 0 K) (fun _ _ => none) from by kernel_rfl) ?_
   rw [← S68_eq k, ← execS_eq T an68 (modesOf F) 0 k 47 (S68 k) (L68 k K) (bodyOf Try.f68) (cuts_of _ _ _ _ _ _ _ _ (bodyOf Try.f68) (l := [(0, sp68_0, cd68_0)]) (by kernel_rfl) ⟨l68_0 k K, trivial⟩)]
   kernel_rfl
noncomputable def s68 (k : Nat) (a : List PV) (r : List RowS) (K : List PV → List RowS → Option R) : Option R :=
 onShape [.val [] .str] [] (fun v => f68 k v.1.1 (fun z0 => K [.val [] .bool z0] [])) (callC T F k 68 a r K) a r
theorem s68_eq (k : Nat) (a : List PV) (r : List RowS) (K : List PV → List RowS → Option R) : s68 k a r K = callC T F k 68 a r K := by
 unfold s68
 exact onShape_eq (a := [.val [] .str]) (b := []) (G := fun a r => callC T F k 68 a r K) (fun x y => Eq.trans (by kernel_rfl) (Eq.trans (e68 k x.1 K).symm (by kernel_rfl))) a r
end
section
variable {R : Type}
noncomputable def S76 (k g : Nat) (a : List PV) (r : List RowS) (K : List PV → List RowS → Option R) : Option R := bif g == 66 then s66 k a r K else bif g == 68 then s68 k a r K else callC T F k g a r K
theorem S76_eq (k : Nat) : S76 (R := R) k = callC T F k := by
 funext g a r K
 exact pick_eq (fun e => by subst e; exact s66_eq k a r K) (pick_eq (fun e => by subst e; exact s68_eq k a r K) (rfl))
theorem e76 (k : Nat) (a0 : Int) (a1 : ByteArray) (a2 : List Int) (K : List PV → List RowS → Option R) : callC T F k 76 [zi a0, .val [] .str a1, .val [(0, 0)] zT2 a2] [] K = f76 k a0 a1 a2 (fun z0 => K [zi z0] []) := by
 rw [f76_def]
 cases k with
 | zero => rfl
 | succ k =>
   refine Eq.trans (show _ = exec T an76 (modesOf F) 0 k 19 (callC T F k) (ending T Try.f76 an76 0 K) (bodyOf Try.f76) ⟨argEnv 0 [zi a0, .val [] .str a1, .val [(0, 0)] zT2 a2] (fun _ => none), rowsOf []⟩ (ending T Try.f76 an76 0 K) (fun _ _ => none) from by kernel_rfl) ?_
   rw [← S76_eq k, ← execS_eq T an76 (modesOf F) 0 k 19 (S76 k) (fun _ _ _ _ _ => none) (bodyOf Try.f76) (cuts_of _ _ _ _ _ _ _ _ (bodyOf Try.f76) (l := []) (by kernel_rfl) trivial)]
   kernel_rfl
noncomputable def s76 (k : Nat) (a : List PV) (r : List RowS) (K : List PV → List RowS → Option R) : Option R :=
 onShape [.val [] (.int .i64), .val [] .str, .val [(0, 0)] zT2] [] (fun v => f76 k v.1.1 v.1.2.1 v.1.2.2.1 (fun z0 => K [zi z0] [])) (callC T F k 76 a r K) a r
theorem s76_eq (k : Nat) (a : List PV) (r : List RowS) (K : List PV → List RowS → Option R) : s76 k a r K = callC T F k 76 a r K := by
 unfold s76
 exact onShape_eq (a := [.val [] (.int .i64), .val [] .str, .val [(0, 0)] zT2]) (b := []) (G := fun a r => callC T F k 76 a r K) (fun x y => Eq.trans (by kernel_rfl) (Eq.trans (e76 k x.1 x.2.1 x.2.2.1 K).symm (by kernel_rfl))) a r
end
section
variable {R : Type}
theorem e77 (k : Nat) (a0 : List Int) (K : List PV → List RowS → Option R) : callC T F k 77 [.val [(0, 0)] zT2 a0] [] K = f77 k a0 (fun z0 => K [.rw 1] [⟨0, .arr [] (.int .u8) z0⟩]) := by
 rw [f77_def]
 cases k with
 | zero => rfl
 | succ k => exact clone_call (m := [.lend (.int .u8)]) (ty := (.int .u8)) (bytes := 1) (by kernel_rfl) a0 K
noncomputable def s77 (k : Nat) (a : List PV) (r : List RowS) (K : List PV → List RowS → Option R) : Option R :=
 onShape [.val [(0, 0)] zT2] [] (fun v => f77 k v.1.1 (fun z0 => K [.rw 1] [⟨0, .arr [] (.int .u8) z0⟩])) (callC T F k 77 a r K) a r
theorem s77_eq (k : Nat) (a : List PV) (r : List RowS) (K : List PV → List RowS → Option R) : s77 k a r K = callC T F k 77 a r K := by
 unfold s77
 exact onShape_eq (a := [.val [(0, 0)] zT2]) (b := []) (G := fun a r => callC T F k 77 a r K) (fun x y => Eq.trans (by kernel_rfl) (Eq.trans (e77 k x.1 K).symm (by kernel_rfl))) a r
end
section
variable {R : Type}
noncomputable def S25 (k g : Nat) (a : List PV) (r : List RowS) (K : List PV → List RowS → Option R) : Option R := bif g == 76 then s76 k a r K else bif g == 77 then s77 k a r K else callC T F k g a r K
theorem S25_eq (k : Nat) : S25 (R := R) k = callC T F k := by
 funext g a r K
 exact pick_eq (fun e => by subst e; exact s76_eq k a r K) (pick_eq (fun e => by subst e; exact s77_eq k a r K) (rfl))
theorem e25 (k : Nat) (a0 : Int) (a1 : ByteArray) (a2 : List Int) (K : List PV → List RowS → Option R) : callC T F k 25 [zi a0, .val [] .str a1, .val [(0, 0)] zT2 a2] [] K = f25 k a0 a1 a2 (fun z0 z1 z2 z3 z4 z5 z6 z7 => K [.agg [zi z0, zi z1, .val [] .str z2, .rw 1, zi z3, .nils, zi z4, zi z5], zi z6] [⟨0, .arr [] (.int .u8) z7⟩]) := by
 rw [f25_def]
 cases k with
 | zero => rfl
 | succ k =>
   refine Eq.trans (show _ = exec T an25 (modesOf F) 0 k 22 (callC T F k) (ending T Try.f25 an25 0 K) (bodyOf Try.f25) ⟨argEnv 0 [zi a0, .val [] .str a1, .val [(0, 0)] zT2 a2] (fun _ => none), rowsOf []⟩ (ending T Try.f25 an25 0 K) (fun _ _ => none) from by kernel_rfl) ?_
   rw [← S25_eq k, ← execS_eq T an25 (modesOf F) 0 k 22 (S25 k) (fun _ _ _ _ _ => none) (bodyOf Try.f25) (cuts_of _ _ _ _ _ _ _ _ (bodyOf Try.f25) (l := []) (by kernel_rfl) trivial)]
   kernel_rfl
noncomputable def s25 (k : Nat) (a : List PV) (r : List RowS) (K : List PV → List RowS → Option R) : Option R :=
 onShape [.val [] (.int .i64), .val [] .str, .val [(0, 0)] zT2] [] (fun v => f25 k v.1.1 v.1.2.1 v.1.2.2.1 (fun z0 z1 z2 z3 z4 z5 z6 z7 => K [.agg [zi z0, zi z1, .val [] .str z2, .rw 1, zi z3, .nils, zi z4, zi z5], zi z6] [⟨0, .arr [] (.int .u8) z7⟩])) (callC T F k 25 a r K) a r
theorem s25_eq (k : Nat) (a : List PV) (r : List RowS) (K : List PV → List RowS → Option R) : s25 k a r K = callC T F k 25 a r K := by
 unfold s25
 exact onShape_eq (a := [.val [] (.int .i64), .val [] .str, .val [(0, 0)] zT2]) (b := []) (G := fun a r => callC T F k 25 a r K) (fun x y => Eq.trans (by kernel_rfl) (Eq.trans (e25 k x.1 x.2.1 x.2.2.1 K).symm (by kernel_rfl))) a r
end
section
variable {R : Type}
noncomputable def S53 (k g : Nat) (a : List PV) (r : List RowS) (K : List PV → List RowS → Option R) : Option R := bif g == 66 then s66 k a r K else callC T F k g a r K
theorem S53_eq (k : Nat) : S53 (R := R) k = callC T F k := by
 funext g a r K
 exact pick_eq (fun e => by subst e; exact s66_eq k a r K) (rfl)
theorem e53 (k : Nat) (a0 : Int) (K : List PV → List RowS → Option R) : callC T F k 53 [zi a0] [] K = f53 k a0 (fun z0 z1 z2 z3 z4 z5 z6 z7 => K [.agg [zi z0, zi z1, .val [] .str z2, .nils, .nils, zi z3, zi z4, zi z5, zi z6], zi z7] []) := by
 rw [f53_def]
 cases k with
 | zero => rfl
 | succ k =>
   refine Eq.trans (show _ = exec T an53 (modesOf F) 0 k 10 (callC T F k) (ending T Try.f53 an53 0 K) (bodyOf Try.f53) ⟨argEnv 0 [zi a0] (fun _ => none), rowsOf []⟩ (ending T Try.f53 an53 0 K) (fun _ _ => none) from by kernel_rfl) ?_
   rw [← S53_eq k, ← execS_eq T an53 (modesOf F) 0 k 10 (S53 k) (fun _ _ _ _ _ => none) (bodyOf Try.f53) (cuts_of _ _ _ _ _ _ _ _ (bodyOf Try.f53) (l := []) (by kernel_rfl) trivial)]
   kernel_rfl
noncomputable def s53 (k : Nat) (a : List PV) (r : List RowS) (K : List PV → List RowS → Option R) : Option R :=
 onShape [.val [] (.int .i64)] [] (fun v => f53 k v.1.1 (fun z0 z1 z2 z3 z4 z5 z6 z7 => K [.agg [zi z0, zi z1, .val [] .str z2, .nils, .nils, zi z3, zi z4, zi z5, zi z6], zi z7] [])) (callC T F k 53 a r K) a r
theorem s53_eq (k : Nat) (a : List PV) (r : List RowS) (K : List PV → List RowS → Option R) : s53 k a r K = callC T F k 53 a r K := by
 unfold s53
 exact onShape_eq (a := [.val [] (.int .i64)]) (b := []) (G := fun a r => callC T F k 53 a r K) (fun x y => Eq.trans (by kernel_rfl) (Eq.trans (e53 k x.1 K).symm (by kernel_rfl))) a r
end
section
variable {R : Type}
noncomputable def S123 (k g : Nat) (a : List PV) (r : List RowS) (K : List PV → List RowS → Option R) : Option R := callC T F k g a r K
theorem S123_eq (k : Nat) : S123 (R := R) k = callC T F k := by
 funext g a r K
 exact rfl
section
variable {R : Type} (k : Nat) (K : List PV → List RowS → Option R)
noncomputable def L123_0 (ws : List PV) (rs : List RowS) (N : St → Option R) (X : Nat → St → Option R) : Option R :=
 onShape [.ptr 1 22, .val [] (.int .i64), .rw 6] [.vars [.val [] (.int .i64), .val [] (.int .i64), .val [] (.int .i64), .val [] (.int .i64), .val [] (.int .i64), .val [] (.int .i64), .val [] (.int .i64), .val [] .str, .val [(0, 0)] zT2, .val [] (.int .i64), .val [(0, 0)] zT1, .val [] (.int .i64), .val [] (.int .i64), .val [] (.int .i64), .val [] (.int .i64), .val [] .str, .val [(0, 0)] zT2, .val [(0, 0)] zT1, .val [] (.int .i64), .val [] (.int .i64), .val [] (.int .i64), .val [] (.int .i64), .val [(0, 0)] zT3, .val [] (.int .i64), .rw 4, .val [(0, 0)] zT3, .val [] (.int .i64), .rw 5, .val [] (.int .i64)], .gone, .gone, .arr [(0, 0)] (.prod (.int .i64) (.prod (.prod (.int .i64) (.prod (.int .i64) (.prod .str (.prod (.int .i64) (.prod (.int .i64) (.prod (.int .i64) (.prod zT2 (.prod zT1 (.prod .bool .unit))))))))) .unit)), .arr [(0, 0)] (.prod (.int .i64) (.prod (.prod (.int .i64) (.prod (.int .i64) (.prod .str (.prod (.int .i64) (.prod (.int .i64) (.prod (.int .i64) (.prod zT2 (.prod zT1 (.prod .bool .unit))))))))) .unit)), .arr [(0, 0)] (.prod (.int .i64) (.prod (.int .i64) (.prod .str (.prod (.int .i64) (.prod (.int .i64) (.prod (.int .i64) (.prod zT2 (.prod zT1 (.prod .bool .unit)))))))))] (fun v => f123_0 k (fun y0_27 y0_29 => N (sh jn123_0 [.rw 6] [⟨0, .vars [zi v.2.1.1, zi v.2.1.2.1, zi v.2.1.2.2.1, zi v.2.1.2.2.2.1, zi v.2.1.2.2.2.2.1, zi v.2.1.2.2.2.2.2.1, zi v.2.1.2.2.2.2.2.2.1, .val [] .str v.2.1.2.2.2.2.2.2.2.1, .val [(0, 0)] zT2 v.2.1.2.2.2.2.2.2.2.2.1, zi v.2.1.2.2.2.2.2.2.2.2.2.1, .val [(0, 0)] zT1 v.2.1.2.2.2.2.2.2.2.2.2.2.1, zi v.2.1.2.2.2.2.2.2.2.2.2.2.2.1, zi v.2.1.2.2.2.2.2.2.2.2.2.2.2.2.1, zi v.2.1.2.2.2.2.2.2.2.2.2.2.2.2.2.1, zi v.2.1.2.2.2.2.2.2.2.2.2.2.2.2.2.2.1, .val [] .str v.2.1.2.2.2.2.2.2.2.2.2.2.2.2.2.2.2.1, .val [(0, 0)] zT2 v.2.1.2.2.2.2.2.2.2.2.2.2.2.2.2.2.2.2.1, .val [(0, 0)] zT1 v.2.1.2.2.2.2.2.2.2.2.2.2.2.2.2.2.2.2.2.1, zi v.2.1.2.2.2.2.2.2.2.2.2.2.2.2.2.2.2.2.2.2.1, zi v.2.1.2.2.2.2.2.2.2.2.2.2.2.2.2.2.2.2.2.2.2.1, zi v.2.1.2.2.2.2.2.2.2.2.2.2.2.2.2.2.2.2.2.2.2.2.1, zi v.2.1.2.2.2.2.2.2.2.2.2.2.2.2.2.2.2.2.2.2.2.2.2.1, .val [(0, 0)] zT3 v.2.1.2.2.2.2.2.2.2.2.2.2.2.2.2.2.2.2.2.2.2.2.2.2.1, zi v.2.1.2.2.2.2.2.2.2.2.2.2.2.2.2.2.2.2.2.2.2.2.2.2.2.1, .rw 4, .val [(0, 0)] zT3 v.2.1.2.2.2.2.2.2.2.2.2.2.2.2.2.2.2.2.2.2.2.2.2.2.2.2.2.1, zi v.2.1.2.2.2.2.2.2.2.2.2.2.2.2.2.2.2.2.2.2.2.2.2.2.2.2.2.2.1, .rw 5, zi v.2.1.2.2.2.2.2.2.2.2.2.2.2.2.2.2.2.2.2.2.2.2.2.2.2.2.2.2.2.2.1]⟩, ⟨0, .gone⟩, ⟨0, .gone⟩, ⟨0, .arr [(0, 0)] (.prod (.int .i64) (.prod (.prod (.int .i64) (.prod (.int .i64) (.prod .str (.prod (.int .i64) (.prod (.int .i64) (.prod (.int .i64) (.prod zT2 (.prod zT1 (.prod .bool .unit))))))))) .unit)) y0_27⟩, ⟨0, .arr [(0, 0)] (.prod (.int .i64) (.prod (.prod (.int .i64) (.prod (.int .i64) (.prod .str (.prod (.int .i64) (.prod (.int .i64) (.prod (.int .i64) (.prod zT2 (.prod zT1 (.prod .bool .unit))))))))) .unit)) v.2.2.2.2.2.1⟩, ⟨0, .arr [(0, 0)] (.prod (.int .i64) (.prod (.int .i64) (.prod .str (.prod (.int .i64) (.prod (.int .i64) (.prod (.int .i64) (.prod zT2 (.prod zT1 (.prod .bool .unit))))))))) y0_29⟩])) v.1.2.1 v.2.1.1 v.2.1.2.1 v.2.1.2.2.1 v.2.1.2.2.2.1 v.2.1.2.2.2.2.1 v.2.1.2.2.2.2.2.1 v.2.1.2.2.2.2.2.2.1 v.2.1.2.2.2.2.2.2.2.1 v.2.1.2.2.2.2.2.2.2.2.1 v.2.1.2.2.2.2.2.2.2.2.2.1 v.2.1.2.2.2.2.2.2.2.2.2.2.1 v.2.1.2.2.2.2.2.2.2.2.2.2.2.1 v.2.1.2.2.2.2.2.2.2.2.2.2.2.2.1 v.2.1.2.2.2.2.2.2.2.2.2.2.2.2.2.1 v.2.1.2.2.2.2.2.2.2.2.2.2.2.2.2.2.1 v.2.1.2.2.2.2.2.2.2.2.2.2.2.2.2.2.2.1 v.2.1.2.2.2.2.2.2.2.2.2.2.2.2.2.2.2.2.1 v.2.1.2.2.2.2.2.2.2.2.2.2.2.2.2.2.2.2.2.1 v.2.1.2.2.2.2.2.2.2.2.2.2.2.2.2.2.2.2.2.2.1 v.2.1.2.2.2.2.2.2.2.2.2.2.2.2.2.2.2.2.2.2.2.1 v.2.1.2.2.2.2.2.2.2.2.2.2.2.2.2.2.2.2.2.2.2.2.1 v.2.1.2.2.2.2.2.2.2.2.2.2.2.2.2.2.2.2.2.2.2.2.2.1 v.2.1.2.2.2.2.2.2.2.2.2.2.2.2.2.2.2.2.2.2.2.2.2.2.1 v.2.1.2.2.2.2.2.2.2.2.2.2.2.2.2.2.2.2.2.2.2.2.2.2.2.1 v.2.1.2.2.2.2.2.2.2.2.2.2.2.2.2.2.2.2.2.2.2.2.2.2.2.2.2.1 v.2.1.2.2.2.2.2.2.2.2.2.2.2.2.2.2.2.2.2.2.2.2.2.2.2.2.2.2.1 v.2.1.2.2.2.2.2.2.2.2.2.2.2.2.2.2.2.2.2.2.2.2.2.2.2.2.2.2.2.2.1 v.2.2.2.2.2.1 k v.2.2.2.2.1 v.2.2.2.2.2.2.1) (inner T an123 (modesOf F) 3 k 42 (S123 k) (ending T Try.f123 an123 3 K) cd123_0 (sh sp123_0 ws rs) N X) ws rs
noncomputable def L123 (id : Nat) (ws : List PV) (rs : List RowS) (N : St → Option R) (X : Nat → St → Option R) : Option R := bif id == 0 then L123_0 k K ws rs N X else none
theorem b123_0 (rec : St → Option R) (N : St → Option R) (X : Nat → St → Option R) (v0_0 : Int) (v0_1 : Int) (v0_2 : Int) (v0_3 : Int) (v0_4 : Int) (v0_5 : Int) (v0_6 : Int) (v0_7 : Int) (v0_8 : ByteArray) (v0_9 : List Int) (v0_10 : Int) (v0_11 : zL5) (v0_12 : Int) (v0_13 : Int) (v0_14 : Int) (v0_15 : Int) (v0_16 : ByteArray) (v0_17 : List Int) (v0_18 : zL5) (v0_19 : Int) (v0_20 : Int) (v0_21 : Int) (v0_22 : Int) (v0_23 : List Bool) (v0_24 : Int) (v0_25 : List Bool) (v0_26 : Int) (v0_27 : Int) (v0_29 : zL1) (v0_28 : zL1) (v0_30 : zL3) :
  execS T an123 (modesOf F) 3 k 42 (S123 k) (L123 k K) (ending T Try.f123 an123 3 K) bd123_0 (sh sp123_0 [.ptr 1 22, zi v0_0, .rw 6] [⟨0, .vars [zi v0_1, zi v0_2, zi v0_3, zi v0_4, zi v0_5, zi v0_6, zi v0_7, .val [] .str v0_8, .val [(0, 0)] zT2 v0_9, zi v0_10, .val [(0, 0)] zT1 v0_11, zi v0_12, zi v0_13, zi v0_14, zi v0_15, .val [] .str v0_16, .val [(0, 0)] zT2 v0_17, .val [(0, 0)] zT1 v0_18, zi v0_19, zi v0_20, zi v0_21, zi v0_22, .val [(0, 0)] zT3 v0_23, zi v0_24, .rw 4, .val [(0, 0)] zT3 v0_25, zi v0_26, .rw 5, zi v0_27]⟩, ⟨0, .gone⟩, ⟨0, .gone⟩, ⟨0, .arr [(0, 0)] (.prod (.int .i64) (.prod (.prod (.int .i64) (.prod (.int .i64) (.prod .str (.prod (.int .i64) (.prod (.int .i64) (.prod (.int .i64) (.prod zT2 (.prod zT1 (.prod .bool .unit))))))))) .unit)) v0_28⟩, ⟨0, .arr [(0, 0)] (.prod (.int .i64) (.prod (.prod (.int .i64) (.prod (.int .i64) (.prod .str (.prod (.int .i64) (.prod (.int .i64) (.prod (.int .i64) (.prod zT2 (.prod zT1 (.prod .bool .unit))))))))) .unit)) v0_29⟩, ⟨0, .arr [(0, 0)] (.prod (.int .i64) (.prod (.int .i64) (.prod .str (.prod (.int .i64) (.prod (.int .i64) (.prod (.int .i64) (.prod zT2 (.prod zT1 (.prod .bool .unit))))))))) v0_30⟩]) (fun st => atHead an123 3 bd123_0 st rec) (outX an123 3 0 N X) =
   f123_0b k (fun v0_28 v0_30 => rec (sh sp123_0 [.ptr 1 22, zi v0_0, .rw 6] [⟨0, .vars [zi v0_1, zi v0_2, zi v0_3, zi v0_4, zi v0_5, zi v0_6, zi v0_7, .val [] .str v0_8, .val [(0, 0)] zT2 v0_9, zi v0_10, .val [(0, 0)] zT1 v0_11, zi v0_12, zi v0_13, zi v0_14, zi v0_15, .val [] .str v0_16, .val [(0, 0)] zT2 v0_17, .val [(0, 0)] zT1 v0_18, zi v0_19, zi v0_20, zi v0_21, zi v0_22, .val [(0, 0)] zT3 v0_23, zi v0_24, .rw 4, .val [(0, 0)] zT3 v0_25, zi v0_26, .rw 5, zi v0_27]⟩, ⟨0, .gone⟩, ⟨0, .gone⟩, ⟨0, .arr [(0, 0)] (.prod (.int .i64) (.prod (.prod (.int .i64) (.prod (.int .i64) (.prod .str (.prod (.int .i64) (.prod (.int .i64) (.prod (.int .i64) (.prod zT2 (.prod zT1 (.prod .bool .unit))))))))) .unit)) v0_28⟩, ⟨0, .arr [(0, 0)] (.prod (.int .i64) (.prod (.prod (.int .i64) (.prod (.int .i64) (.prod .str (.prod (.int .i64) (.prod (.int .i64) (.prod (.int .i64) (.prod zT2 (.prod zT1 (.prod .bool .unit))))))))) .unit)) v0_29⟩, ⟨0, .arr [(0, 0)] (.prod (.int .i64) (.prod (.int .i64) (.prod .str (.prod (.int .i64) (.prod (.int .i64) (.prod (.int .i64) (.prod zT2 (.prod zT1 (.prod .bool .unit))))))))) v0_30⟩])) (fun y0_27 y0_29 => N (sh jn123_0 [.rw 6] [⟨0, .vars [zi v0_1, zi v0_2, zi v0_3, zi v0_4, zi v0_5, zi v0_6, zi v0_7, .val [] .str v0_8, .val [(0, 0)] zT2 v0_9, zi v0_10, .val [(0, 0)] zT1 v0_11, zi v0_12, zi v0_13, zi v0_14, zi v0_15, .val [] .str v0_16, .val [(0, 0)] zT2 v0_17, .val [(0, 0)] zT1 v0_18, zi v0_19, zi v0_20, zi v0_21, zi v0_22, .val [(0, 0)] zT3 v0_23, zi v0_24, .rw 4, .val [(0, 0)] zT3 v0_25, zi v0_26, .rw 5, zi v0_27]⟩, ⟨0, .gone⟩, ⟨0, .gone⟩, ⟨0, .arr [(0, 0)] (.prod (.int .i64) (.prod (.prod (.int .i64) (.prod (.int .i64) (.prod .str (.prod (.int .i64) (.prod (.int .i64) (.prod (.int .i64) (.prod zT2 (.prod zT1 (.prod .bool .unit))))))))) .unit)) y0_27⟩, ⟨0, .arr [(0, 0)] (.prod (.int .i64) (.prod (.prod (.int .i64) (.prod (.int .i64) (.prod .str (.prod (.int .i64) (.prod (.int .i64) (.prod (.int .i64) (.prod zT2 (.prod zT1 (.prod .bool .unit))))))))) .unit)) v0_29⟩, ⟨0, .arr [(0, 0)] (.prod (.int .i64) (.prod (.int .i64) (.prod .str (.prod (.int .i64) (.prod (.int .i64) (.prod (.int .i64) (.prod zT2 (.prod zT1 (.prod .bool .unit))))))))) y0_29⟩])) v0_0 v0_1 v0_2 v0_3 v0_4 v0_5 v0_6 v0_7 v0_8 v0_9 v0_10 v0_11 v0_12 v0_13 v0_14 v0_15 v0_16 v0_17 v0_18 v0_19 v0_20 v0_21 v0_22 v0_23 v0_24 v0_25 v0_26 v0_27 v0_29 v0_28 v0_30 := by kernel_rfl
theorem i123_0 (N : St → Option R) (X : Nat → St → Option R) (v0_0 : Int) (v0_1 : Int) (v0_2 : Int) (v0_3 : Int) (v0_4 : Int) (v0_5 : Int) (v0_6 : Int) (v0_7 : Int) (v0_8 : ByteArray) (v0_9 : List Int) (v0_10 : Int) (v0_11 : zL5) (v0_12 : Int) (v0_13 : Int) (v0_14 : Int) (v0_15 : Int) (v0_16 : ByteArray) (v0_17 : List Int) (v0_18 : zL5) (v0_19 : Int) (v0_20 : Int) (v0_21 : Int) (v0_22 : Int) (v0_23 : List Bool) (v0_24 : Int) (v0_25 : List Bool) (v0_26 : Int) (v0_27 : Int) (v0_29 : zL1) (m : Nat) : ∀ (v0_28 : zL1) (v0_30 : zL3),
  iter (atHead an123 3 bd123_0) m (fun st N' => exec T an123 (modesOf F) 3 k 42 (S123 k) (ending T Try.f123 an123 3 K) bd123_0 st N' (outX an123 3 0 N X)) (sh sp123_0 [.ptr 1 22, zi v0_0, .rw 6] [⟨0, .vars [zi v0_1, zi v0_2, zi v0_3, zi v0_4, zi v0_5, zi v0_6, zi v0_7, .val [] .str v0_8, .val [(0, 0)] zT2 v0_9, zi v0_10, .val [(0, 0)] zT1 v0_11, zi v0_12, zi v0_13, zi v0_14, zi v0_15, .val [] .str v0_16, .val [(0, 0)] zT2 v0_17, .val [(0, 0)] zT1 v0_18, zi v0_19, zi v0_20, zi v0_21, zi v0_22, .val [(0, 0)] zT3 v0_23, zi v0_24, .rw 4, .val [(0, 0)] zT3 v0_25, zi v0_26, .rw 5, zi v0_27]⟩, ⟨0, .gone⟩, ⟨0, .gone⟩, ⟨0, .arr [(0, 0)] (.prod (.int .i64) (.prod (.prod (.int .i64) (.prod (.int .i64) (.prod .str (.prod (.int .i64) (.prod (.int .i64) (.prod (.int .i64) (.prod zT2 (.prod zT1 (.prod .bool .unit))))))))) .unit)) v0_28⟩, ⟨0, .arr [(0, 0)] (.prod (.int .i64) (.prod (.prod (.int .i64) (.prod (.int .i64) (.prod .str (.prod (.int .i64) (.prod (.int .i64) (.prod (.int .i64) (.prod zT2 (.prod zT1 (.prod .bool .unit))))))))) .unit)) v0_29⟩, ⟨0, .arr [(0, 0)] (.prod (.int .i64) (.prod (.int .i64) (.prod .str (.prod (.int .i64) (.prod (.int .i64) (.prod (.int .i64) (.prod zT2 (.prod zT1 (.prod .bool .unit))))))))) v0_30⟩]) = f123_0d k (fun y0_27 y0_29 => N (sh jn123_0 [.rw 6] [⟨0, .vars [zi v0_1, zi v0_2, zi v0_3, zi v0_4, zi v0_5, zi v0_6, zi v0_7, .val [] .str v0_8, .val [(0, 0)] zT2 v0_9, zi v0_10, .val [(0, 0)] zT1 v0_11, zi v0_12, zi v0_13, zi v0_14, zi v0_15, .val [] .str v0_16, .val [(0, 0)] zT2 v0_17, .val [(0, 0)] zT1 v0_18, zi v0_19, zi v0_20, zi v0_21, zi v0_22, .val [(0, 0)] zT3 v0_23, zi v0_24, .rw 4, .val [(0, 0)] zT3 v0_25, zi v0_26, .rw 5, zi v0_27]⟩, ⟨0, .gone⟩, ⟨0, .gone⟩, ⟨0, .arr [(0, 0)] (.prod (.int .i64) (.prod (.prod (.int .i64) (.prod (.int .i64) (.prod .str (.prod (.int .i64) (.prod (.int .i64) (.prod (.int .i64) (.prod zT2 (.prod zT1 (.prod .bool .unit))))))))) .unit)) y0_27⟩, ⟨0, .arr [(0, 0)] (.prod (.int .i64) (.prod (.prod (.int .i64) (.prod (.int .i64) (.prod .str (.prod (.int .i64) (.prod (.int .i64) (.prod (.int .i64) (.prod zT2 (.prod zT1 (.prod .bool .unit))))))))) .unit)) v0_29⟩, ⟨0, .arr [(0, 0)] (.prod (.int .i64) (.prod (.int .i64) (.prod .str (.prod (.int .i64) (.prod (.int .i64) (.prod (.int .i64) (.prod zT2 (.prod zT1 (.prod .bool .unit))))))))) y0_29⟩])) v0_0 v0_1 v0_2 v0_3 v0_4 v0_5 v0_6 v0_7 v0_8 v0_9 v0_10 v0_11 v0_12 v0_13 v0_14 v0_15 v0_16 v0_17 v0_18 v0_19 v0_20 v0_21 v0_22 v0_23 v0_24 v0_25 v0_26 v0_27 v0_29 m v0_28 v0_30 := by
 induction m with
 | zero => intros; rfl
 | succ m ih =>
   intro v0_28 v0_30
   simp only [iter]
   rw [← execS_eq T an123 (modesOf F) 3 k 42 (S123 k) (L123 k K) bd123_0 (cuts_of _ _ _ _ _ _ _ _ bd123_0 (l := []) (by kernel_rfl) trivial)]
   refine (b123_0 k K _ N X v0_0 v0_1 v0_2 v0_3 v0_4 v0_5 v0_6 v0_7 v0_8 v0_9 v0_10 v0_11 v0_12 v0_13 v0_14 v0_15 v0_16 v0_17 v0_18 v0_19 v0_20 v0_21 v0_22 v0_23 v0_24 v0_25 v0_26 v0_27 v0_29 v0_28 v0_30).trans ?_
   simp only [f123_0d, ih]
theorem l123_0 (ws : List PV) (rs : List RowS) (N : St → Option R) (X : Nat → St → Option R) : L123 k K 0 ws rs N X = inner T an123 (modesOf F) 3 k 42 (S123 k) (ending T Try.f123 an123 3 K) cd123_0 (sh sp123_0 ws rs) N X := by
 show L123_0 k K ws rs N X = _
 unfold L123_0
 rw [f123_0_def]
 exact onShape_eq (a := [.ptr 1 22, .val [] (.int .i64), .rw 6]) (b := [.vars [.val [] (.int .i64), .val [] (.int .i64), .val [] (.int .i64), .val [] (.int .i64), .val [] (.int .i64), .val [] (.int .i64), .val [] (.int .i64), .val [] .str, .val [(0, 0)] zT2, .val [] (.int .i64), .val [(0, 0)] zT1, .val [] (.int .i64), .val [] (.int .i64), .val [] (.int .i64), .val [] (.int .i64), .val [] .str, .val [(0, 0)] zT2, .val [(0, 0)] zT1, .val [] (.int .i64), .val [] (.int .i64), .val [] (.int .i64), .val [] (.int .i64), .val [(0, 0)] zT3, .val [] (.int .i64), .rw 4, .val [(0, 0)] zT3, .val [] (.int .i64), .rw 5, .val [] (.int .i64)], .gone, .gone, .arr [(0, 0)] (.prod (.int .i64) (.prod (.prod (.int .i64) (.prod (.int .i64) (.prod .str (.prod (.int .i64) (.prod (.int .i64) (.prod (.int .i64) (.prod zT2 (.prod zT1 (.prod .bool .unit))))))))) .unit)), .arr [(0, 0)] (.prod (.int .i64) (.prod (.prod (.int .i64) (.prod (.int .i64) (.prod .str (.prod (.int .i64) (.prod (.int .i64) (.prod (.int .i64) (.prod zT2 (.prod zT1 (.prod .bool .unit))))))))) .unit)), .arr [(0, 0)] (.prod (.int .i64) (.prod (.int .i64) (.prod .str (.prod (.int .i64) (.prod (.int .i64) (.prod (.int .i64) (.prod zT2 (.prod zT1 (.prod .bool .unit)))))))))]) (G := fun ws rs => inner T an123 (modesOf F) 3 k 42 (S123 k) (ending T Try.f123 an123 3 K) cd123_0 (sh sp123_0 ws rs) N X) (fun x y => Eq.trans (by kernel_rfl) (Eq.trans (i123_0 k K N X x.2.1 y.1.1 y.1.2.1 y.1.2.2.1 y.1.2.2.2.1 y.1.2.2.2.2.1 y.1.2.2.2.2.2.1 y.1.2.2.2.2.2.2.1 y.1.2.2.2.2.2.2.2.1 y.1.2.2.2.2.2.2.2.2.1 y.1.2.2.2.2.2.2.2.2.2.1 y.1.2.2.2.2.2.2.2.2.2.2.1 y.1.2.2.2.2.2.2.2.2.2.2.2.1 y.1.2.2.2.2.2.2.2.2.2.2.2.2.1 y.1.2.2.2.2.2.2.2.2.2.2.2.2.2.1 y.1.2.2.2.2.2.2.2.2.2.2.2.2.2.2.1 y.1.2.2.2.2.2.2.2.2.2.2.2.2.2.2.2.1 y.1.2.2.2.2.2.2.2.2.2.2.2.2.2.2.2.2.1 y.1.2.2.2.2.2.2.2.2.2.2.2.2.2.2.2.2.2.1 y.1.2.2.2.2.2.2.2.2.2.2.2.2.2.2.2.2.2.2.1 y.1.2.2.2.2.2.2.2.2.2.2.2.2.2.2.2.2.2.2.2.1 y.1.2.2.2.2.2.2.2.2.2.2.2.2.2.2.2.2.2.2.2.2.1 y.1.2.2.2.2.2.2.2.2.2.2.2.2.2.2.2.2.2.2.2.2.2.1 y.1.2.2.2.2.2.2.2.2.2.2.2.2.2.2.2.2.2.2.2.2.2.2.1 y.1.2.2.2.2.2.2.2.2.2.2.2.2.2.2.2.2.2.2.2.2.2.2.2.1 y.1.2.2.2.2.2.2.2.2.2.2.2.2.2.2.2.2.2.2.2.2.2.2.2.2.2.1 y.1.2.2.2.2.2.2.2.2.2.2.2.2.2.2.2.2.2.2.2.2.2.2.2.2.2.2.1 y.1.2.2.2.2.2.2.2.2.2.2.2.2.2.2.2.2.2.2.2.2.2.2.2.2.2.2.2.2.1 y.2.2.2.2.1 k y.2.2.2.1 y.2.2.2.2.2.1).symm (by kernel_rfl))) ws rs
end
theorem e123 (k : Nat) (a0 : Int) (a1 : Int) (a2 : Int) (a3 : Int) (a4 : Int) (a5 : Int) (a6 : Int) (a7 : Int) (a8 : ByteArray) (a9 : List Int) (a10 : Int) (a11 : zL5) (a12 : Int) (a13 : Int) (a14 : Int) (a15 : Int) (a16 : ByteArray) (a17 : List Int) (a18 : zL5) (a19 : Int) (a20 : Int) (a21 : Int) (a22 : Int) (a23 : List Bool) (a24 : Int) (a25 : List Bool) (a26 : Int) (a27 : Int) (a28 : zL1) (a29 : zL1) (K : List PV → List RowS → Option R) : callC T F k 123 [.ptr 1 22, zi a0] [⟨0, .vars [zi a1, zi a2, zi a3, zi a4, zi a5, zi a6, zi a7, .val [] .str a8, .val [(0, 0)] zT2 a9, zi a10, .val [(0, 0)] zT1 a11, zi a12, zi a13, zi a14, zi a15, .val [] .str a16, .val [(0, 0)] zT2 a17, .val [(0, 0)] zT1 a18, zi a19, zi a20, zi a21, zi a22, .val [(0, 0)] zT3 a23, zi a24, .rw 2, .val [(0, 0)] zT3 a25, zi a26, .rw 3, zi a27]⟩, ⟨0, .arr [(0, 0)] (.prod (.int .i64) (.prod (.prod (.int .i64) (.prod (.int .i64) (.prod .str (.prod (.int .i64) (.prod (.int .i64) (.prod (.int .i64) (.prod zT2 (.prod zT1 (.prod .bool .unit))))))))) .unit)) a28⟩, ⟨0, .arr [(0, 0)] (.prod (.int .i64) (.prod (.prod (.int .i64) (.prod (.int .i64) (.prod .str (.prod (.int .i64) (.prod (.int .i64) (.prod (.int .i64) (.prod zT2 (.prod zT1 (.prod .bool .unit))))))))) .unit)) a29⟩] K = f123 k a0 a1 a2 a3 a4 a5 a6 a7 a8 a9 a10 a11 a12 a13 a14 a15 a16 a17 a18 a19 a20 a21 a22 a23 a24 a25 a26 a27 a28 a29 (fun z0 z1 z2 z3 z4 z5 z6 z7 z8 z9 z10 z11 z12 z13 z14 z15 z16 z17 z18 z19 z20 z21 z22 z23 z24 z25 z26 z27 z28 z29 => K [.rw 6] [⟨0, .vars [zi z0, zi z1, zi z2, zi z3, zi z4, zi z5, zi z6, .val [] .str z7, .val [(0, 0)] zT2 z8, zi z9, .val [(0, 0)] zT1 z10, zi z11, zi z12, zi z13, zi z14, .val [] .str z15, .val [(0, 0)] zT2 z16, .val [(0, 0)] zT1 z17, zi z18, zi z19, zi z20, zi z21, .val [(0, 0)] zT3 z22, zi z23, .rw 4, .val [(0, 0)] zT3 z24, zi z25, .rw 5, zi z26]⟩, ⟨0, .gone⟩, ⟨0, .gone⟩, ⟨0, .arr [(0, 0)] (.prod (.int .i64) (.prod (.prod (.int .i64) (.prod (.int .i64) (.prod .str (.prod (.int .i64) (.prod (.int .i64) (.prod (.int .i64) (.prod zT2 (.prod zT1 (.prod .bool .unit))))))))) .unit)) z27⟩, ⟨0, .arr [(0, 0)] (.prod (.int .i64) (.prod (.prod (.int .i64) (.prod (.int .i64) (.prod .str (.prod (.int .i64) (.prod (.int .i64) (.prod (.int .i64) (.prod zT2 (.prod zT1 (.prod .bool .unit))))))))) .unit)) z28⟩, ⟨0, .arr [(0, 0)] (.prod (.int .i64) (.prod (.int .i64) (.prod .str (.prod (.int .i64) (.prod (.int .i64) (.prod (.int .i64) (.prod zT2 (.prod zT1 (.prod .bool .unit))))))))) z29⟩]) := by
 rw [f123_def]
 cases k with
 | zero => rfl
 | succ k =>
   refine Eq.trans (show _ = exec T an123 (modesOf F) 3 k 42 (callC T F k) (ending T Try.f123 an123 3 K) (bodyOf Try.f123) ⟨argEnv 0 [.ptr 1 22, zi a0] (fun _ => none), rowsOf [⟨0, .vars [zi a1, zi a2, zi a3, zi a4, zi a5, zi a6, zi a7, .val [] .str a8, .val [(0, 0)] zT2 a9, zi a10, .val [(0, 0)] zT1 a11, zi a12, zi a13, zi a14, zi a15, .val [] .str a16, .val [(0, 0)] zT2 a17, .val [(0, 0)] zT1 a18, zi a19, zi a20, zi a21, zi a22, .val [(0, 0)] zT3 a23, zi a24, .rw 2, .val [(0, 0)] zT3 a25, zi a26, .rw 3, zi a27]⟩, ⟨0, .arr [(0, 0)] (.prod (.int .i64) (.prod (.prod (.int .i64) (.prod (.int .i64) (.prod .str (.prod (.int .i64) (.prod (.int .i64) (.prod (.int .i64) (.prod zT2 (.prod zT1 (.prod .bool .unit))))))))) .unit)) a28⟩, ⟨0, .arr [(0, 0)] (.prod (.int .i64) (.prod (.prod (.int .i64) (.prod (.int .i64) (.prod .str (.prod (.int .i64) (.prod (.int .i64) (.prod (.int .i64) (.prod zT2 (.prod zT1 (.prod .bool .unit))))))))) .unit)) a29⟩]⟩ (ending T Try.f123 an123 3 K) (fun _ _ => none) from by kernel_rfl) ?_
   rw [← S123_eq k, ← execS_eq T an123 (modesOf F) 3 k 42 (S123 k) (L123 k K) (bodyOf Try.f123) (cuts_of _ _ _ _ _ _ _ _ (bodyOf Try.f123) (l := [(0, sp123_0, cd123_0)]) (by kernel_rfl) ⟨l123_0 k K, trivial⟩)]
   kernel_rfl
noncomputable def s123 (k : Nat) (a : List PV) (r : List RowS) (K : List PV → List RowS → Option R) : Option R :=
 onShape [.ptr 1 22, .val [] (.int .i64)] [.vars [.val [] (.int .i64), .val [] (.int .i64), .val [] (.int .i64), .val [] (.int .i64), .val [] (.int .i64), .val [] (.int .i64), .val [] (.int .i64), .val [] .str, .val [(0, 0)] zT2, .val [] (.int .i64), .val [(0, 0)] zT1, .val [] (.int .i64), .val [] (.int .i64), .val [] (.int .i64), .val [] (.int .i64), .val [] .str, .val [(0, 0)] zT2, .val [(0, 0)] zT1, .val [] (.int .i64), .val [] (.int .i64), .val [] (.int .i64), .val [] (.int .i64), .val [(0, 0)] zT3, .val [] (.int .i64), .rw 2, .val [(0, 0)] zT3, .val [] (.int .i64), .rw 3, .val [] (.int .i64)], .arr [(0, 0)] (.prod (.int .i64) (.prod (.prod (.int .i64) (.prod (.int .i64) (.prod .str (.prod (.int .i64) (.prod (.int .i64) (.prod (.int .i64) (.prod zT2 (.prod zT1 (.prod .bool .unit))))))))) .unit)), .arr [(0, 0)] (.prod (.int .i64) (.prod (.prod (.int .i64) (.prod (.int .i64) (.prod .str (.prod (.int .i64) (.prod (.int .i64) (.prod (.int .i64) (.prod zT2 (.prod zT1 (.prod .bool .unit))))))))) .unit))] (fun v => f123 k v.1.2.1 v.2.1.1 v.2.1.2.1 v.2.1.2.2.1 v.2.1.2.2.2.1 v.2.1.2.2.2.2.1 v.2.1.2.2.2.2.2.1 v.2.1.2.2.2.2.2.2.1 v.2.1.2.2.2.2.2.2.2.1 v.2.1.2.2.2.2.2.2.2.2.1 v.2.1.2.2.2.2.2.2.2.2.2.1 v.2.1.2.2.2.2.2.2.2.2.2.2.1 v.2.1.2.2.2.2.2.2.2.2.2.2.2.1 v.2.1.2.2.2.2.2.2.2.2.2.2.2.2.1 v.2.1.2.2.2.2.2.2.2.2.2.2.2.2.2.1 v.2.1.2.2.2.2.2.2.2.2.2.2.2.2.2.2.1 v.2.1.2.2.2.2.2.2.2.2.2.2.2.2.2.2.2.1 v.2.1.2.2.2.2.2.2.2.2.2.2.2.2.2.2.2.2.1 v.2.1.2.2.2.2.2.2.2.2.2.2.2.2.2.2.2.2.2.1 v.2.1.2.2.2.2.2.2.2.2.2.2.2.2.2.2.2.2.2.2.1 v.2.1.2.2.2.2.2.2.2.2.2.2.2.2.2.2.2.2.2.2.2.1 v.2.1.2.2.2.2.2.2.2.2.2.2.2.2.2.2.2.2.2.2.2.2.1 v.2.1.2.2.2.2.2.2.2.2.2.2.2.2.2.2.2.2.2.2.2.2.2.1 v.2.1.2.2.2.2.2.2.2.2.2.2.2.2.2.2.2.2.2.2.2.2.2.2.1 v.2.1.2.2.2.2.2.2.2.2.2.2.2.2.2.2.2.2.2.2.2.2.2.2.2.1 v.2.1.2.2.2.2.2.2.2.2.2.2.2.2.2.2.2.2.2.2.2.2.2.2.2.2.2.1 v.2.1.2.2.2.2.2.2.2.2.2.2.2.2.2.2.2.2.2.2.2.2.2.2.2.2.2.2.1 v.2.1.2.2.2.2.2.2.2.2.2.2.2.2.2.2.2.2.2.2.2.2.2.2.2.2.2.2.2.2.1 v.2.2.1 v.2.2.2.1 (fun z0 z1 z2 z3 z4 z5 z6 z7 z8 z9 z10 z11 z12 z13 z14 z15 z16 z17 z18 z19 z20 z21 z22 z23 z24 z25 z26 z27 z28 z29 => K [.rw 6] [⟨0, .vars [zi z0, zi z1, zi z2, zi z3, zi z4, zi z5, zi z6, .val [] .str z7, .val [(0, 0)] zT2 z8, zi z9, .val [(0, 0)] zT1 z10, zi z11, zi z12, zi z13, zi z14, .val [] .str z15, .val [(0, 0)] zT2 z16, .val [(0, 0)] zT1 z17, zi z18, zi z19, zi z20, zi z21, .val [(0, 0)] zT3 z22, zi z23, .rw 4, .val [(0, 0)] zT3 z24, zi z25, .rw 5, zi z26]⟩, ⟨0, .gone⟩, ⟨0, .gone⟩, ⟨0, .arr [(0, 0)] (.prod (.int .i64) (.prod (.prod (.int .i64) (.prod (.int .i64) (.prod .str (.prod (.int .i64) (.prod (.int .i64) (.prod (.int .i64) (.prod zT2 (.prod zT1 (.prod .bool .unit))))))))) .unit)) z27⟩, ⟨0, .arr [(0, 0)] (.prod (.int .i64) (.prod (.prod (.int .i64) (.prod (.int .i64) (.prod .str (.prod (.int .i64) (.prod (.int .i64) (.prod (.int .i64) (.prod zT2 (.prod zT1 (.prod .bool .unit))))))))) .unit)) z28⟩, ⟨0, .arr [(0, 0)] (.prod (.int .i64) (.prod (.int .i64) (.prod .str (.prod (.int .i64) (.prod (.int .i64) (.prod (.int .i64) (.prod zT2 (.prod zT1 (.prod .bool .unit))))))))) z29⟩])) (callC T F k 123 a r K) a r
theorem s123_eq (k : Nat) (a : List PV) (r : List RowS) (K : List PV → List RowS → Option R) : s123 k a r K = callC T F k 123 a r K := by
 unfold s123
 exact onShape_eq (a := [.ptr 1 22, .val [] (.int .i64)]) (b := [.vars [.val [] (.int .i64), .val [] (.int .i64), .val [] (.int .i64), .val [] (.int .i64), .val [] (.int .i64), .val [] (.int .i64), .val [] (.int .i64), .val [] .str, .val [(0, 0)] zT2, .val [] (.int .i64), .val [(0, 0)] zT1, .val [] (.int .i64), .val [] (.int .i64), .val [] (.int .i64), .val [] (.int .i64), .val [] .str, .val [(0, 0)] zT2, .val [(0, 0)] zT1, .val [] (.int .i64), .val [] (.int .i64), .val [] (.int .i64), .val [] (.int .i64), .val [(0, 0)] zT3, .val [] (.int .i64), .rw 2, .val [(0, 0)] zT3, .val [] (.int .i64), .rw 3, .val [] (.int .i64)], .arr [(0, 0)] (.prod (.int .i64) (.prod (.prod (.int .i64) (.prod (.int .i64) (.prod .str (.prod (.int .i64) (.prod (.int .i64) (.prod (.int .i64) (.prod zT2 (.prod zT1 (.prod .bool .unit))))))))) .unit)), .arr [(0, 0)] (.prod (.int .i64) (.prod (.prod (.int .i64) (.prod (.int .i64) (.prod .str (.prod (.int .i64) (.prod (.int .i64) (.prod (.int .i64) (.prod zT2 (.prod zT1 (.prod .bool .unit))))))))) .unit))]) (G := fun a r => callC T F k 123 a r K) (fun x y => Eq.trans (by kernel_rfl) (Eq.trans (e123 k x.2.1 y.1.1 y.1.2.1 y.1.2.2.1 y.1.2.2.2.1 y.1.2.2.2.2.1 y.1.2.2.2.2.2.1 y.1.2.2.2.2.2.2.1 y.1.2.2.2.2.2.2.2.1 y.1.2.2.2.2.2.2.2.2.1 y.1.2.2.2.2.2.2.2.2.2.1 y.1.2.2.2.2.2.2.2.2.2.2.1 y.1.2.2.2.2.2.2.2.2.2.2.2.1 y.1.2.2.2.2.2.2.2.2.2.2.2.2.1 y.1.2.2.2.2.2.2.2.2.2.2.2.2.2.1 y.1.2.2.2.2.2.2.2.2.2.2.2.2.2.2.1 y.1.2.2.2.2.2.2.2.2.2.2.2.2.2.2.2.1 y.1.2.2.2.2.2.2.2.2.2.2.2.2.2.2.2.2.1 y.1.2.2.2.2.2.2.2.2.2.2.2.2.2.2.2.2.2.1 y.1.2.2.2.2.2.2.2.2.2.2.2.2.2.2.2.2.2.2.1 y.1.2.2.2.2.2.2.2.2.2.2.2.2.2.2.2.2.2.2.2.1 y.1.2.2.2.2.2.2.2.2.2.2.2.2.2.2.2.2.2.2.2.2.1 y.1.2.2.2.2.2.2.2.2.2.2.2.2.2.2.2.2.2.2.2.2.2.1 y.1.2.2.2.2.2.2.2.2.2.2.2.2.2.2.2.2.2.2.2.2.2.2.1 y.1.2.2.2.2.2.2.2.2.2.2.2.2.2.2.2.2.2.2.2.2.2.2.2.1 y.1.2.2.2.2.2.2.2.2.2.2.2.2.2.2.2.2.2.2.2.2.2.2.2.2.2.1 y.1.2.2.2.2.2.2.2.2.2.2.2.2.2.2.2.2.2.2.2.2.2.2.2.2.2.2.1 y.1.2.2.2.2.2.2.2.2.2.2.2.2.2.2.2.2.2.2.2.2.2.2.2.2.2.2.2.2.1 y.2.1 y.2.2.1 K).symm (by kernel_rfl))) a r
end
section
variable {R : Type}
noncomputable def S119 (k g : Nat) (a : List PV) (r : List RowS) (K : List PV → List RowS → Option R) : Option R := callC T F k g a r K
theorem S119_eq (k : Nat) : S119 (R := R) k = callC T F k := by
 funext g a r K
 exact rfl
theorem e119 (k : Nat) (a0 : Int) (a1 : Int) (a2 : ByteArray) (a3 : List Int) (a4 : zL5) (a5 : Int) (a6 : Int) (a7 : Int) (a8 : Int) (a9 : Int) (a10 : Int) (a11 : ByteArray) (a12 : Int) (a13 : Int) (a14 : Int) (a15 : List Int) (a16 : zL5) (a17 : Bool) (K : List PV → List RowS → Option R) : callC T F k 119 [.agg [zi a0, zi a1, .val [] .str a2, .val [(0, 0)] zT2 a3, .val [(0, 0)] zT1 a4, zi a5, zi a6, zi a7, zi a8], .agg [zi a9, zi a10, .val [] .str a11, zi a12, zi a13, zi a14, .val [(0, 0)] zT2 a15, .val [(0, 0)] zT1 a16, .val [] .bool a17]] [] K = f119 k a0 a1 a2 a3 a4 a5 a6 a7 a8 a9 a10 a11 a12 a13 a14 a15 a16 a17 (fun z0 => K [.val [] .bool z0] []) := by
 rw [f119_def]
 cases k with
 | zero => rfl
 | succ k =>
   refine Eq.trans (show _ = exec T an119 (modesOf F) 0 k 64 (callC T F k) (ending T Try.f119 an119 0 K) (bodyOf Try.f119) ⟨argEnv 0 [.agg [zi a0, zi a1, .val [] .str a2, .val [(0, 0)] zT2 a3, .val [(0, 0)] zT1 a4, zi a5, zi a6, zi a7, zi a8], .agg [zi a9, zi a10, .val [] .str a11, zi a12, zi a13, zi a14, .val [(0, 0)] zT2 a15, .val [(0, 0)] zT1 a16, .val [] .bool a17]] (fun _ => none), rowsOf []⟩ (ending T Try.f119 an119 0 K) (fun _ _ => none) from by kernel_rfl) ?_
   rw [← S119_eq k, ← execS_eq T an119 (modesOf F) 0 k 64 (S119 k) (fun _ _ _ _ _ => none) (bodyOf Try.f119) (cuts_of _ _ _ _ _ _ _ _ (bodyOf Try.f119) (l := []) (by kernel_rfl) trivial)]
   kernel_rfl
noncomputable def s119 (k : Nat) (a : List PV) (r : List RowS) (K : List PV → List RowS → Option R) : Option R :=
 onShape [.agg [.val [] (.int .i64), .val [] (.int .i64), .val [] .str, .val [(0, 0)] zT2, .val [(0, 0)] zT1, .val [] (.int .i64), .val [] (.int .i64), .val [] (.int .i64), .val [] (.int .i64)], .agg [.val [] (.int .i64), .val [] (.int .i64), .val [] .str, .val [] (.int .i64), .val [] (.int .i64), .val [] (.int .i64), .val [(0, 0)] zT2, .val [(0, 0)] zT1, .val [] .bool]] [] (fun v => f119 k v.1.1.1 v.1.1.2.1 v.1.1.2.2.1 v.1.1.2.2.2.1 v.1.1.2.2.2.2.1 v.1.1.2.2.2.2.2.1 v.1.1.2.2.2.2.2.2.1 v.1.1.2.2.2.2.2.2.2.1 v.1.1.2.2.2.2.2.2.2.2.1 v.1.2.1.1 v.1.2.1.2.1 v.1.2.1.2.2.1 v.1.2.1.2.2.2.1 v.1.2.1.2.2.2.2.1 v.1.2.1.2.2.2.2.2.1 v.1.2.1.2.2.2.2.2.2.1 v.1.2.1.2.2.2.2.2.2.2.1 v.1.2.1.2.2.2.2.2.2.2.2.1 (fun z0 => K [.val [] .bool z0] [])) (callC T F k 119 a r K) a r
theorem s119_eq (k : Nat) (a : List PV) (r : List RowS) (K : List PV → List RowS → Option R) : s119 k a r K = callC T F k 119 a r K := by
 unfold s119
 exact onShape_eq (a := [.agg [.val [] (.int .i64), .val [] (.int .i64), .val [] .str, .val [(0, 0)] zT2, .val [(0, 0)] zT1, .val [] (.int .i64), .val [] (.int .i64), .val [] (.int .i64), .val [] (.int .i64)], .agg [.val [] (.int .i64), .val [] (.int .i64), .val [] .str, .val [] (.int .i64), .val [] (.int .i64), .val [] (.int .i64), .val [(0, 0)] zT2, .val [(0, 0)] zT1, .val [] .bool]]) (b := []) (G := fun a r => callC T F k 119 a r K) (fun x y => Eq.trans (by kernel_rfl) (Eq.trans (e119 k x.1.1 x.1.2.1 x.1.2.2.1 x.1.2.2.2.1 x.1.2.2.2.2.1 x.1.2.2.2.2.2.1 x.1.2.2.2.2.2.2.1 x.1.2.2.2.2.2.2.2.1 x.1.2.2.2.2.2.2.2.2.1 x.2.1.1 x.2.1.2.1 x.2.1.2.2.1 x.2.1.2.2.2.1 x.2.1.2.2.2.2.1 x.2.1.2.2.2.2.2.1 x.2.1.2.2.2.2.2.2.1 x.2.1.2.2.2.2.2.2.2.1 x.2.1.2.2.2.2.2.2.2.2.1 K).symm (by kernel_rfl))) a r
end
section
variable {R : Type}
theorem e135 (k : Nat) (a0 : List Int) (a1 : Int) (K : List PV → List RowS → Option R) : callC T F k 135 [.val [(0, 0)] zT2 a0, zi a1] [] K = f135 k a0 a1 (fun z0 => K [.rw 1] [⟨0, .arr [] (.int .u8) z0⟩]) := by
 rw [f135_def]
 cases k with
 | zero => rfl
 | succ k => exact rep_call (m := [.lend (.int .u8), .any]) (by kernel_rfl) [(0, 0)] [] a0 a1 K
noncomputable def s135 (k : Nat) (a : List PV) (r : List RowS) (K : List PV → List RowS → Option R) : Option R :=
 onShape [.val [(0, 0)] zT2, .val [] (.int .i64)] [] (fun v => f135 k v.1.1 v.1.2.1 (fun z0 => K [.rw 1] [⟨0, .arr [] (.int .u8) z0⟩])) (callC T F k 135 a r K) a r
theorem s135_eq (k : Nat) (a : List PV) (r : List RowS) (K : List PV → List RowS → Option R) : s135 k a r K = callC T F k 135 a r K := by
 unfold s135
 exact onShape_eq (a := [.val [(0, 0)] zT2, .val [] (.int .i64)]) (b := []) (G := fun a r => callC T F k 135 a r K) (fun x y => Eq.trans (by kernel_rfl) (Eq.trans (e135 k x.1 x.2.1 K).symm (by kernel_rfl))) a r
end
section
variable {R : Type}
noncomputable def S87 (k g : Nat) (a : List PV) (r : List RowS) (K : List PV → List RowS → Option R) : Option R := callC T F k g a r K
theorem S87_eq (k : Nat) : S87 (R := R) k = callC T F k := by
 funext g a r K
 exact rfl
section
variable {R : Type} (k : Nat) (K : List PV → List RowS → Option R)
noncomputable def L87_1000007 (ws : List PV) (rs : List RowS) (N : St → Option R) (X : Nat → St → Option R) : Option R :=
 onShape [.val [] (.int .i64), .rw 1, .val [] (.int .i64), .ptr 2 0, .val [(0, 0)] zT1, .val [] (.int .i64), .val [] (.int .i64), .val [] .bool] [.arr [] (.prod (.int .i64) (.prod (.int .i64) .unit)), .vars [.val [] (.int .i64), .val [] (.int .i64)]] (fun v => f87_1000007 k (fun yN_4 => N (sh fi87_7 [zi v.1.1, .rw 1, .ptr 2 0, .val [(0, 0)] zT1 v.1.2.2.2.2.1, zi v.1.2.2.2.2.2.1, zi v.1.2.2.2.2.2.2.1] [⟨0, .arr [] (.prod (.int .i64) (.prod (.int .i64) .unit)) yN_4⟩, ⟨0, .vars [zi v.2.2.1.1, zi v.2.2.1.2.1]⟩])) v.1.1 v.1.2.2.1 v.1.2.2.2.2.1 v.1.2.2.2.2.2.1 v.1.2.2.2.2.2.2.1 v.1.2.2.2.2.2.2.2.1 v.2.1 v.2.2.1.1 v.2.2.1.2.1) (inner T an87 (modesOf F) 0 k 39 (S87 k) (ending T Try.f87 an87 0 K) cd87_1000007 (sh sp87_1000007 ws rs) N X) ws rs
noncomputable def L87_0 (ws : List PV) (rs : List RowS) (N : St → Option R) (X : Nat → St → Option R) : Option R :=
 onShape [.val [] (.int .i64), .rw 1, .val [] (.int .i64), .val [(0, 0)] zT1, .val [] (.int .i64), .val [] (.int .i64)] [.arr [] (.prod (.int .i64) (.prod (.int .i64) .unit))] (fun v => f87_0 k (fun y0_1 y0_2 => N (sh jn87_0 [zi v.1.1, .rw 1, zi y0_1] [⟨0, .arr [] (.prod (.int .i64) (.prod (.int .i64) .unit)) y0_2⟩])) v.1.1 v.1.2.2.2.1 v.1.2.2.2.2.1 k v.1.2.2.1 v.1.2.2.2.2.2.1 v.2.1) (inner T an87 (modesOf F) 0 k 39 (S87 k) (ending T Try.f87 an87 0 K) cd87_0 (sh sp87_0 ws rs) N X) ws rs
noncomputable def L87_1000011 (ws : List PV) (rs : List RowS) (N : St → Option R) (X : Nat → St → Option R) : Option R :=
 onShape [.val [] (.int .i64), .rw 1, .val [] (.int .i64), .val [] .bool] [.arr [] (.prod (.int .i64) (.prod (.int .i64) .unit))] (fun v => f87_1000011 k (fun yN_0 => N (sh fi87_11 [.rw 1] [⟨0, .arr [] (.prod (.int .i64) (.prod (.int .i64) .unit)) yN_0⟩])) v.1.1 v.1.2.2.1 v.1.2.2.2.1 v.2.1) (inner T an87 (modesOf F) 0 k 39 (S87 k) (ending T Try.f87 an87 0 K) cd87_1000011 (sh sp87_1000011 ws rs) N X) ws rs
noncomputable def L87 (id : Nat) (ws : List PV) (rs : List RowS) (N : St → Option R) (X : Nat → St → Option R) : Option R := bif id == 1000007 then L87_1000007 k K ws rs N X else bif id == 0 then L87_0 k K ws rs N X else bif id == 1000011 then L87_1000011 k K ws rs N X else none
theorem l87_1000007 (ws : List PV) (rs : List RowS) (N : St → Option R) (X : Nat → St → Option R) : L87 k K 1000007 ws rs N X = inner T an87 (modesOf F) 0 k 39 (S87 k) (ending T Try.f87 an87 0 K) cd87_1000007 (sh sp87_1000007 ws rs) N X := by
 show L87_1000007 k K ws rs N X = _
 unfold L87_1000007
 rw [f87_1000007_def]
 exact onShape_eq (a := [.val [] (.int .i64), .rw 1, .val [] (.int .i64), .ptr 2 0, .val [(0, 0)] zT1, .val [] (.int .i64), .val [] (.int .i64), .val [] .bool]) (b := [.arr [] (.prod (.int .i64) (.prod (.int .i64) .unit)), .vars [.val [] (.int .i64), .val [] (.int .i64)]]) (G := fun ws rs => inner T an87 (modesOf F) 0 k 39 (S87 k) (ending T Try.f87 an87 0 K) cd87_1000007 (sh sp87_1000007 ws rs) N X) (fun x y => Eq.trans (by kernel_rfl) (innerS_eq T an87 (modesOf F) 0 k 39 (S87 k) (L87 k K) cd87_1000007 (l := []) (by kernel_rfl) trivial _ N X)) ws rs
theorem b87_0 (rec : St → Option R) (N : St → Option R) (X : Nat → St → Option R) (v0_0 : Int) (v0_2 : zL5) (v0_3 : Int) (v0_1 : Int) (v0_4 : Int) (v0_5 : zL6) :
  execS T an87 (modesOf F) 0 k 39 (S87 k) (L87 k K) (ending T Try.f87 an87 0 K) bd87_0 (sh sp87_0 [zi v0_0, .rw 1, zi v0_1, .val [(0, 0)] zT1 v0_2, zi v0_3, zi v0_4] [⟨0, .arr [] (.prod (.int .i64) (.prod (.int .i64) .unit)) v0_5⟩]) (fun st => atHead an87 0 bd87_0 st rec) (outX an87 0 0 N X) =
   f87_0b k (fun v0_1 v0_4 v0_5 => rec (sh sp87_0 [zi v0_0, .rw 1, zi v0_1, .val [(0, 0)] zT1 v0_2, zi v0_3, zi v0_4] [⟨0, .arr [] (.prod (.int .i64) (.prod (.int .i64) .unit)) v0_5⟩])) (fun y0_1 y0_2 => N (sh jn87_0 [zi v0_0, .rw 1, zi y0_1] [⟨0, .arr [] (.prod (.int .i64) (.prod (.int .i64) .unit)) y0_2⟩])) v0_0 v0_2 v0_3 v0_1 v0_4 v0_5 := by kernel_rfl
theorem i87_0 (N : St → Option R) (X : Nat → St → Option R) (v0_0 : Int) (v0_2 : zL5) (v0_3 : Int) (m : Nat) : ∀ (v0_1 : Int) (v0_4 : Int) (v0_5 : zL6),
  iter (atHead an87 0 bd87_0) m (fun st N' => exec T an87 (modesOf F) 0 k 39 (S87 k) (ending T Try.f87 an87 0 K) bd87_0 st N' (outX an87 0 0 N X)) (sh sp87_0 [zi v0_0, .rw 1, zi v0_1, .val [(0, 0)] zT1 v0_2, zi v0_3, zi v0_4] [⟨0, .arr [] (.prod (.int .i64) (.prod (.int .i64) .unit)) v0_5⟩]) = f87_0d k (fun y0_1 y0_2 => N (sh jn87_0 [zi v0_0, .rw 1, zi y0_1] [⟨0, .arr [] (.prod (.int .i64) (.prod (.int .i64) .unit)) y0_2⟩])) v0_0 v0_2 v0_3 m v0_1 v0_4 v0_5 := by
 induction m with
 | zero => intros; rfl
 | succ m ih =>
   intro v0_1 v0_4 v0_5
   simp only [iter]
   rw [← execS_eq T an87 (modesOf F) 0 k 39 (S87 k) (L87 k K) bd87_0 (cuts_of _ _ _ _ _ _ _ _ bd87_0 (l := [(1000007, sp87_1000007, cd87_1000007)]) (by kernel_rfl) ⟨l87_1000007 k K, trivial⟩)]
   refine (b87_0 k K _ N X v0_0 v0_2 v0_3 v0_1 v0_4 v0_5).trans ?_
   simp only [f87_0d, ih]
theorem l87_0 (ws : List PV) (rs : List RowS) (N : St → Option R) (X : Nat → St → Option R) : L87 k K 0 ws rs N X = inner T an87 (modesOf F) 0 k 39 (S87 k) (ending T Try.f87 an87 0 K) cd87_0 (sh sp87_0 ws rs) N X := by
 show L87_0 k K ws rs N X = _
 unfold L87_0
 rw [f87_0_def]
 exact onShape_eq (a := [.val [] (.int .i64), .rw 1, .val [] (.int .i64), .val [(0, 0)] zT1, .val [] (.int .i64), .val [] (.int .i64)]) (b := [.arr [] (.prod (.int .i64) (.prod (.int .i64) .unit))]) (G := fun ws rs => inner T an87 (modesOf F) 0 k 39 (S87 k) (ending T Try.f87 an87 0 K) cd87_0 (sh sp87_0 ws rs) N X) (fun x y => Eq.trans (by kernel_rfl) (Eq.trans (i87_0 k K N X x.1 x.2.2.2.1 x.2.2.2.2.1 k x.2.2.1 x.2.2.2.2.2.1 y.1).symm (by kernel_rfl))) ws rs
theorem l87_1000011 (ws : List PV) (rs : List RowS) (N : St → Option R) (X : Nat → St → Option R) : L87 k K 1000011 ws rs N X = inner T an87 (modesOf F) 0 k 39 (S87 k) (ending T Try.f87 an87 0 K) cd87_1000011 (sh sp87_1000011 ws rs) N X := by
 show L87_1000011 k K ws rs N X = _
 unfold L87_1000011
 rw [f87_1000011_def]
 exact onShape_eq (a := [.val [] (.int .i64), .rw 1, .val [] (.int .i64), .val [] .bool]) (b := [.arr [] (.prod (.int .i64) (.prod (.int .i64) .unit))]) (G := fun ws rs => inner T an87 (modesOf F) 0 k 39 (S87 k) (ending T Try.f87 an87 0 K) cd87_1000011 (sh sp87_1000011 ws rs) N X) (fun x y => Eq.trans (by kernel_rfl) (innerS_eq T an87 (modesOf F) 0 k 39 (S87 k) (L87 k K) cd87_1000011 (l := []) (by kernel_rfl) trivial _ N X)) ws rs
end
theorem e87 (k : Nat) (a0 : zL5) (a1 : Int) (K : List PV → List RowS → Option R) : callC T F k 87 [.val [(0, 0)] zT1 a0, zi a1] [] K = f87 k a0 a1 (fun z0 => K [.rw 1] [⟨0, .arr [] (.prod (.int .i64) (.prod (.int .i64) .unit)) z0⟩]) := by
 rw [f87_def]
 cases k with
 | zero => rfl
 | succ k =>
   refine Eq.trans (show _ = exec T an87 (modesOf F) 0 k 39 (callC T F k) (ending T Try.f87 an87 0 K) (bodyOf Try.f87) ⟨argEnv 0 [.val [(0, 0)] zT1 a0, zi a1] (fun _ => none), rowsOf []⟩ (ending T Try.f87 an87 0 K) (fun _ _ => none) from by kernel_rfl) ?_
   rw [← S87_eq k, ← execS_eq T an87 (modesOf F) 0 k 39 (S87 k) (L87 k K) (bodyOf Try.f87) (cuts_of _ _ _ _ _ _ _ _ (bodyOf Try.f87) (l := [(0, sp87_0, cd87_0), (1000011, sp87_1000011, cd87_1000011)]) (by kernel_rfl) ⟨l87_0 k K, l87_1000011 k K, trivial⟩)]
   kernel_rfl
noncomputable def s87 (k : Nat) (a : List PV) (r : List RowS) (K : List PV → List RowS → Option R) : Option R :=
 onShape [.val [(0, 0)] zT1, .val [] (.int .i64)] [] (fun v => f87 k v.1.1 v.1.2.1 (fun z0 => K [.rw 1] [⟨0, .arr [] (.prod (.int .i64) (.prod (.int .i64) .unit)) z0⟩])) (callC T F k 87 a r K) a r
theorem s87_eq (k : Nat) (a : List PV) (r : List RowS) (K : List PV → List RowS → Option R) : s87 k a r K = callC T F k 87 a r K := by
 unfold s87
 exact onShape_eq (a := [.val [(0, 0)] zT1, .val [] (.int .i64)]) (b := []) (G := fun a r => callC T F k 87 a r K) (fun x y => Eq.trans (by kernel_rfl) (Eq.trans (e87 k x.1 x.2.1 K).symm (by kernel_rfl))) a r
end
section
variable {R : Type}
noncomputable def S132 (k g : Nat) (a : List PV) (r : List RowS) (K : List PV → List RowS → Option R) : Option R := callC T F k g a r K
theorem S132_eq (k : Nat) : S132 (R := R) k = callC T F k := by
 funext g a r K
 exact rfl
section
variable {R : Type} (k : Nat) (K : List PV → List RowS → Option R)
noncomputable def L132_1000002 (ws : List PV) (rs : List RowS) (N : St → Option R) (X : Nat → St → Option R) : Option R :=
 onShape [.nils, .val [] (.int .i64), .val [] .bool] [] (fun v => f132_1000002 k (N (sh fi132_2 [.nils, zi v.1.2.1] [])) v.1.2.1 v.1.2.2.1) (inner T an132 (modesOf F) 0 k 27 (S132 k) (ending T Try.f132 an132 0 K) cd132_1000002 (sh sp132_1000002 ws rs) N X) ws rs
noncomputable def L132_1000005 (ws : List PV) (rs : List RowS) (N : St → Option R) (X : Nat → St → Option R) : Option R :=
 onShape [.nils, .val [] (.int .i64), .val [] .bool] [] (fun v => f132_1000005 k (fun yN_0 => N (sh fi132_5 [.rw 1] [⟨0, .arr [] (.prod (.int .i64) (.prod (.int .i64) .unit)) yN_0⟩])) v.1.2.1 v.1.2.2.1) (inner T an132 (modesOf F) 0 k 27 (S132 k) (ending T Try.f132 an132 0 K) cd132_1000005 (sh sp132_1000005 ws rs) N X) ws rs
noncomputable def L132 (id : Nat) (ws : List PV) (rs : List RowS) (N : St → Option R) (X : Nat → St → Option R) : Option R := bif id == 1000002 then L132_1000002 k K ws rs N X else bif id == 1000005 then L132_1000005 k K ws rs N X else none
theorem l132_1000002 (ws : List PV) (rs : List RowS) (N : St → Option R) (X : Nat → St → Option R) : L132 k K 1000002 ws rs N X = inner T an132 (modesOf F) 0 k 27 (S132 k) (ending T Try.f132 an132 0 K) cd132_1000002 (sh sp132_1000002 ws rs) N X := by
 show L132_1000002 k K ws rs N X = _
 unfold L132_1000002
 rw [f132_1000002_def]
 exact onShape_eq (a := [.nils, .val [] (.int .i64), .val [] .bool]) (b := []) (G := fun ws rs => inner T an132 (modesOf F) 0 k 27 (S132 k) (ending T Try.f132 an132 0 K) cd132_1000002 (sh sp132_1000002 ws rs) N X) (fun x y => Eq.trans (by kernel_rfl) (innerS_eq T an132 (modesOf F) 0 k 27 (S132 k) (L132 k K) cd132_1000002 (l := []) (by kernel_rfl) trivial _ N X)) ws rs
theorem l132_1000005 (ws : List PV) (rs : List RowS) (N : St → Option R) (X : Nat → St → Option R) : L132 k K 1000005 ws rs N X = inner T an132 (modesOf F) 0 k 27 (S132 k) (ending T Try.f132 an132 0 K) cd132_1000005 (sh sp132_1000005 ws rs) N X := by
 show L132_1000005 k K ws rs N X = _
 unfold L132_1000005
 rw [f132_1000005_def]
 exact onShape_eq (a := [.nils, .val [] (.int .i64), .val [] .bool]) (b := []) (G := fun ws rs => inner T an132 (modesOf F) 0 k 27 (S132 k) (ending T Try.f132 an132 0 K) cd132_1000005 (sh sp132_1000005 ws rs) N X) (fun x y => Eq.trans (by kernel_rfl) (innerS_eq T an132 (modesOf F) 0 k 27 (S132 k) (L132 k K) cd132_1000005 (l := []) (by kernel_rfl) trivial _ N X)) ws rs
end
theorem e132 (k : Nat) (a0 : Int) (K : List PV → List RowS → Option R) : callC T F k 132 [.nils, zi a0] [] K = f132 k a0 (fun z0 => K [.rw 1] [⟨0, .arr [] (.prod (.int .i64) (.prod (.int .i64) .unit)) z0⟩]) := by
 rw [f132_def]
 cases k with
 | zero => rfl
 | succ k =>
   refine Eq.trans (show _ = exec T an132 (modesOf F) 0 k 27 (callC T F k) (ending T Try.f132 an132 0 K) (bodyOf Try.f132) ⟨argEnv 0 [.nils, zi a0] (fun _ => none), rowsOf []⟩ (ending T Try.f132 an132 0 K) (fun _ _ => none) from by kernel_rfl) ?_
   rw [← S132_eq k, ← execS_eq T an132 (modesOf F) 0 k 27 (S132 k) (L132 k K) (bodyOf Try.f132) (cuts_of _ _ _ _ _ _ _ _ (bodyOf Try.f132) (l := [(1000002, sp132_1000002, cd132_1000002), (1000005, sp132_1000005, cd132_1000005)]) (by kernel_rfl) ⟨l132_1000002 k K, l132_1000005 k K, trivial⟩)]
   kernel_rfl
noncomputable def s132 (k : Nat) (a : List PV) (r : List RowS) (K : List PV → List RowS → Option R) : Option R :=
 onShape [.nils, .val [] (.int .i64)] [] (fun v => f132 k v.1.2.1 (fun z0 => K [.rw 1] [⟨0, .arr [] (.prod (.int .i64) (.prod (.int .i64) .unit)) z0⟩])) (callC T F k 132 a r K) a r
theorem s132_eq (k : Nat) (a : List PV) (r : List RowS) (K : List PV → List RowS → Option R) : s132 k a r K = callC T F k 132 a r K := by
 unfold s132
 exact onShape_eq (a := [.nils, .val [] (.int .i64)]) (b := []) (G := fun a r => callC T F k 132 a r K) (fun x y => Eq.trans (by kernel_rfl) (Eq.trans (e132 k x.2.1 K).symm (by kernel_rfl))) a r
end
section
variable {R : Type}
noncomputable def S114 (k g : Nat) (a : List PV) (r : List RowS) (K : List PV → List RowS → Option R) : Option R := bif g == 132 then s132 k a r K else callC T F k g a r K
theorem S114_eq (k : Nat) : S114 (R := R) k = callC T F k := by
 funext g a r K
 exact pick_eq (fun e => by subst e; exact s132_eq k a r K) (rfl)
section
variable {R : Type} (k : Nat) (K : List PV → List RowS → Option R)
noncomputable def L114_1000007 (ws : List PV) (rs : List RowS) (N : St → Option R) (X : Nat → St → Option R) : Option R :=
 onShape [.val [(0, 0)] (.slice zT1), .val [] (.int .i64), .val [(0, 0)] (.slice zT1), .val [] (.int .i64), .val [] (.int .i64), .val [] .bool] [] (fun v => f114_1000007 k (N (sh fi114_7 [.val [(0, 0)] (.slice zT1) v.1.1, zi v.1.2.1, .val [(0, 0)] (.slice zT1) v.1.2.2.1, zi v.1.2.2.2.1, zi v.1.2.2.2.2.1] [])) v.1.1 v.1.2.1 v.1.2.2.1 v.1.2.2.2.1 v.1.2.2.2.2.1 v.1.2.2.2.2.2.1) (inner T an114 (modesOf F) 0 k 36 (S114 k) (ending T Try.f114 an114 0 K) cd114_1000007 (sh sp114_1000007 ws rs) N X) ws rs
noncomputable def L114_0 (ws : List PV) (rs : List RowS) (N : St → Option R) (X : Nat → St → Option R) : Option R :=
 onShape [.val [(0, 0)] (.slice zT1), .val [] (.int .i64), .val [(0, 0)] (.slice zT1), .val [] (.int .i64), .val [] (.int .i64)] [] (fun v => f114_0 k (fun y0_1 => N (sh jn114_0 [.val [(0, 0)] (.slice zT1) v.1.1, zi y0_1] [])) v.1.1 v.1.2.2.1 v.1.2.2.2.1 k v.1.2.1 v.1.2.2.2.2.1) (inner T an114 (modesOf F) 0 k 36 (S114 k) (ending T Try.f114 an114 0 K) cd114_0 (sh sp114_0 ws rs) N X) ws rs
noncomputable def L114_2 (ws : List PV) (rs : List RowS) (N : St → Option R) (X : Nat → St → Option R) : Option R :=
 onShape [.rw 1, .val [(0, 0)] (.slice zT1), .val [] (.int .i64), .val [] (.int .i64)] [.arr [] (.prod (.int .i64) (.prod (.int .i64) .unit))] (fun v => f114_2 k (fun y2_0 => N (sh jn114_2 [.rw 1] [⟨0, .arr [] (.prod (.int .i64) (.prod (.int .i64) .unit)) y2_0⟩])) v.1.2.1 v.1.2.2.1 k v.1.2.2.2.1 v.2.1) (inner T an114 (modesOf F) 0 k 36 (S114 k) (ending T Try.f114 an114 0 K) cd114_2 (sh sp114_2 ws rs) N X) ws rs
noncomputable def L114 (id : Nat) (ws : List PV) (rs : List RowS) (N : St → Option R) (X : Nat → St → Option R) : Option R := bif id == 1000007 then L114_1000007 k K ws rs N X else bif id == 0 then L114_0 k K ws rs N X else bif id == 2 then L114_2 k K ws rs N X else none
theorem l114_1000007 (ws : List PV) (rs : List RowS) (N : St → Option R) (X : Nat → St → Option R) : L114 k K 1000007 ws rs N X = inner T an114 (modesOf F) 0 k 36 (S114 k) (ending T Try.f114 an114 0 K) cd114_1000007 (sh sp114_1000007 ws rs) N X := by
 show L114_1000007 k K ws rs N X = _
 unfold L114_1000007
 rw [f114_1000007_def]
 exact onShape_eq (a := [.val [(0, 0)] (.slice zT1), .val [] (.int .i64), .val [(0, 0)] (.slice zT1), .val [] (.int .i64), .val [] (.int .i64), .val [] .bool]) (b := []) (G := fun ws rs => inner T an114 (modesOf F) 0 k 36 (S114 k) (ending T Try.f114 an114 0 K) cd114_1000007 (sh sp114_1000007 ws rs) N X) (fun x y => Eq.trans (by kernel_rfl) (innerS_eq T an114 (modesOf F) 0 k 36 (S114 k) (L114 k K) cd114_1000007 (l := []) (by kernel_rfl) trivial _ N X)) ws rs
theorem b114_0 (rec : St → Option R) (N : St → Option R) (X : Nat → St → Option R) (v0_0 : List (zL5)) (v0_2 : List (zL5)) (v0_3 : Int) (v0_1 : Int) (v0_4 : Int) :
  execS T an114 (modesOf F) 0 k 36 (S114 k) (L114 k K) (ending T Try.f114 an114 0 K) bd114_0 (sh sp114_0 [.val [(0, 0)] (.slice zT1) v0_0, zi v0_1, .val [(0, 0)] (.slice zT1) v0_2, zi v0_3, zi v0_4] []) (fun st => atHead an114 0 bd114_0 st rec) (outX an114 0 0 N X) =
   f114_0b k (fun v0_1 v0_4 => rec (sh sp114_0 [.val [(0, 0)] (.slice zT1) v0_0, zi v0_1, .val [(0, 0)] (.slice zT1) v0_2, zi v0_3, zi v0_4] [])) (fun y0_1 => N (sh jn114_0 [.val [(0, 0)] (.slice zT1) v0_0, zi y0_1] [])) v0_0 v0_2 v0_3 v0_1 v0_4 := by kernel_rfl
theorem i114_0 (N : St → Option R) (X : Nat → St → Option R) (v0_0 : List (zL5)) (v0_2 : List (zL5)) (v0_3 : Int) (m : Nat) : ∀ (v0_1 : Int) (v0_4 : Int),
  iter (atHead an114 0 bd114_0) m (fun st N' => exec T an114 (modesOf F) 0 k 36 (S114 k) (ending T Try.f114 an114 0 K) bd114_0 st N' (outX an114 0 0 N X)) (sh sp114_0 [.val [(0, 0)] (.slice zT1) v0_0, zi v0_1, .val [(0, 0)] (.slice zT1) v0_2, zi v0_3, zi v0_4] []) = f114_0d k (fun y0_1 => N (sh jn114_0 [.val [(0, 0)] (.slice zT1) v0_0, zi y0_1] [])) v0_0 v0_2 v0_3 m v0_1 v0_4 := by
 induction m with
 | zero => intros; rfl
 | succ m ih =>
   intro v0_1 v0_4
   simp only [iter]
   rw [← execS_eq T an114 (modesOf F) 0 k 36 (S114 k) (L114 k K) bd114_0 (cuts_of _ _ _ _ _ _ _ _ bd114_0 (l := [(1000007, sp114_1000007, cd114_1000007)]) (by kernel_rfl) ⟨l114_1000007 k K, trivial⟩)]
   refine (b114_0 k K _ N X v0_0 v0_2 v0_3 v0_1 v0_4).trans ?_
   simp only [f114_0d, ih]
theorem l114_0 (ws : List PV) (rs : List RowS) (N : St → Option R) (X : Nat → St → Option R) : L114 k K 0 ws rs N X = inner T an114 (modesOf F) 0 k 36 (S114 k) (ending T Try.f114 an114 0 K) cd114_0 (sh sp114_0 ws rs) N X := by
 show L114_0 k K ws rs N X = _
 unfold L114_0
 rw [f114_0_def]
 exact onShape_eq (a := [.val [(0, 0)] (.slice zT1), .val [] (.int .i64), .val [(0, 0)] (.slice zT1), .val [] (.int .i64), .val [] (.int .i64)]) (b := []) (G := fun ws rs => inner T an114 (modesOf F) 0 k 36 (S114 k) (ending T Try.f114 an114 0 K) cd114_0 (sh sp114_0 ws rs) N X) (fun x y => Eq.trans (by kernel_rfl) (Eq.trans (i114_0 k K N X x.1 x.2.2.1 x.2.2.2.1 k x.2.1 x.2.2.2.2.1).symm (by kernel_rfl))) ws rs
theorem b114_2 (rec : St → Option R) (N : St → Option R) (X : Nat → St → Option R) (v2_0 : List (zL5)) (v2_1 : Int) (v2_2 : Int) (v2_3 : zL6) :
  execS T an114 (modesOf F) 0 k 36 (S114 k) (L114 k K) (ending T Try.f114 an114 0 K) bd114_2 (sh sp114_2 [.rw 1, .val [(0, 0)] (.slice zT1) v2_0, zi v2_1, zi v2_2] [⟨0, .arr [] (.prod (.int .i64) (.prod (.int .i64) .unit)) v2_3⟩]) (fun st => atHead an114 0 bd114_2 st rec) (outX an114 0 2 N X) =
   f114_2b k (fun v2_2 v2_3 => rec (sh sp114_2 [.rw 1, .val [(0, 0)] (.slice zT1) v2_0, zi v2_1, zi v2_2] [⟨0, .arr [] (.prod (.int .i64) (.prod (.int .i64) .unit)) v2_3⟩])) (fun y2_0 => N (sh jn114_2 [.rw 1] [⟨0, .arr [] (.prod (.int .i64) (.prod (.int .i64) .unit)) y2_0⟩])) v2_0 v2_1 v2_2 v2_3 := by kernel_rfl
theorem i114_2 (N : St → Option R) (X : Nat → St → Option R) (v2_0 : List (zL5)) (v2_1 : Int) (m : Nat) : ∀ (v2_2 : Int) (v2_3 : zL6),
  iter (atHead an114 0 bd114_2) m (fun st N' => exec T an114 (modesOf F) 0 k 36 (S114 k) (ending T Try.f114 an114 0 K) bd114_2 st N' (outX an114 0 2 N X)) (sh sp114_2 [.rw 1, .val [(0, 0)] (.slice zT1) v2_0, zi v2_1, zi v2_2] [⟨0, .arr [] (.prod (.int .i64) (.prod (.int .i64) .unit)) v2_3⟩]) = f114_2d k (fun y2_0 => N (sh jn114_2 [.rw 1] [⟨0, .arr [] (.prod (.int .i64) (.prod (.int .i64) .unit)) y2_0⟩])) v2_0 v2_1 m v2_2 v2_3 := by
 induction m with
 | zero => intros; rfl
 | succ m ih =>
   intro v2_2 v2_3
   simp only [iter]
   rw [← execS_eq T an114 (modesOf F) 0 k 36 (S114 k) (L114 k K) bd114_2 (cuts_of _ _ _ _ _ _ _ _ bd114_2 (l := []) (by kernel_rfl) trivial)]
   refine (b114_2 k K _ N X v2_0 v2_1 v2_2 v2_3).trans ?_
   simp only [f114_2d, ih]
theorem l114_2 (ws : List PV) (rs : List RowS) (N : St → Option R) (X : Nat → St → Option R) : L114 k K 2 ws rs N X = inner T an114 (modesOf F) 0 k 36 (S114 k) (ending T Try.f114 an114 0 K) cd114_2 (sh sp114_2 ws rs) N X := by
 show L114_2 k K ws rs N X = _
 unfold L114_2
 rw [f114_2_def]
 exact onShape_eq (a := [.rw 1, .val [(0, 0)] (.slice zT1), .val [] (.int .i64), .val [] (.int .i64)]) (b := [.arr [] (.prod (.int .i64) (.prod (.int .i64) .unit))]) (G := fun ws rs => inner T an114 (modesOf F) 0 k 36 (S114 k) (ending T Try.f114 an114 0 K) cd114_2 (sh sp114_2 ws rs) N X) (fun x y => Eq.trans (by kernel_rfl) (Eq.trans (i114_2 k K N X x.2.1 x.2.2.1 k x.2.2.2.1 y.1).symm (by kernel_rfl))) ws rs
end
theorem e114 (k : Nat) (a0 : List (zL5)) (K : List PV → List RowS → Option R) : callC T F k 114 [.val [(0, 0)] (.slice zT1) a0] [] K = f114 k a0 (fun z0 => K [.rw 1] [⟨0, .arr [] (.prod (.int .i64) (.prod (.int .i64) .unit)) z0⟩]) := by
 rw [f114_def]
 cases k with
 | zero => rfl
 | succ k =>
   refine Eq.trans (show _ = exec T an114 (modesOf F) 0 k 36 (callC T F k) (ending T Try.f114 an114 0 K) (bodyOf Try.f114) ⟨argEnv 0 [.val [(0, 0)] (.slice zT1) a0] (fun _ => none), rowsOf []⟩ (ending T Try.f114 an114 0 K) (fun _ _ => none) from by kernel_rfl) ?_
   rw [← S114_eq k, ← execS_eq T an114 (modesOf F) 0 k 36 (S114 k) (L114 k K) (bodyOf Try.f114) (cuts_of _ _ _ _ _ _ _ _ (bodyOf Try.f114) (l := [(0, sp114_0, cd114_0), (2, sp114_2, cd114_2)]) (by kernel_rfl) ⟨l114_0 k K, l114_2 k K, trivial⟩)]
   kernel_rfl
noncomputable def s114 (k : Nat) (a : List PV) (r : List RowS) (K : List PV → List RowS → Option R) : Option R :=
 onShape [.val [(0, 0)] (.slice zT1)] [] (fun v => f114 k v.1.1 (fun z0 => K [.rw 1] [⟨0, .arr [] (.prod (.int .i64) (.prod (.int .i64) .unit)) z0⟩])) (callC T F k 114 a r K) a r
theorem s114_eq (k : Nat) (a : List PV) (r : List RowS) (K : List PV → List RowS → Option R) : s114 k a r K = callC T F k 114 a r K := by
 unfold s114
 exact onShape_eq (a := [.val [(0, 0)] (.slice zT1)]) (b := []) (G := fun a r => callC T F k 114 a r K) (fun x y => Eq.trans (by kernel_rfl) (Eq.trans (e114 k x.1 K).symm (by kernel_rfl))) a r
end
section
variable {R : Type}
theorem e115 (k : Nat) (a0 : zL6) (K : List PV → List RowS → Option R) : callC T F k 115 [.rw 1, .fn 116 []] [⟨0, .arr [] (.prod (.int .i64) (.prod (.int .i64) .unit)) a0⟩] K = f115 k a0 (fun z0 => K [] [⟨0, .arr [] (.prod (.int .i64) (.prod (.int .i64) .unit)) z0⟩]) := by
 rw [f115_def]
 cases k with
 | zero => rfl
 | succ k => exact sort_call (m := [.any, .any]) (c := 116) (by kernel_rfl) a0 K
noncomputable def s115 (k : Nat) (a : List PV) (r : List RowS) (K : List PV → List RowS → Option R) : Option R :=
 onShape [.rw 1, .fn 116 []] [.arr [] (.prod (.int .i64) (.prod (.int .i64) .unit))] (fun v => f115 k v.2.1 (fun z0 => K [] [⟨0, .arr [] (.prod (.int .i64) (.prod (.int .i64) .unit)) z0⟩])) (callC T F k 115 a r K) a r
theorem s115_eq (k : Nat) (a : List PV) (r : List RowS) (K : List PV → List RowS → Option R) : s115 k a r K = callC T F k 115 a r K := by
 unfold s115
 exact onShape_eq (a := [.rw 1, .fn 116 []]) (b := [.arr [] (.prod (.int .i64) (.prod (.int .i64) .unit))]) (G := fun a r => callC T F k 115 a r K) (fun x y => Eq.trans (by kernel_rfl) (Eq.trans (e115 k y.1 K).symm (by kernel_rfl))) a r
end
section
variable {R : Type}
noncomputable def S86 (k g : Nat) (a : List PV) (r : List RowS) (K : List PV → List RowS → Option R) : Option R := bif g == 114 then s114 k a r K else bif g == 115 then s115 k a r K else callC T F k g a r K
theorem S86_eq (k : Nat) : S86 (R := R) k = callC T F k := by
 funext g a r K
 exact pick_eq (fun e => by subst e; exact s114_eq k a r K) (pick_eq (fun e => by subst e; exact s115_eq k a r K) (rfl))
section
variable {R : Type} (k : Nat) (K : List PV → List RowS → Option R)
noncomputable def L86_1000009 (ws : List PV) (rs : List RowS) (N : St → Option R) (X : Nat → St → Option R) : Option R :=
 onShape [.rw 1, .ptr 2 0, .val [] (.int .i64), .rw 3, .val [] (.int .i64), .val [] (.int .i64), .val [] .bool] [.arr [] (.prod (.int .i64) (.prod (.int .i64) .unit)), .vars [.val [] (.int .i64), .val [] (.int .i64)], .arr [] (.prod (.int .i64) (.prod (.int .i64) .unit))] (fun v => f86_1000009 k (fun yN_2 => N (sh fi86_9 [.rw 1, .rw 2, zi v.1.2.2.2.2.1, zi v.1.2.2.2.2.2.1] [⟨0, .arr [] (.prod (.int .i64) (.prod (.int .i64) .unit)) yN_2⟩, ⟨0, .arr [] (.prod (.int .i64) (.prod (.int .i64) .unit)) v.2.2.2.1⟩])) v.1.2.2.1 v.1.2.2.2.2.1 v.1.2.2.2.2.2.1 v.1.2.2.2.2.2.2.1 v.2.1 v.2.2.1.1 v.2.2.1.2.1 v.2.2.2.1) (inner T an86 (modesOf F) 0 k 57 (S86 k) (ending T Try.f86 an86 0 K) cd86_1000009 (sh sp86_1000009 ws rs) N X) ws rs
noncomputable def L86_0 (ws : List PV) (rs : List RowS) (N : St → Option R) (X : Nat → St → Option R) : Option R :=
 onShape [.rw 1, .rw 2, .val [] (.int .i64), .val [] (.int .i64)] [.arr [] (.prod (.int .i64) (.prod (.int .i64) .unit)), .arr [] (.prod (.int .i64) (.prod (.int .i64) .unit))] (fun v => f86_0 k (fun y0_0 => N (sh jn86_0 [.rw 1] [⟨0, .arr [] (.prod (.int .i64) (.prod (.int .i64) .unit)) y0_0⟩])) v.1.2.2.1 v.2.2.1 k v.1.2.2.2.1 v.2.1) (inner T an86 (modesOf F) 0 k 57 (S86 k) (ending T Try.f86 an86 0 K) cd86_0 (sh sp86_0 ws rs) N X) ws rs
noncomputable def L86 (id : Nat) (ws : List PV) (rs : List RowS) (N : St → Option R) (X : Nat → St → Option R) : Option R := bif id == 1000009 then L86_1000009 k K ws rs N X else bif id == 0 then L86_0 k K ws rs N X else none
theorem l86_1000009 (ws : List PV) (rs : List RowS) (N : St → Option R) (X : Nat → St → Option R) : L86 k K 1000009 ws rs N X = inner T an86 (modesOf F) 0 k 57 (S86 k) (ending T Try.f86 an86 0 K) cd86_1000009 (sh sp86_1000009 ws rs) N X := by
 show L86_1000009 k K ws rs N X = _
 unfold L86_1000009
 rw [f86_1000009_def]
 exact onShape_eq (a := [.rw 1, .ptr 2 0, .val [] (.int .i64), .rw 3, .val [] (.int .i64), .val [] (.int .i64), .val [] .bool]) (b := [.arr [] (.prod (.int .i64) (.prod (.int .i64) .unit)), .vars [.val [] (.int .i64), .val [] (.int .i64)], .arr [] (.prod (.int .i64) (.prod (.int .i64) .unit))]) (G := fun ws rs => inner T an86 (modesOf F) 0 k 57 (S86 k) (ending T Try.f86 an86 0 K) cd86_1000009 (sh sp86_1000009 ws rs) N X) (fun x y => Eq.trans (by kernel_rfl) (innerS_eq T an86 (modesOf F) 0 k 57 (S86 k) (L86 k K) cd86_1000009 (l := []) (by kernel_rfl) trivial _ N X)) ws rs
theorem b86_0 (rec : St → Option R) (N : St → Option R) (X : Nat → St → Option R) (v0_0 : Int) (v0_3 : zL6) (v0_1 : Int) (v0_2 : zL6) :
  execS T an86 (modesOf F) 0 k 57 (S86 k) (L86 k K) (ending T Try.f86 an86 0 K) bd86_0 (sh sp86_0 [.rw 1, .rw 2, zi v0_0, zi v0_1] [⟨0, .arr [] (.prod (.int .i64) (.prod (.int .i64) .unit)) v0_2⟩, ⟨0, .arr [] (.prod (.int .i64) (.prod (.int .i64) .unit)) v0_3⟩]) (fun st => atHead an86 0 bd86_0 st rec) (outX an86 0 0 N X) =
   f86_0b k (fun v0_1 v0_2 => rec (sh sp86_0 [.rw 1, .rw 2, zi v0_0, zi v0_1] [⟨0, .arr [] (.prod (.int .i64) (.prod (.int .i64) .unit)) v0_2⟩, ⟨0, .arr [] (.prod (.int .i64) (.prod (.int .i64) .unit)) v0_3⟩])) (fun y0_0 => N (sh jn86_0 [.rw 1] [⟨0, .arr [] (.prod (.int .i64) (.prod (.int .i64) .unit)) y0_0⟩])) v0_0 v0_3 v0_1 v0_2 := by kernel_rfl
theorem i86_0 (N : St → Option R) (X : Nat → St → Option R) (v0_0 : Int) (v0_3 : zL6) (m : Nat) : ∀ (v0_1 : Int) (v0_2 : zL6),
  iter (atHead an86 0 bd86_0) m (fun st N' => exec T an86 (modesOf F) 0 k 57 (S86 k) (ending T Try.f86 an86 0 K) bd86_0 st N' (outX an86 0 0 N X)) (sh sp86_0 [.rw 1, .rw 2, zi v0_0, zi v0_1] [⟨0, .arr [] (.prod (.int .i64) (.prod (.int .i64) .unit)) v0_2⟩, ⟨0, .arr [] (.prod (.int .i64) (.prod (.int .i64) .unit)) v0_3⟩]) = f86_0d k (fun y0_0 => N (sh jn86_0 [.rw 1] [⟨0, .arr [] (.prod (.int .i64) (.prod (.int .i64) .unit)) y0_0⟩])) v0_0 v0_3 m v0_1 v0_2 := by
 induction m with
 | zero => intros; rfl
 | succ m ih =>
   intro v0_1 v0_2
   simp only [iter]
   rw [← execS_eq T an86 (modesOf F) 0 k 57 (S86 k) (L86 k K) bd86_0 (cuts_of _ _ _ _ _ _ _ _ bd86_0 (l := [(1000009, sp86_1000009, cd86_1000009)]) (by kernel_rfl) ⟨l86_1000009 k K, trivial⟩)]
   refine (b86_0 k K _ N X v0_0 v0_3 v0_1 v0_2).trans ?_
   simp only [f86_0d, ih]
theorem l86_0 (ws : List PV) (rs : List RowS) (N : St → Option R) (X : Nat → St → Option R) : L86 k K 0 ws rs N X = inner T an86 (modesOf F) 0 k 57 (S86 k) (ending T Try.f86 an86 0 K) cd86_0 (sh sp86_0 ws rs) N X := by
 show L86_0 k K ws rs N X = _
 unfold L86_0
 rw [f86_0_def]
 exact onShape_eq (a := [.rw 1, .rw 2, .val [] (.int .i64), .val [] (.int .i64)]) (b := [.arr [] (.prod (.int .i64) (.prod (.int .i64) .unit)), .arr [] (.prod (.int .i64) (.prod (.int .i64) .unit))]) (G := fun ws rs => inner T an86 (modesOf F) 0 k 57 (S86 k) (ending T Try.f86 an86 0 K) cd86_0 (sh sp86_0 ws rs) N X) (fun x y => Eq.trans (by kernel_rfl) (Eq.trans (i86_0 k K N X x.2.2.1 y.2.1 k x.2.2.2.1 y.1).symm (by kernel_rfl))) ws rs
end
theorem e86 (k : Nat) (a0 : zL5) (a1 : zL5) (K : List PV → List RowS → Option R) : callC T F k 86 [.val [(0, 0)] zT1 a0, .val [(0, 0)] zT1 a1] [] K = f86 k a0 a1 (fun z0 => K [.rw 1] [⟨0, .arr [] (.prod (.int .i64) (.prod (.int .i64) .unit)) z0⟩]) := by
 rw [f86_def]
 cases k with
 | zero => rfl
 | succ k =>
   refine Eq.trans (show _ = exec T an86 (modesOf F) 0 k 57 (callC T F k) (ending T Try.f86 an86 0 K) (bodyOf Try.f86) ⟨argEnv 0 [.val [(0, 0)] zT1 a0, .val [(0, 0)] zT1 a1] (fun _ => none), rowsOf []⟩ (ending T Try.f86 an86 0 K) (fun _ _ => none) from by kernel_rfl) ?_
   rw [← S86_eq k, ← execS_eq T an86 (modesOf F) 0 k 57 (S86 k) (L86 k K) (bodyOf Try.f86) (cuts_of _ _ _ _ _ _ _ _ (bodyOf Try.f86) (l := [(0, sp86_0, cd86_0)]) (by kernel_rfl) ⟨l86_0 k K, trivial⟩)]
   kernel_rfl
noncomputable def s86 (k : Nat) (a : List PV) (r : List RowS) (K : List PV → List RowS → Option R) : Option R :=
 onShape [.val [(0, 0)] zT1, .val [(0, 0)] zT1] [] (fun v => f86 k v.1.1 v.1.2.1 (fun z0 => K [.rw 1] [⟨0, .arr [] (.prod (.int .i64) (.prod (.int .i64) .unit)) z0⟩])) (callC T F k 86 a r K) a r
theorem s86_eq (k : Nat) (a : List PV) (r : List RowS) (K : List PV → List RowS → Option R) : s86 k a r K = callC T F k 86 a r K := by
 unfold s86
 exact onShape_eq (a := [.val [(0, 0)] zT1, .val [(0, 0)] zT1]) (b := []) (G := fun a r => callC T F k 86 a r K) (fun x y => Eq.trans (by kernel_rfl) (Eq.trans (e86 k x.1 x.2.1 K).symm (by kernel_rfl))) a r
end
section
variable {R : Type}
noncomputable def S120 (k g : Nat) (a : List PV) (r : List RowS) (K : List PV → List RowS → Option R) : Option R := bif g == 77 then s77 k a r K else bif g == 86 then s86 k a r K else bif g == 87 then s87 k a r K else bif g == 135 then s135 k a r K else callC T F k g a r K
theorem S120_eq (k : Nat) : S120 (R := R) k = callC T F k := by
 funext g a r K
 exact pick_eq (fun e => by subst e; exact s77_eq k a r K) (pick_eq (fun e => by subst e; exact s86_eq k a r K) (pick_eq (fun e => by subst e; exact s87_eq k a r K) (pick_eq (fun e => by subst e; exact s135_eq k a r K) (rfl))))
section
variable {R : Type} (k : Nat) (K : List PV → List RowS → Option R)
noncomputable def L120_1000004 (ws : List PV) (rs : List RowS) (N : St → Option R) (X : Nat → St → Option R) : Option R :=
 onShape [.val [(0, 0)] zT2, .val [(0, 0)] zT1, .val [] (.int .i64), .val [(0, 0)] zT2, .val [] (.int .i64), .rw 1, .val [] .bool] [.arr [] (.int .u8)] (fun v => f120_1000004 k (fun yN_5 => N (sh fi120_4 [.val [(0, 0)] zT2 v.1.1, .val [(0, 0)] zT1 v.1.2.1, zi v.1.2.2.1, .val [(0, 0)] zT2 v.1.2.2.2.1, zi v.1.2.2.2.2.1, .rw 1] [⟨0, .arr [] (.int .u8) yN_5⟩])) v.1.1 v.1.2.1 v.1.2.2.1 v.1.2.2.2.1 v.1.2.2.2.2.1 v.1.2.2.2.2.2.2.1 v.2.1) (inner T an120 (modesOf F) 0 k 80 (S120 k) (ending T Try.f120 an120 0 K) cd120_1000004 (sh sp120_1000004 ws rs) N X) ws rs
noncomputable def L120_1000011 (ws : List PV) (rs : List RowS) (N : St → Option R) (X : Nat → St → Option R) : Option R :=
 onShape [.val [(0, 0)] zT1, .val [] (.int .i64), .val [(0, 0)] zT2, .val [] (.int .i64), .rw 1, .val [] .bool, .val [] (.int .i64), .val [] (.int .i64), .rw 2, .val [] (.int .i64), .val [] (.int .i64), .val [] .bool] [.arr [] (.int .u8), .arr [] (.prod (.int .i64) (.prod (.int .i64) .unit))] (fun v => f120_1000011 k (fun yN_4 yN_7 => N (sh fi120_11 [.val [(0, 0)] zT1 v.1.1, zi v.1.2.1, .val [(0, 0)] zT2 v.1.2.2.1, zi v.1.2.2.2.1, .rw 1, .val [] .bool yN_4, .rw 2, zi v.1.2.2.2.2.2.2.2.2.2.1, zi v.1.2.2.2.2.2.2.2.2.2.2.1] [⟨0, .arr [] (.int .u8) yN_7⟩, ⟨0, .arr [] (.prod (.int .i64) (.prod (.int .i64) .unit)) v.2.2.1⟩])) v.1.1 v.1.2.1 v.1.2.2.1 v.1.2.2.2.1 v.1.2.2.2.2.2.1 v.1.2.2.2.2.2.2.1 v.1.2.2.2.2.2.2.2.1 v.1.2.2.2.2.2.2.2.2.2.1 v.1.2.2.2.2.2.2.2.2.2.2.1 v.1.2.2.2.2.2.2.2.2.2.2.2.1 v.2.1 v.2.2.1) (inner T an120 (modesOf F) 0 k 80 (S120 k) (ending T Try.f120 an120 0 K) cd120_1000011 (sh sp120_1000011 ws rs) N X) ws rs
noncomputable def L120_0 (ws : List PV) (rs : List RowS) (N : St → Option R) (X : Nat → St → Option R) : Option R :=
 onShape [.val [(0, 0)] zT1, .val [] (.int .i64), .val [(0, 0)] zT2, .val [] (.int .i64), .rw 1, .val [] .bool, .rw 2, .val [] (.int .i64), .val [] (.int .i64)] [.arr [] (.int .u8), .arr [] (.prod (.int .i64) (.prod (.int .i64) .unit))] (fun v => f120_0 k (fun y0_3 y0_4 => N (sh jn120_0 [.val [(0, 0)] zT1 v.1.1, zi v.1.2.1, zi v.1.2.2.2.1, .rw 1, .val [] .bool y0_3] [⟨0, .arr [] (.int .u8) y0_4⟩])) v.1.1 v.1.2.1 v.1.2.2.1 v.1.2.2.2.1 v.1.2.2.2.2.2.2.2.1 v.2.2.1 k v.1.2.2.2.2.2.1 v.1.2.2.2.2.2.2.2.2.1 v.2.1) (inner T an120 (modesOf F) 0 k 80 (S120 k) (ending T Try.f120 an120 0 K) cd120_0 (sh sp120_0 ws rs) N X) ws rs
noncomputable def L120 (id : Nat) (ws : List PV) (rs : List RowS) (N : St → Option R) (X : Nat → St → Option R) : Option R := bif id == 1000004 then L120_1000004 k K ws rs N X else bif id == 1000011 then L120_1000011 k K ws rs N X else bif id == 0 then L120_0 k K ws rs N X else none
theorem l120_1000004 (ws : List PV) (rs : List RowS) (N : St → Option R) (X : Nat → St → Option R) : L120 k K 1000004 ws rs N X = inner T an120 (modesOf F) 0 k 80 (S120 k) (ending T Try.f120 an120 0 K) cd120_1000004 (sh sp120_1000004 ws rs) N X := by
 show L120_1000004 k K ws rs N X = _
 unfold L120_1000004
 rw [f120_1000004_def]
 exact onShape_eq (a := [.val [(0, 0)] zT2, .val [(0, 0)] zT1, .val [] (.int .i64), .val [(0, 0)] zT2, .val [] (.int .i64), .rw 1, .val [] .bool]) (b := [.arr [] (.int .u8)]) (G := fun ws rs => inner T an120 (modesOf F) 0 k 80 (S120 k) (ending T Try.f120 an120 0 K) cd120_1000004 (sh sp120_1000004 ws rs) N X) (fun x y => Eq.trans (by kernel_rfl) (innerS_eq T an120 (modesOf F) 0 k 80 (S120 k) (L120 k K) cd120_1000004 (l := []) (by kernel_rfl) trivial _ N X)) ws rs
theorem l120_1000011 (ws : List PV) (rs : List RowS) (N : St → Option R) (X : Nat → St → Option R) : L120 k K 1000011 ws rs N X = inner T an120 (modesOf F) 0 k 80 (S120 k) (ending T Try.f120 an120 0 K) cd120_1000011 (sh sp120_1000011 ws rs) N X := by
 show L120_1000011 k K ws rs N X = _
 unfold L120_1000011
 rw [f120_1000011_def]
 exact onShape_eq (a := [.val [(0, 0)] zT1, .val [] (.int .i64), .val [(0, 0)] zT2, .val [] (.int .i64), .rw 1, .val [] .bool, .val [] (.int .i64), .val [] (.int .i64), .rw 2, .val [] (.int .i64), .val [] (.int .i64), .val [] .bool]) (b := [.arr [] (.int .u8), .arr [] (.prod (.int .i64) (.prod (.int .i64) .unit))]) (G := fun ws rs => inner T an120 (modesOf F) 0 k 80 (S120 k) (ending T Try.f120 an120 0 K) cd120_1000011 (sh sp120_1000011 ws rs) N X) (fun x y => Eq.trans (by kernel_rfl) (innerS_eq T an120 (modesOf F) 0 k 80 (S120 k) (L120 k K) cd120_1000011 (l := []) (by kernel_rfl) trivial _ N X)) ws rs
theorem b120_0 (rec : St → Option R) (N : St → Option R) (X : Nat → St → Option R) (v0_0 : zL5) (v0_1 : Int) (v0_2 : List Int) (v0_3 : Int) (v0_5 : Int) (v0_8 : zL6) (v0_4 : Bool) (v0_6 : Int) (v0_7 : List Int) :
  execS T an120 (modesOf F) 0 k 80 (S120 k) (L120 k K) (ending T Try.f120 an120 0 K) bd120_0 (sh sp120_0 [.val [(0, 0)] zT1 v0_0, zi v0_1, .val [(0, 0)] zT2 v0_2, zi v0_3, .rw 1, .val [] .bool v0_4, .rw 2, zi v0_5, zi v0_6] [⟨0, .arr [] (.int .u8) v0_7⟩, ⟨0, .arr [] (.prod (.int .i64) (.prod (.int .i64) .unit)) v0_8⟩]) (fun st => atHead an120 0 bd120_0 st rec) (outX an120 0 0 N X) =
   f120_0b k (fun v0_4 v0_6 v0_7 => rec (sh sp120_0 [.val [(0, 0)] zT1 v0_0, zi v0_1, .val [(0, 0)] zT2 v0_2, zi v0_3, .rw 1, .val [] .bool v0_4, .rw 2, zi v0_5, zi v0_6] [⟨0, .arr [] (.int .u8) v0_7⟩, ⟨0, .arr [] (.prod (.int .i64) (.prod (.int .i64) .unit)) v0_8⟩])) (fun y0_3 y0_4 => N (sh jn120_0 [.val [(0, 0)] zT1 v0_0, zi v0_1, zi v0_3, .rw 1, .val [] .bool y0_3] [⟨0, .arr [] (.int .u8) y0_4⟩])) v0_0 v0_1 v0_2 v0_3 v0_5 v0_8 v0_4 v0_6 v0_7 := by kernel_rfl
theorem i120_0 (N : St → Option R) (X : Nat → St → Option R) (v0_0 : zL5) (v0_1 : Int) (v0_2 : List Int) (v0_3 : Int) (v0_5 : Int) (v0_8 : zL6) (m : Nat) : ∀ (v0_4 : Bool) (v0_6 : Int) (v0_7 : List Int),
  iter (atHead an120 0 bd120_0) m (fun st N' => exec T an120 (modesOf F) 0 k 80 (S120 k) (ending T Try.f120 an120 0 K) bd120_0 st N' (outX an120 0 0 N X)) (sh sp120_0 [.val [(0, 0)] zT1 v0_0, zi v0_1, .val [(0, 0)] zT2 v0_2, zi v0_3, .rw 1, .val [] .bool v0_4, .rw 2, zi v0_5, zi v0_6] [⟨0, .arr [] (.int .u8) v0_7⟩, ⟨0, .arr [] (.prod (.int .i64) (.prod (.int .i64) .unit)) v0_8⟩]) = f120_0d k (fun y0_3 y0_4 => N (sh jn120_0 [.val [(0, 0)] zT1 v0_0, zi v0_1, zi v0_3, .rw 1, .val [] .bool y0_3] [⟨0, .arr [] (.int .u8) y0_4⟩])) v0_0 v0_1 v0_2 v0_3 v0_5 v0_8 m v0_4 v0_6 v0_7 := by
 induction m with
 | zero => intros; rfl
 | succ m ih =>
   intro v0_4 v0_6 v0_7
   simp only [iter]
   rw [← execS_eq T an120 (modesOf F) 0 k 80 (S120 k) (L120 k K) bd120_0 (cuts_of _ _ _ _ _ _ _ _ bd120_0 (l := [(1000011, sp120_1000011, cd120_1000011)]) (by kernel_rfl) ⟨l120_1000011 k K, trivial⟩)]
   refine (b120_0 k K _ N X v0_0 v0_1 v0_2 v0_3 v0_5 v0_8 v0_4 v0_6 v0_7).trans ?_
   simp only [f120_0d, ih]
theorem l120_0 (ws : List PV) (rs : List RowS) (N : St → Option R) (X : Nat → St → Option R) : L120 k K 0 ws rs N X = inner T an120 (modesOf F) 0 k 80 (S120 k) (ending T Try.f120 an120 0 K) cd120_0 (sh sp120_0 ws rs) N X := by
 show L120_0 k K ws rs N X = _
 unfold L120_0
 rw [f120_0_def]
 exact onShape_eq (a := [.val [(0, 0)] zT1, .val [] (.int .i64), .val [(0, 0)] zT2, .val [] (.int .i64), .rw 1, .val [] .bool, .rw 2, .val [] (.int .i64), .val [] (.int .i64)]) (b := [.arr [] (.int .u8), .arr [] (.prod (.int .i64) (.prod (.int .i64) .unit))]) (G := fun ws rs => inner T an120 (modesOf F) 0 k 80 (S120 k) (ending T Try.f120 an120 0 K) cd120_0 (sh sp120_0 ws rs) N X) (fun x y => Eq.trans (by kernel_rfl) (Eq.trans (i120_0 k K N X x.1 x.2.1 x.2.2.1 x.2.2.2.1 x.2.2.2.2.2.2.2.1 y.2.1 k x.2.2.2.2.2.1 x.2.2.2.2.2.2.2.2.1 y.1).symm (by kernel_rfl))) ws rs
end
theorem e120 (k : Nat) (a0 : List Int) (a1 : zL5) (a2 : Int) (a3 : List Int) (K : List PV → List RowS → Option R) : callC T F k 120 [.val [(0, 0)] zT2 a0, .val [(0, 0)] zT1 a1, zi a2, .val [(0, 0)] zT2 a3] [] K = f120 k a0 a1 a2 a3 (fun z0 z1 z2 => K [.rw 1, .rw 2, .val [] .bool z0] [⟨0, .arr [] (.int .u8) z1⟩, ⟨0, .arr [] (.prod (.int .i64) (.prod (.int .i64) .unit)) z2⟩]) := by
 rw [f120_def]
 cases k with
 | zero => rfl
 | succ k =>
   refine Eq.trans (show _ = exec T an120 (modesOf F) 0 k 80 (callC T F k) (ending T Try.f120 an120 0 K) (bodyOf Try.f120) ⟨argEnv 0 [.val [(0, 0)] zT2 a0, .val [(0, 0)] zT1 a1, zi a2, .val [(0, 0)] zT2 a3] (fun _ => none), rowsOf []⟩ (ending T Try.f120 an120 0 K) (fun _ _ => none) from by kernel_rfl) ?_
   rw [← S120_eq k, ← execS_eq T an120 (modesOf F) 0 k 80 (S120 k) (L120 k K) (bodyOf Try.f120) (cuts_of _ _ _ _ _ _ _ _ (bodyOf Try.f120) (l := [(1000004, sp120_1000004, cd120_1000004), (0, sp120_0, cd120_0)]) (by kernel_rfl) ⟨l120_1000004 k K, l120_0 k K, trivial⟩)]
   kernel_rfl
noncomputable def s120 (k : Nat) (a : List PV) (r : List RowS) (K : List PV → List RowS → Option R) : Option R :=
 onShape [.val [(0, 0)] zT2, .val [(0, 0)] zT1, .val [] (.int .i64), .val [(0, 0)] zT2] [] (fun v => f120 k v.1.1 v.1.2.1 v.1.2.2.1 v.1.2.2.2.1 (fun z0 z1 z2 => K [.rw 1, .rw 2, .val [] .bool z0] [⟨0, .arr [] (.int .u8) z1⟩, ⟨0, .arr [] (.prod (.int .i64) (.prod (.int .i64) .unit)) z2⟩])) (callC T F k 120 a r K) a r
theorem s120_eq (k : Nat) (a : List PV) (r : List RowS) (K : List PV → List RowS → Option R) : s120 k a r K = callC T F k 120 a r K := by
 unfold s120
 exact onShape_eq (a := [.val [(0, 0)] zT2, .val [(0, 0)] zT1, .val [] (.int .i64), .val [(0, 0)] zT2]) (b := []) (G := fun a r => callC T F k 120 a r K) (fun x y => Eq.trans (by kernel_rfl) (Eq.trans (e120 k x.1 x.2.1 x.2.2.1 x.2.2.2.1 K).symm (by kernel_rfl))) a r
end
section
variable {R : Type}
noncomputable def S95 (k g : Nat) (a : List PV) (r : List RowS) (K : List PV → List RowS → Option R) : Option R := bif g == 87 then s87 k a r K else callC T F k g a r K
theorem S95_eq (k : Nat) : S95 (R := R) k = callC T F k := by
 funext g a r K
 exact pick_eq (fun e => by subst e; exact s87_eq k a r K) (rfl)
theorem e95 (k : Nat) (a0 : Int) (a1 : Int) (a2 : ByteArray) (a3 : List Int) (a4 : zL5) (a5 : Int) (a6 : Int) (a7 : Int) (a8 : Int) (K : List PV → List RowS → Option R) : callC T F k 95 [.agg [zi a0, zi a1, .val [] .str a2, .val [(0, 0)] zT2 a3, .val [(0, 0)] zT1 a4, zi a5, zi a6, zi a7, zi a8]] [] K = f95 k a0 a1 a2 a3 a4 a5 a6 a7 a8 (fun z0 => K [.rw 1] [⟨0, .arr [] (.prod (.int .i64) (.prod (.int .i64) .unit)) z0⟩]) := by
 rw [f95_def]
 cases k with
 | zero => rfl
 | succ k =>
   refine Eq.trans (show _ = exec T an95 (modesOf F) 0 k 8 (callC T F k) (ending T Try.f95 an95 0 K) (bodyOf Try.f95) ⟨argEnv 0 [.agg [zi a0, zi a1, .val [] .str a2, .val [(0, 0)] zT2 a3, .val [(0, 0)] zT1 a4, zi a5, zi a6, zi a7, zi a8]] (fun _ => none), rowsOf []⟩ (ending T Try.f95 an95 0 K) (fun _ _ => none) from by kernel_rfl) ?_
   rw [← S95_eq k, ← execS_eq T an95 (modesOf F) 0 k 8 (S95 k) (fun _ _ _ _ _ => none) (bodyOf Try.f95) (cuts_of _ _ _ _ _ _ _ _ (bodyOf Try.f95) (l := []) (by kernel_rfl) trivial)]
   kernel_rfl
noncomputable def s95 (k : Nat) (a : List PV) (r : List RowS) (K : List PV → List RowS → Option R) : Option R :=
 onShape [.agg [.val [] (.int .i64), .val [] (.int .i64), .val [] .str, .val [(0, 0)] zT2, .val [(0, 0)] zT1, .val [] (.int .i64), .val [] (.int .i64), .val [] (.int .i64), .val [] (.int .i64)]] [] (fun v => f95 k v.1.1.1 v.1.1.2.1 v.1.1.2.2.1 v.1.1.2.2.2.1 v.1.1.2.2.2.2.1 v.1.1.2.2.2.2.2.1 v.1.1.2.2.2.2.2.2.1 v.1.1.2.2.2.2.2.2.2.1 v.1.1.2.2.2.2.2.2.2.2.1 (fun z0 => K [.rw 1] [⟨0, .arr [] (.prod (.int .i64) (.prod (.int .i64) .unit)) z0⟩])) (callC T F k 95 a r K) a r
theorem s95_eq (k : Nat) (a : List PV) (r : List RowS) (K : List PV → List RowS → Option R) : s95 k a r K = callC T F k 95 a r K := by
 unfold s95
 exact onShape_eq (a := [.agg [.val [] (.int .i64), .val [] (.int .i64), .val [] .str, .val [(0, 0)] zT2, .val [(0, 0)] zT1, .val [] (.int .i64), .val [] (.int .i64), .val [] (.int .i64), .val [] (.int .i64)]]) (b := []) (G := fun a r => callC T F k 95 a r K) (fun x y => Eq.trans (by kernel_rfl) (Eq.trans (e95 k x.1.1 x.1.2.1 x.1.2.2.1 x.1.2.2.2.1 x.1.2.2.2.2.1 x.1.2.2.2.2.2.1 x.1.2.2.2.2.2.2.1 x.1.2.2.2.2.2.2.2.1 x.1.2.2.2.2.2.2.2.2.1 K).symm (by kernel_rfl))) a r
end
section
variable {R : Type}
noncomputable def S64 (k g : Nat) (a : List PV) (r : List RowS) (K : List PV → List RowS → Option R) : Option R := callC T F k g a r K
theorem S64_eq (k : Nat) : S64 (R := R) k = callC T F k := by
 funext g a r K
 exact rfl
section
variable {R : Type} (k : Nat) (K : List PV → List RowS → Option R)
noncomputable def L64_0 (ws : List PV) (rs : List RowS) (N : St → Option R) (X : Nat → St → Option R) : Option R :=
 onShape [.val [] (.int .i64), .val [(0, 0)] zT2, .val [] (.int .i64), .val [] (.int .i64)] [] (fun v => f64_0 k (fun y0_0 => N (sh jn64_0 [zi y0_0] [])) v.1.2.1 v.1.2.2.1 k v.1.1 v.1.2.2.2.1) (inner T an64 (modesOf F) 0 k 25 (S64 k) (ending T Try.f64 an64 0 K) cd64_0 (sh sp64_0 ws rs) N X) ws rs
noncomputable def L64 (id : Nat) (ws : List PV) (rs : List RowS) (N : St → Option R) (X : Nat → St → Option R) : Option R := bif id == 0 then L64_0 k K ws rs N X else none
theorem b64_0 (rec : St → Option R) (N : St → Option R) (X : Nat → St → Option R) (v0_1 : List Int) (v0_2 : Int) (v0_0 : Int) (v0_3 : Int) :
  execS T an64 (modesOf F) 0 k 25 (S64 k) (L64 k K) (ending T Try.f64 an64 0 K) bd64_0 (sh sp64_0 [zi v0_0, .val [(0, 0)] zT2 v0_1, zi v0_2, zi v0_3] []) (fun st => atHead an64 0 bd64_0 st rec) (outX an64 0 0 N X) =
   f64_0b k (fun v0_0 v0_3 => rec (sh sp64_0 [zi v0_0, .val [(0, 0)] zT2 v0_1, zi v0_2, zi v0_3] [])) (fun y0_0 => N (sh jn64_0 [zi y0_0] [])) v0_1 v0_2 v0_0 v0_3 := by kernel_rfl
theorem i64_0 (N : St → Option R) (X : Nat → St → Option R) (v0_1 : List Int) (v0_2 : Int) (m : Nat) : ∀ (v0_0 : Int) (v0_3 : Int),
  iter (atHead an64 0 bd64_0) m (fun st N' => exec T an64 (modesOf F) 0 k 25 (S64 k) (ending T Try.f64 an64 0 K) bd64_0 st N' (outX an64 0 0 N X)) (sh sp64_0 [zi v0_0, .val [(0, 0)] zT2 v0_1, zi v0_2, zi v0_3] []) = f64_0d k (fun y0_0 => N (sh jn64_0 [zi y0_0] [])) v0_1 v0_2 m v0_0 v0_3 := by
 induction m with
 | zero => intros; rfl
 | succ m ih =>
   intro v0_0 v0_3
   simp only [iter]
   rw [← execS_eq T an64 (modesOf F) 0 k 25 (S64 k) (L64 k K) bd64_0 (cuts_of _ _ _ _ _ _ _ _ bd64_0 (l := []) (by kernel_rfl) trivial)]
   refine (b64_0 k K _ N X v0_1 v0_2 v0_0 v0_3).trans ?_
   simp only [f64_0d, ih]
theorem l64_0 (ws : List PV) (rs : List RowS) (N : St → Option R) (X : Nat → St → Option R) : L64 k K 0 ws rs N X = inner T an64 (modesOf F) 0 k 25 (S64 k) (ending T Try.f64 an64 0 K) cd64_0 (sh sp64_0 ws rs) N X := by
 show L64_0 k K ws rs N X = _
 unfold L64_0
 rw [f64_0_def]
 exact onShape_eq (a := [.val [] (.int .i64), .val [(0, 0)] zT2, .val [] (.int .i64), .val [] (.int .i64)]) (b := []) (G := fun ws rs => inner T an64 (modesOf F) 0 k 25 (S64 k) (ending T Try.f64 an64 0 K) cd64_0 (sh sp64_0 ws rs) N X) (fun x y => Eq.trans (by kernel_rfl) (Eq.trans (i64_0 k K N X x.2.1 x.2.2.1 k x.1 x.2.2.2.1).symm (by kernel_rfl))) ws rs
end
theorem e64 (k : Nat) (a0 : List Int) (K : List PV → List RowS → Option R) : callC T F k 64 [.val [(0, 0)] zT2 a0] [] K = f64 k a0 (fun z0 => K [zi z0] []) := by
 rw [f64_def]
 cases k with
 | zero => rfl
 | succ k =>
   refine Eq.trans (show _ = exec T an64 (modesOf F) 0 k 25 (callC T F k) (ending T Try.f64 an64 0 K) (bodyOf Try.f64) ⟨argEnv 0 [.val [(0, 0)] zT2 a0] (fun _ => none), rowsOf []⟩ (ending T Try.f64 an64 0 K) (fun _ _ => none) from by kernel_rfl) ?_
   rw [← S64_eq k, ← execS_eq T an64 (modesOf F) 0 k 25 (S64 k) (L64 k K) (bodyOf Try.f64) (cuts_of _ _ _ _ _ _ _ _ (bodyOf Try.f64) (l := [(0, sp64_0, cd64_0)]) (by kernel_rfl) ⟨l64_0 k K, trivial⟩)]
   kernel_rfl
noncomputable def s64 (k : Nat) (a : List PV) (r : List RowS) (K : List PV → List RowS → Option R) : Option R :=
 onShape [.val [(0, 0)] zT2] [] (fun v => f64 k v.1.1 (fun z0 => K [zi z0] [])) (callC T F k 64 a r K) a r
theorem s64_eq (k : Nat) (a : List PV) (r : List RowS) (K : List PV → List RowS → Option R) : s64 k a r K = callC T F k 64 a r K := by
 unfold s64
 exact onShape_eq (a := [.val [(0, 0)] zT2]) (b := []) (G := fun a r => callC T F k 64 a r K) (fun x y => Eq.trans (by kernel_rfl) (Eq.trans (e64 k x.1 K).symm (by kernel_rfl))) a r
end
section
variable {R : Type}
noncomputable def S104 (k g : Nat) (a : List PV) (r : List RowS) (K : List PV → List RowS → Option R) : Option R := callC T F k g a r K
theorem S104_eq (k : Nat) : S104 (R := R) k = callC T F k := by
 funext g a r K
 exact rfl
theorem e104 (k : Nat) (K : List PV → List RowS → Option R) : callC T F k 104 [] [] K = f104 k (fun z0 z1 => K [.agg [zi z0, zi z1]] []) := by
 rw [f104_def]
 cases k with
 | zero => rfl
 | succ k =>
   refine Eq.trans (show _ = exec T an104 (modesOf F) 0 k 2 (callC T F k) (ending T Try.f104 an104 0 K) (bodyOf Try.f104) ⟨argEnv 0 [] (fun _ => none), rowsOf []⟩ (ending T Try.f104 an104 0 K) (fun _ _ => none) from by kernel_rfl) ?_
   rw [← S104_eq k, ← execS_eq T an104 (modesOf F) 0 k 2 (S104 k) (fun _ _ _ _ _ => none) (bodyOf Try.f104) (cuts_of _ _ _ _ _ _ _ _ (bodyOf Try.f104) (l := []) (by kernel_rfl) trivial)]
   kernel_rfl
noncomputable def s104 (k : Nat) (a : List PV) (r : List RowS) (K : List PV → List RowS → Option R) : Option R :=
 onShape [] [] (fun v => f104 k (fun z0 z1 => K [.agg [zi z0, zi z1]] [])) (callC T F k 104 a r K) a r
theorem s104_eq (k : Nat) (a : List PV) (r : List RowS) (K : List PV → List RowS → Option R) : s104 k a r K = callC T F k 104 a r K := by
 unfold s104
 exact onShape_eq (a := []) (b := []) (G := fun a r => callC T F k 104 a r K) (fun x y => Eq.trans (by kernel_rfl) (Eq.trans (e104 k K).symm (by kernel_rfl))) a r
end
section
variable {R : Type}
noncomputable def S131 (k g : Nat) (a : List PV) (r : List RowS) (K : List PV → List RowS → Option R) : Option R := bif g == 104 then s104 k a r K else bif g == 114 then s114 k a r K else callC T F k g a r K
theorem S131_eq (k : Nat) : S131 (R := R) k = callC T F k := by
 funext g a r K
 exact pick_eq (fun e => by subst e; exact s104_eq k a r K) (pick_eq (fun e => by subst e; exact s114_eq k a r K) (rfl))
theorem e131 (k : Nat) (a0 : zL5) (a1 : Bool) (K : List PV → List RowS → Option R) : callC T F k 131 [.val [(0, 0)] zT1 a0, .val [] .bool a1] [] K = f131 k a0 a1 (fun z0 => K [.val [(0, 0)] zT1 z0] []) := by
 rw [f131_def]
 cases k with
 | zero => rfl
 | succ k =>
   refine Eq.trans (show _ = exec T an131 (modesOf F) 0 k 12 (callC T F k) (ending T Try.f131 an131 0 K) (bodyOf Try.f131) ⟨argEnv 0 [.val [(0, 0)] zT1 a0, .val [] .bool a1] (fun _ => none), rowsOf []⟩ (ending T Try.f131 an131 0 K) (fun _ _ => none) from by kernel_rfl) ?_
   rw [← S131_eq k, ← execS_eq T an131 (modesOf F) 0 k 12 (S131 k) (fun _ _ _ _ _ => none) (bodyOf Try.f131) (cuts_of _ _ _ _ _ _ _ _ (bodyOf Try.f131) (l := []) (by kernel_rfl) trivial)]
   kernel_rfl
noncomputable def s131 (k : Nat) (a : List PV) (r : List RowS) (K : List PV → List RowS → Option R) : Option R :=
 onShape [.val [(0, 0)] zT1, .val [] .bool] [] (fun v => f131 k v.1.1 v.1.2.1 (fun z0 => K [.val [(0, 0)] zT1 z0] [])) (callC T F k 131 a r K) a r
theorem s131_eq (k : Nat) (a : List PV) (r : List RowS) (K : List PV → List RowS → Option R) : s131 k a r K = callC T F k 131 a r K := by
 unfold s131
 exact onShape_eq (a := [.val [(0, 0)] zT1, .val [] .bool]) (b := []) (G := fun a r => callC T F k 131 a r K) (fun x y => Eq.trans (by kernel_rfl) (Eq.trans (e131 k x.1 x.2.1 K).symm (by kernel_rfl))) a r
end
section
variable {R : Type}
noncomputable def S112 (k g : Nat) (a : List PV) (r : List RowS) (K : List PV → List RowS → Option R) : Option R := bif g == 95 then s95 k a r K else bif g == 131 then s131 k a r K else callC T F k g a r K
theorem S112_eq (k : Nat) : S112 (R := R) k = callC T F k := by
 funext g a r K
 exact pick_eq (fun e => by subst e; exact s95_eq k a r K) (pick_eq (fun e => by subst e; exact s131_eq k a r K) (rfl))
theorem e112 (k : Nat) (a0 : Int) (a1 : Int) (a2 : ByteArray) (a3 : List Int) (a4 : zL5) (a5 : Int) (a6 : Int) (a7 : Int) (a8 : Int) (K : List PV → List RowS → Option R) : callC T F k 112 [.agg [zi a0, zi a1, .val [] .str a2, .val [(0, 0)] zT2 a3, .val [(0, 0)] zT1 a4, zi a5, zi a6, zi a7, zi a8]] [] K = f112 k a0 a1 a2 a3 a4 a5 a6 a7 a8 (fun z0 z1 => K [.val [(0, 0)] zT1 z0, zi z1] []) := by
 rw [f112_def]
 cases k with
 | zero => rfl
 | succ k =>
   refine Eq.trans (show _ = exec T an112 (modesOf F) 0 k 15 (callC T F k) (ending T Try.f112 an112 0 K) (bodyOf Try.f112) ⟨argEnv 0 [.agg [zi a0, zi a1, .val [] .str a2, .val [(0, 0)] zT2 a3, .val [(0, 0)] zT1 a4, zi a5, zi a6, zi a7, zi a8]] (fun _ => none), rowsOf []⟩ (ending T Try.f112 an112 0 K) (fun _ _ => none) from by kernel_rfl) ?_
   rw [← S112_eq k, ← execS_eq T an112 (modesOf F) 0 k 15 (S112 k) (fun _ _ _ _ _ => none) (bodyOf Try.f112) (cuts_of _ _ _ _ _ _ _ _ (bodyOf Try.f112) (l := []) (by kernel_rfl) trivial)]
   kernel_rfl
noncomputable def s112 (k : Nat) (a : List PV) (r : List RowS) (K : List PV → List RowS → Option R) : Option R :=
 onShape [.agg [.val [] (.int .i64), .val [] (.int .i64), .val [] .str, .val [(0, 0)] zT2, .val [(0, 0)] zT1, .val [] (.int .i64), .val [] (.int .i64), .val [] (.int .i64), .val [] (.int .i64)]] [] (fun v => f112 k v.1.1.1 v.1.1.2.1 v.1.1.2.2.1 v.1.1.2.2.2.1 v.1.1.2.2.2.2.1 v.1.1.2.2.2.2.2.1 v.1.1.2.2.2.2.2.2.1 v.1.1.2.2.2.2.2.2.2.1 v.1.1.2.2.2.2.2.2.2.2.1 (fun z0 z1 => K [.val [(0, 0)] zT1 z0, zi z1] [])) (callC T F k 112 a r K) a r
theorem s112_eq (k : Nat) (a : List PV) (r : List RowS) (K : List PV → List RowS → Option R) : s112 k a r K = callC T F k 112 a r K := by
 unfold s112
 exact onShape_eq (a := [.agg [.val [] (.int .i64), .val [] (.int .i64), .val [] .str, .val [(0, 0)] zT2, .val [(0, 0)] zT1, .val [] (.int .i64), .val [] (.int .i64), .val [] (.int .i64), .val [] (.int .i64)]]) (b := []) (G := fun a r => callC T F k 112 a r K) (fun x y => Eq.trans (by kernel_rfl) (Eq.trans (e112 k x.1.1 x.1.2.1 x.1.2.2.1 x.1.2.2.2.1 x.1.2.2.2.2.1 x.1.2.2.2.2.2.1 x.1.2.2.2.2.2.2.1 x.1.2.2.2.2.2.2.2.1 x.1.2.2.2.2.2.2.2.2.1 K).symm (by kernel_rfl))) a r
end
section
variable {R : Type}
noncomputable def S92 (k g : Nat) (a : List PV) (r : List RowS) (K : List PV → List RowS → Option R) : Option R := bif g == 64 then s64 k a r K else bif g == 95 then s95 k a r K else bif g == 112 then s112 k a r K else bif g == 119 then s119 k a r K else bif g == 120 then s120 k a r K else callC T F k g a r K
theorem S92_eq (k : Nat) : S92 (R := R) k = callC T F k := by
 funext g a r K
 exact pick_eq (fun e => by subst e; exact s64_eq k a r K) (pick_eq (fun e => by subst e; exact s95_eq k a r K) (pick_eq (fun e => by subst e; exact s112_eq k a r K) (pick_eq (fun e => by subst e; exact s119_eq k a r K) (pick_eq (fun e => by subst e; exact s120_eq k a r K) (rfl)))))
section
variable {R : Type} (k : Nat) (K : List PV → List RowS → Option R)
noncomputable def L92_1000018 (ws : List PV) (rs : List RowS) (N : St → Option R) (X : Nat → St → Option R) : Option R :=
 onShape [.ptr 1 0, .ptr 2 0, .ptr 5 0, .ptr 6 0, .val [] .bool] [.vars [.val [] (.int .i64), .val [] (.int .i64), .val [] (.int .i64), .val [] (.int .i64), .val [] (.int .i64)], .vars [.val [] (.int .i64), .val [] (.int .i64), .val [] .str, .rw 3, .rw 4, .val [] (.int .i64), .val [] (.int .i64), .val [] (.int .i64), .val [] (.int .i64)], .arr [] (.int .u8), .arr [] (.prod (.int .i64) (.prod (.int .i64) .unit)), .vars [.val [] (.int .i64), .val [] (.int .i64), .val [] .str, .val [] (.int .i64), .val [] (.int .i64), .val [] (.int .i64), .val [(0, 0)] zT2, .val [(0, 0)] zT1, .val [] .bool], .vars [.val [] (.int .i64), .val [] (.int .i64), .val [] .str, .nils, .nils, .val [] (.int .i64), .val [] (.int .i64), .val [] (.int .i64), .val [] (.int .i64)]] (fun v => f92_1000018 k (fun yN_11 => N (sh fi92_18 [.ptr 1 0, .ptr 2 0, .ptr 5 0, .ptr 6 0] [⟨0, .vars [zi v.2.1.1, zi v.2.1.2.1, zi v.2.1.2.2.1, zi v.2.1.2.2.2.1, zi v.2.1.2.2.2.2.1]⟩, ⟨0, .vars [zi v.2.2.1.1, zi v.2.2.1.2.1, .val [] .str v.2.2.1.2.2.1, .rw 3, .rw 4, zi v.2.2.1.2.2.2.2.2.1, zi v.2.2.1.2.2.2.2.2.2.1, zi v.2.2.1.2.2.2.2.2.2.2.1, zi yN_11]⟩, ⟨0, .arr [] (.int .u8) v.2.2.2.1⟩, ⟨0, .arr [] (.prod (.int .i64) (.prod (.int .i64) .unit)) v.2.2.2.2.1⟩, ⟨0, .vars [zi v.2.2.2.2.2.1.1, zi v.2.2.2.2.2.1.2.1, .val [] .str v.2.2.2.2.2.1.2.2.1, zi v.2.2.2.2.2.1.2.2.2.1, zi v.2.2.2.2.2.1.2.2.2.2.1, zi v.2.2.2.2.2.1.2.2.2.2.2.1, .val [(0, 0)] zT2 v.2.2.2.2.2.1.2.2.2.2.2.2.1, .val [(0, 0)] zT1 v.2.2.2.2.2.1.2.2.2.2.2.2.2.1, .val [] .bool v.2.2.2.2.2.1.2.2.2.2.2.2.2.2.1]⟩, ⟨0, .vars [zi v.2.2.2.2.2.2.1.1, zi v.2.2.2.2.2.2.1.2.1, .val [] .str v.2.2.2.2.2.2.1.2.2.1, .nils, .nils, zi v.2.2.2.2.2.2.1.2.2.2.2.2.1, zi v.2.2.2.2.2.2.1.2.2.2.2.2.2.1, zi v.2.2.2.2.2.2.1.2.2.2.2.2.2.2.1, zi v.2.2.2.2.2.2.1.2.2.2.2.2.2.2.2.1]⟩])) v.1.2.2.2.2.1 v.2.1.1 v.2.1.2.1 v.2.1.2.2.1 v.2.1.2.2.2.1 v.2.1.2.2.2.2.1 v.2.2.1.1 v.2.2.1.2.1 v.2.2.1.2.2.1 v.2.2.1.2.2.2.2.2.1 v.2.2.1.2.2.2.2.2.2.1 v.2.2.1.2.2.2.2.2.2.2.1 v.2.2.1.2.2.2.2.2.2.2.2.1 v.2.2.2.1 v.2.2.2.2.1 v.2.2.2.2.2.1.1 v.2.2.2.2.2.1.2.1 v.2.2.2.2.2.1.2.2.1 v.2.2.2.2.2.1.2.2.2.1 v.2.2.2.2.2.1.2.2.2.2.1 v.2.2.2.2.2.1.2.2.2.2.2.1 v.2.2.2.2.2.1.2.2.2.2.2.2.1 v.2.2.2.2.2.1.2.2.2.2.2.2.2.1 v.2.2.2.2.2.1.2.2.2.2.2.2.2.2.1 v.2.2.2.2.2.2.1.1 v.2.2.2.2.2.2.1.2.1 v.2.2.2.2.2.2.1.2.2.1 v.2.2.2.2.2.2.1.2.2.2.2.2.1 v.2.2.2.2.2.2.1.2.2.2.2.2.2.1 v.2.2.2.2.2.2.1.2.2.2.2.2.2.2.1 v.2.2.2.2.2.2.1.2.2.2.2.2.2.2.2.1) (inner T an92 (modesOf F) 0 k 169 (S92 k) (ending T Try.f92 an92 0 K) cd92_1000018 (sh sp92_1000018 ws rs) N X) ws rs
noncomputable def L92_1000023 (ws : List PV) (rs : List RowS) (N : St → Option R) (X : Nat → St → Option R) : Option R :=
 onShape [.ptr 1 0, .ptr 2 0, .ptr 3 0, .ptr 4 0, .val [] .bool] [.vars [.val [] (.int .i64), .val [] (.int .i64), .val [] (.int .i64), .val [] (.int .i64), .val [] (.int .i64)], .vars [.val [] (.int .i64), .val [] (.int .i64), .val [] .str, .val [(0, 0)] zT2, .val [(0, 0)] zT1, .val [] (.int .i64), .val [] (.int .i64), .val [] (.int .i64), .val [] (.int .i64)], .vars [.val [] (.int .i64), .val [] (.int .i64), .val [] .str, .val [] (.int .i64), .val [] (.int .i64), .val [] (.int .i64), .val [(0, 0)] zT2, .val [(0, 0)] zT1, .val [] .bool], .vars [.val [] (.int .i64), .val [] (.int .i64), .val [] .str, .nils, .nils, .val [] (.int .i64), .val [] (.int .i64), .val [] (.int .i64), .val [] (.int .i64)]] (fun v => f92_1000023 k (fun yN_7 => N (sh fi92_23 [.ptr 1 0, .ptr 2 0, .ptr 3 0, .ptr 4 0] [⟨0, .vars [zi v.2.1.1, zi v.2.1.2.1, zi v.2.1.2.2.1, zi v.2.1.2.2.2.1, zi v.2.1.2.2.2.2.1]⟩, ⟨0, .vars [zi v.2.2.1.1, zi v.2.2.1.2.1, .val [] .str yN_7, .val [(0, 0)] zT2 v.2.2.1.2.2.2.1, .val [(0, 0)] zT1 v.2.2.1.2.2.2.2.1, zi v.2.2.1.2.2.2.2.2.1, zi v.2.2.1.2.2.2.2.2.2.1, zi v.2.2.1.2.2.2.2.2.2.2.1, zi v.2.2.1.2.2.2.2.2.2.2.2.1]⟩, ⟨0, .vars [zi v.2.2.2.1.1, zi v.2.2.2.1.2.1, .val [] .str v.2.2.2.1.2.2.1, zi v.2.2.2.1.2.2.2.1, zi v.2.2.2.1.2.2.2.2.1, zi v.2.2.2.1.2.2.2.2.2.1, .val [(0, 0)] zT2 v.2.2.2.1.2.2.2.2.2.2.1, .val [(0, 0)] zT1 v.2.2.2.1.2.2.2.2.2.2.2.1, .val [] .bool v.2.2.2.1.2.2.2.2.2.2.2.2.1]⟩, ⟨0, .vars [zi v.2.2.2.2.1.1, zi v.2.2.2.2.1.2.1, .val [] .str v.2.2.2.2.1.2.2.1, .nils, .nils, zi v.2.2.2.2.1.2.2.2.2.2.1, zi v.2.2.2.2.1.2.2.2.2.2.2.1, zi v.2.2.2.2.1.2.2.2.2.2.2.2.1, zi v.2.2.2.2.1.2.2.2.2.2.2.2.2.1]⟩])) v.1.2.2.2.2.1 v.2.1.1 v.2.1.2.1 v.2.1.2.2.1 v.2.1.2.2.2.1 v.2.1.2.2.2.2.1 v.2.2.1.1 v.2.2.1.2.1 v.2.2.1.2.2.1 v.2.2.1.2.2.2.1 v.2.2.1.2.2.2.2.1 v.2.2.1.2.2.2.2.2.1 v.2.2.1.2.2.2.2.2.2.1 v.2.2.1.2.2.2.2.2.2.2.1 v.2.2.1.2.2.2.2.2.2.2.2.1 v.2.2.2.1.1 v.2.2.2.1.2.1 v.2.2.2.1.2.2.1 v.2.2.2.1.2.2.2.1 v.2.2.2.1.2.2.2.2.1 v.2.2.2.1.2.2.2.2.2.1 v.2.2.2.1.2.2.2.2.2.2.1 v.2.2.2.1.2.2.2.2.2.2.2.1 v.2.2.2.1.2.2.2.2.2.2.2.2.1 v.2.2.2.2.1.1 v.2.2.2.2.1.2.1 v.2.2.2.2.1.2.2.1 v.2.2.2.2.1.2.2.2.2.2.1 v.2.2.2.2.1.2.2.2.2.2.2.1 v.2.2.2.2.1.2.2.2.2.2.2.2.1 v.2.2.2.2.1.2.2.2.2.2.2.2.2.1) (inner T an92 (modesOf F) 0 k 169 (S92 k) (ending T Try.f92 an92 0 K) cd92_1000023 (sh sp92_1000023 ws rs) N X) ws rs
noncomputable def L92_1000015 (ws : List PV) (rs : List RowS) (N : St → Option R) (X : Nat → St → Option R) : Option R :=
 onShape [.ptr 1 0, .ptr 2 0, .ptr 3 0, .ptr 4 0, .val [] .bool] [.vars [.val [] (.int .i64), .val [] (.int .i64), .val [] (.int .i64), .val [] (.int .i64), .val [] (.int .i64)], .vars [.val [] (.int .i64), .val [] (.int .i64), .val [] .str, .val [(0, 0)] zT2, .val [(0, 0)] zT1, .val [] (.int .i64), .val [] (.int .i64), .val [] (.int .i64), .val [] (.int .i64)], .vars [.val [] (.int .i64), .val [] (.int .i64), .val [] .str, .val [] (.int .i64), .val [] (.int .i64), .val [] (.int .i64), .val [(0, 0)] zT2, .val [(0, 0)] zT1, .val [] .bool], .vars [.val [] (.int .i64), .val [] (.int .i64), .val [] .str, .nils, .nils, .val [] (.int .i64), .val [] (.int .i64), .val [] (.int .i64), .val [] (.int .i64)]] (fun v => f92_1000015 k (fun z0 z1 z2 z3 z4 z5 z6 z7 z8 z9 z10 => K [.agg [zi z0, zi z1, .val [] .str z2, .val [(0, 0)] zT2 z3, .val [(0, 0)] zT1 z4, zi z5, zi z6, zi z7, zi z8], .rw 1, zi z9] [⟨0, .arr [(0, 0)] (.prod (.int .i64) (.prod (.int .i64) (.prod .str (.prod (.int .i64) (.prod (.int .i64) (.prod (.int .i64) (.prod zT2 (.prod zT1 (.prod .bool .unit))))))))) z10⟩]) (fun yN_7 yN_8 yN_9 yN_10 yN_11 yN_13 => N (sh fi92_15 [.ptr 1 0, .ptr 2 0, .ptr 3 0, .ptr 4 0] [⟨0, .vars [zi v.2.1.1, zi v.2.1.2.1, zi v.2.1.2.2.1, zi v.2.1.2.2.2.1, zi v.2.1.2.2.2.2.1]⟩, ⟨0, .vars [zi v.2.2.1.1, zi v.2.2.1.2.1, .val [] .str yN_7, .val [(0, 0)] zT2 yN_8, .val [(0, 0)] zT1 yN_9, zi yN_10, zi yN_11, zi v.2.2.1.2.2.2.2.2.2.2.1, zi yN_13]⟩, ⟨0, .vars [zi v.2.2.2.1.1, zi v.2.2.2.1.2.1, .val [] .str v.2.2.2.1.2.2.1, zi v.2.2.2.1.2.2.2.1, zi v.2.2.2.1.2.2.2.2.1, zi v.2.2.2.1.2.2.2.2.2.1, .val [(0, 0)] zT2 v.2.2.2.1.2.2.2.2.2.2.1, .val [(0, 0)] zT1 v.2.2.2.1.2.2.2.2.2.2.2.1, .val [] .bool v.2.2.2.1.2.2.2.2.2.2.2.2.1]⟩, ⟨0, .vars [zi v.2.2.2.2.1.1, zi v.2.2.2.2.1.2.1, .val [] .str v.2.2.2.2.1.2.2.1, .nils, .nils, zi v.2.2.2.2.1.2.2.2.2.2.1, zi v.2.2.2.2.1.2.2.2.2.2.2.1, zi v.2.2.2.2.1.2.2.2.2.2.2.2.1, zi v.2.2.2.2.1.2.2.2.2.2.2.2.2.1]⟩])) v.1.2.2.2.2.1 v.2.1.1 v.2.1.2.1 v.2.1.2.2.1 v.2.1.2.2.2.1 v.2.1.2.2.2.2.1 v.2.2.1.1 v.2.2.1.2.1 v.2.2.1.2.2.1 v.2.2.1.2.2.2.1 v.2.2.1.2.2.2.2.1 v.2.2.1.2.2.2.2.2.1 v.2.2.1.2.2.2.2.2.2.1 v.2.2.1.2.2.2.2.2.2.2.1 v.2.2.1.2.2.2.2.2.2.2.2.1 v.2.2.2.1.1 v.2.2.2.1.2.1 v.2.2.2.1.2.2.1 v.2.2.2.1.2.2.2.1 v.2.2.2.1.2.2.2.2.1 v.2.2.2.1.2.2.2.2.2.1 v.2.2.2.1.2.2.2.2.2.2.1 v.2.2.2.1.2.2.2.2.2.2.2.1 v.2.2.2.1.2.2.2.2.2.2.2.2.1 v.2.2.2.2.1.1 v.2.2.2.2.1.2.1 v.2.2.2.2.1.2.2.1 v.2.2.2.2.1.2.2.2.2.2.1 v.2.2.2.2.1.2.2.2.2.2.2.1 v.2.2.2.2.1.2.2.2.2.2.2.2.1 v.2.2.2.2.1.2.2.2.2.2.2.2.2.1) (inner T an92 (modesOf F) 0 k 169 (S92 k) (ending T Try.f92 an92 0 K) cd92_1000015 (sh sp92_1000015 ws rs) N X) ws rs
noncomputable def L92_1000025 (ws : List PV) (rs : List RowS) (N : St → Option R) (X : Nat → St → Option R) : Option R :=
 onShape [.ptr 1 0, .ptr 2 0, .ptr 3 0, .ptr 4 0, .val [] .bool] [.vars [.val [] (.int .i64), .val [] (.int .i64), .val [] (.int .i64), .val [] (.int .i64), .val [] (.int .i64)], .vars [.val [] (.int .i64), .val [] (.int .i64), .val [] .str, .val [(0, 0)] zT2, .val [(0, 0)] zT1, .val [] (.int .i64), .val [] (.int .i64), .val [] (.int .i64), .val [] (.int .i64)], .vars [.val [] (.int .i64), .val [] (.int .i64), .val [] .str, .val [] (.int .i64), .val [] (.int .i64), .val [] (.int .i64), .val [(0, 0)] zT2, .val [(0, 0)] zT1, .val [] .bool], .vars [.val [] (.int .i64), .val [] (.int .i64), .val [] .str, .nils, .nils, .val [] (.int .i64), .val [] (.int .i64), .val [] (.int .i64), .val [] (.int .i64)]] (fun v => f92_1000025 k (fun yN_5 => N (sh fi92_25 [.ptr 1 0, .ptr 2 0, .ptr 3 0, .ptr 4 0] [⟨0, .vars [zi v.2.1.1, zi v.2.1.2.1, zi v.2.1.2.2.1, zi v.2.1.2.2.2.1, zi v.2.1.2.2.2.2.1]⟩, ⟨0, .vars [zi yN_5, zi v.2.2.1.2.1, .val [] .str v.2.2.1.2.2.1, .val [(0, 0)] zT2 v.2.2.1.2.2.2.1, .val [(0, 0)] zT1 v.2.2.1.2.2.2.2.1, zi v.2.2.1.2.2.2.2.2.1, zi v.2.2.1.2.2.2.2.2.2.1, zi v.2.2.1.2.2.2.2.2.2.2.1, zi v.2.2.1.2.2.2.2.2.2.2.2.1]⟩, ⟨0, .vars [zi v.2.2.2.1.1, zi v.2.2.2.1.2.1, .val [] .str v.2.2.2.1.2.2.1, zi v.2.2.2.1.2.2.2.1, zi v.2.2.2.1.2.2.2.2.1, zi v.2.2.2.1.2.2.2.2.2.1, .val [(0, 0)] zT2 v.2.2.2.1.2.2.2.2.2.2.1, .val [(0, 0)] zT1 v.2.2.2.1.2.2.2.2.2.2.2.1, .val [] .bool v.2.2.2.1.2.2.2.2.2.2.2.2.1]⟩, ⟨0, .vars [zi v.2.2.2.2.1.1, zi v.2.2.2.2.1.2.1, .val [] .str v.2.2.2.2.1.2.2.1, .nils, .nils, zi v.2.2.2.2.1.2.2.2.2.2.1, zi v.2.2.2.2.1.2.2.2.2.2.2.1, zi v.2.2.2.2.1.2.2.2.2.2.2.2.1, zi v.2.2.2.2.1.2.2.2.2.2.2.2.2.1]⟩])) v.1.2.2.2.2.1 v.2.1.1 v.2.1.2.1 v.2.1.2.2.1 v.2.1.2.2.2.1 v.2.1.2.2.2.2.1 v.2.2.1.1 v.2.2.1.2.1 v.2.2.1.2.2.1 v.2.2.1.2.2.2.1 v.2.2.1.2.2.2.2.1 v.2.2.1.2.2.2.2.2.1 v.2.2.1.2.2.2.2.2.2.1 v.2.2.1.2.2.2.2.2.2.2.1 v.2.2.1.2.2.2.2.2.2.2.2.1 v.2.2.2.1.1 v.2.2.2.1.2.1 v.2.2.2.1.2.2.1 v.2.2.2.1.2.2.2.1 v.2.2.2.1.2.2.2.2.1 v.2.2.2.1.2.2.2.2.2.1 v.2.2.2.1.2.2.2.2.2.2.1 v.2.2.2.1.2.2.2.2.2.2.2.1 v.2.2.2.1.2.2.2.2.2.2.2.2.1 v.2.2.2.2.1.1 v.2.2.2.2.1.2.1 v.2.2.2.2.1.2.2.1 v.2.2.2.2.1.2.2.2.2.2.1 v.2.2.2.2.1.2.2.2.2.2.2.1 v.2.2.2.2.1.2.2.2.2.2.2.2.1 v.2.2.2.2.1.2.2.2.2.2.2.2.2.1) (inner T an92 (modesOf F) 0 k 169 (S92 k) (ending T Try.f92 an92 0 K) cd92_1000025 (sh sp92_1000025 ws rs) N X) ws rs
noncomputable def L92_1000030 (ws : List PV) (rs : List RowS) (N : St → Option R) (X : Nat → St → Option R) : Option R :=
 onShape [.ptr 1 0, .ptr 2 0, .val [] .bool, .val [] .bool] [.vars [.val [] (.int .i64), .val [] (.int .i64), .val [] .str, .val [(0, 0)] zT2, .val [(0, 0)] zT1, .val [] (.int .i64), .val [] (.int .i64), .val [] (.int .i64), .val [] (.int .i64)], .vars [.val [] (.int .i64), .val [] (.int .i64), .val [] .str, .nils, .nils, .val [] (.int .i64), .val [] (.int .i64), .val [] (.int .i64), .val [] (.int .i64)]] (fun v => f92_1000030 k (fun yN_1 => N (sh fi92_30 [.ptr 1 0, .ptr 2 0, .val [] .bool v.1.2.2.1] [⟨0, .vars [zi yN_1, zi v.2.1.2.1, .val [] .str v.2.1.2.2.1, .val [(0, 0)] zT2 v.2.1.2.2.2.1, .val [(0, 0)] zT1 v.2.1.2.2.2.2.1, zi v.2.1.2.2.2.2.2.1, zi v.2.1.2.2.2.2.2.2.1, zi v.2.1.2.2.2.2.2.2.2.1, zi v.2.1.2.2.2.2.2.2.2.2.1]⟩, ⟨0, .vars [zi v.2.2.1.1, zi v.2.2.1.2.1, .val [] .str v.2.2.1.2.2.1, .nils, .nils, zi v.2.2.1.2.2.2.2.2.1, zi v.2.2.1.2.2.2.2.2.2.1, zi v.2.2.1.2.2.2.2.2.2.2.1, zi v.2.2.1.2.2.2.2.2.2.2.2.1]⟩])) v.1.2.2.1 v.1.2.2.2.1 v.2.1.1 v.2.1.2.1 v.2.1.2.2.1 v.2.1.2.2.2.1 v.2.1.2.2.2.2.1 v.2.1.2.2.2.2.2.1 v.2.1.2.2.2.2.2.2.1 v.2.1.2.2.2.2.2.2.2.1 v.2.1.2.2.2.2.2.2.2.2.1 v.2.2.1.1 v.2.2.1.2.1 v.2.2.1.2.2.1 v.2.2.1.2.2.2.2.2.1 v.2.2.1.2.2.2.2.2.2.1 v.2.2.1.2.2.2.2.2.2.2.1 v.2.2.1.2.2.2.2.2.2.2.2.1) (inner T an92 (modesOf F) 0 k 169 (S92 k) (ending T Try.f92 an92 0 K) cd92_1000030 (sh sp92_1000030 ws rs) N X) ws rs
noncomputable def L92 (id : Nat) (ws : List PV) (rs : List RowS) (N : St → Option R) (X : Nat → St → Option R) : Option R := bif id == 1000018 then L92_1000018 k K ws rs N X else bif id == 1000023 then L92_1000023 k K ws rs N X else bif id == 1000015 then L92_1000015 k K ws rs N X else bif id == 1000025 then L92_1000025 k K ws rs N X else bif id == 1000030 then L92_1000030 k K ws rs N X else none
theorem l92_1000018 (ws : List PV) (rs : List RowS) (N : St → Option R) (X : Nat → St → Option R) : L92 k K 1000018 ws rs N X = inner T an92 (modesOf F) 0 k 169 (S92 k) (ending T Try.f92 an92 0 K) cd92_1000018 (sh sp92_1000018 ws rs) N X := by
 show L92_1000018 k K ws rs N X = _
 unfold L92_1000018
 rw [f92_1000018_def]
 exact onShape_eq (a := [.ptr 1 0, .ptr 2 0, .ptr 5 0, .ptr 6 0, .val [] .bool]) (b := [.vars [.val [] (.int .i64), .val [] (.int .i64), .val [] (.int .i64), .val [] (.int .i64), .val [] (.int .i64)], .vars [.val [] (.int .i64), .val [] (.int .i64), .val [] .str, .rw 3, .rw 4, .val [] (.int .i64), .val [] (.int .i64), .val [] (.int .i64), .val [] (.int .i64)], .arr [] (.int .u8), .arr [] (.prod (.int .i64) (.prod (.int .i64) .unit)), .vars [.val [] (.int .i64), .val [] (.int .i64), .val [] .str, .val [] (.int .i64), .val [] (.int .i64), .val [] (.int .i64), .val [(0, 0)] zT2, .val [(0, 0)] zT1, .val [] .bool], .vars [.val [] (.int .i64), .val [] (.int .i64), .val [] .str, .nils, .nils, .val [] (.int .i64), .val [] (.int .i64), .val [] (.int .i64), .val [] (.int .i64)]]) (G := fun ws rs => inner T an92 (modesOf F) 0 k 169 (S92 k) (ending T Try.f92 an92 0 K) cd92_1000018 (sh sp92_1000018 ws rs) N X) (fun x y => Eq.trans (by kernel_rfl) (innerS_eq T an92 (modesOf F) 0 k 169 (S92 k) (L92 k K) cd92_1000018 (l := []) (by kernel_rfl) trivial _ N X)) ws rs
theorem l92_1000023 (ws : List PV) (rs : List RowS) (N : St → Option R) (X : Nat → St → Option R) : L92 k K 1000023 ws rs N X = inner T an92 (modesOf F) 0 k 169 (S92 k) (ending T Try.f92 an92 0 K) cd92_1000023 (sh sp92_1000023 ws rs) N X := by
 show L92_1000023 k K ws rs N X = _
 unfold L92_1000023
 rw [f92_1000023_def]
 exact onShape_eq (a := [.ptr 1 0, .ptr 2 0, .ptr 3 0, .ptr 4 0, .val [] .bool]) (b := [.vars [.val [] (.int .i64), .val [] (.int .i64), .val [] (.int .i64), .val [] (.int .i64), .val [] (.int .i64)], .vars [.val [] (.int .i64), .val [] (.int .i64), .val [] .str, .val [(0, 0)] zT2, .val [(0, 0)] zT1, .val [] (.int .i64), .val [] (.int .i64), .val [] (.int .i64), .val [] (.int .i64)], .vars [.val [] (.int .i64), .val [] (.int .i64), .val [] .str, .val [] (.int .i64), .val [] (.int .i64), .val [] (.int .i64), .val [(0, 0)] zT2, .val [(0, 0)] zT1, .val [] .bool], .vars [.val [] (.int .i64), .val [] (.int .i64), .val [] .str, .nils, .nils, .val [] (.int .i64), .val [] (.int .i64), .val [] (.int .i64), .val [] (.int .i64)]]) (G := fun ws rs => inner T an92 (modesOf F) 0 k 169 (S92 k) (ending T Try.f92 an92 0 K) cd92_1000023 (sh sp92_1000023 ws rs) N X) (fun x y => Eq.trans (by kernel_rfl) (innerS_eq T an92 (modesOf F) 0 k 169 (S92 k) (L92 k K) cd92_1000023 (l := []) (by kernel_rfl) trivial _ N X)) ws rs
theorem l92_1000015 (ws : List PV) (rs : List RowS) (N : St → Option R) (X : Nat → St → Option R) : L92 k K 1000015 ws rs N X = inner T an92 (modesOf F) 0 k 169 (S92 k) (ending T Try.f92 an92 0 K) cd92_1000015 (sh sp92_1000015 ws rs) N X := by
 show L92_1000015 k K ws rs N X = _
 unfold L92_1000015
 rw [f92_1000015_def]
 exact onShape_eq (a := [.ptr 1 0, .ptr 2 0, .ptr 3 0, .ptr 4 0, .val [] .bool]) (b := [.vars [.val [] (.int .i64), .val [] (.int .i64), .val [] (.int .i64), .val [] (.int .i64), .val [] (.int .i64)], .vars [.val [] (.int .i64), .val [] (.int .i64), .val [] .str, .val [(0, 0)] zT2, .val [(0, 0)] zT1, .val [] (.int .i64), .val [] (.int .i64), .val [] (.int .i64), .val [] (.int .i64)], .vars [.val [] (.int .i64), .val [] (.int .i64), .val [] .str, .val [] (.int .i64), .val [] (.int .i64), .val [] (.int .i64), .val [(0, 0)] zT2, .val [(0, 0)] zT1, .val [] .bool], .vars [.val [] (.int .i64), .val [] (.int .i64), .val [] .str, .nils, .nils, .val [] (.int .i64), .val [] (.int .i64), .val [] (.int .i64), .val [] (.int .i64)]]) (G := fun ws rs => inner T an92 (modesOf F) 0 k 169 (S92 k) (ending T Try.f92 an92 0 K) cd92_1000015 (sh sp92_1000015 ws rs) N X) (fun x y => Eq.trans (by kernel_rfl) (innerS_eq T an92 (modesOf F) 0 k 169 (S92 k) (L92 k K) cd92_1000015 (l := [(1000018, sp92_1000018, cd92_1000018), (1000023, sp92_1000023, cd92_1000023)]) (by kernel_rfl) ⟨l92_1000018 k K, l92_1000023 k K, trivial⟩ _ N X)) ws rs
theorem l92_1000025 (ws : List PV) (rs : List RowS) (N : St → Option R) (X : Nat → St → Option R) : L92 k K 1000025 ws rs N X = inner T an92 (modesOf F) 0 k 169 (S92 k) (ending T Try.f92 an92 0 K) cd92_1000025 (sh sp92_1000025 ws rs) N X := by
 show L92_1000025 k K ws rs N X = _
 unfold L92_1000025
 rw [f92_1000025_def]
 exact onShape_eq (a := [.ptr 1 0, .ptr 2 0, .ptr 3 0, .ptr 4 0, .val [] .bool]) (b := [.vars [.val [] (.int .i64), .val [] (.int .i64), .val [] (.int .i64), .val [] (.int .i64), .val [] (.int .i64)], .vars [.val [] (.int .i64), .val [] (.int .i64), .val [] .str, .val [(0, 0)] zT2, .val [(0, 0)] zT1, .val [] (.int .i64), .val [] (.int .i64), .val [] (.int .i64), .val [] (.int .i64)], .vars [.val [] (.int .i64), .val [] (.int .i64), .val [] .str, .val [] (.int .i64), .val [] (.int .i64), .val [] (.int .i64), .val [(0, 0)] zT2, .val [(0, 0)] zT1, .val [] .bool], .vars [.val [] (.int .i64), .val [] (.int .i64), .val [] .str, .nils, .nils, .val [] (.int .i64), .val [] (.int .i64), .val [] (.int .i64), .val [] (.int .i64)]]) (G := fun ws rs => inner T an92 (modesOf F) 0 k 169 (S92 k) (ending T Try.f92 an92 0 K) cd92_1000025 (sh sp92_1000025 ws rs) N X) (fun x y => Eq.trans (by kernel_rfl) (innerS_eq T an92 (modesOf F) 0 k 169 (S92 k) (L92 k K) cd92_1000025 (l := []) (by kernel_rfl) trivial _ N X)) ws rs
theorem l92_1000030 (ws : List PV) (rs : List RowS) (N : St → Option R) (X : Nat → St → Option R) : L92 k K 1000030 ws rs N X = inner T an92 (modesOf F) 0 k 169 (S92 k) (ending T Try.f92 an92 0 K) cd92_1000030 (sh sp92_1000030 ws rs) N X := by
 show L92_1000030 k K ws rs N X = _
 unfold L92_1000030
 rw [f92_1000030_def]
 exact onShape_eq (a := [.ptr 1 0, .ptr 2 0, .val [] .bool, .val [] .bool]) (b := [.vars [.val [] (.int .i64), .val [] (.int .i64), .val [] .str, .val [(0, 0)] zT2, .val [(0, 0)] zT1, .val [] (.int .i64), .val [] (.int .i64), .val [] (.int .i64), .val [] (.int .i64)], .vars [.val [] (.int .i64), .val [] (.int .i64), .val [] .str, .nils, .nils, .val [] (.int .i64), .val [] (.int .i64), .val [] (.int .i64), .val [] (.int .i64)]]) (G := fun ws rs => inner T an92 (modesOf F) 0 k 169 (S92 k) (ending T Try.f92 an92 0 K) cd92_1000030 (sh sp92_1000030 ws rs) N X) (fun x y => Eq.trans (by kernel_rfl) (innerS_eq T an92 (modesOf F) 0 k 169 (S92 k) (L92 k K) cd92_1000030 (l := []) (by kernel_rfl) trivial _ N X)) ws rs
end
theorem e92 (k : Nat) (a0 : Int) (a1 : Int) (a2 : Int) (a3 : Int) (a4 : Int) (a5 : Int) (a6 : Int) (a7 : ByteArray) (a8 : List Int) (a9 : zL5) (a10 : Int) (a11 : Int) (a12 : Int) (a13 : Int) (a14 : Int) (a15 : Int) (a16 : ByteArray) (a17 : Int) (a18 : Int) (a19 : Int) (a20 : List Int) (a21 : zL5) (a22 : Bool) (K : List PV → List RowS → Option R) : callC T F k 92 [.agg [zi a0, zi a1, zi a2, zi a3, zi a4], .agg [zi a5, zi a6, .val [] .str a7, .val [(0, 0)] zT2 a8, .val [(0, 0)] zT1 a9, zi a10, zi a11, zi a12, zi a13], .agg [zi a14, zi a15, .val [] .str a16, zi a17, zi a18, zi a19, .val [(0, 0)] zT2 a20, .val [(0, 0)] zT1 a21, .val [] .bool a22]] [] K = f92 k a0 a1 a2 a3 a4 a5 a6 a7 a8 a9 a10 a11 a12 a13 a14 a15 a16 a17 a18 a19 a20 a21 a22 (fun z0 z1 z2 z3 z4 z5 z6 z7 z8 z9 z10 => K [.agg [zi z0, zi z1, .val [] .str z2, .val [(0, 0)] zT2 z3, .val [(0, 0)] zT1 z4, zi z5, zi z6, zi z7, zi z8], .rw 1, zi z9] [⟨0, .arr [(0, 0)] (.prod (.int .i64) (.prod (.int .i64) (.prod .str (.prod (.int .i64) (.prod (.int .i64) (.prod (.int .i64) (.prod zT2 (.prod zT1 (.prod .bool .unit))))))))) z10⟩]) := by
 rw [f92_def]
 cases k with
 | zero => rfl
 | succ k =>
   refine Eq.trans (show _ = exec T an92 (modesOf F) 0 k 169 (callC T F k) (ending T Try.f92 an92 0 K) (bodyOf Try.f92) ⟨argEnv 0 [.agg [zi a0, zi a1, zi a2, zi a3, zi a4], .agg [zi a5, zi a6, .val [] .str a7, .val [(0, 0)] zT2 a8, .val [(0, 0)] zT1 a9, zi a10, zi a11, zi a12, zi a13], .agg [zi a14, zi a15, .val [] .str a16, zi a17, zi a18, zi a19, .val [(0, 0)] zT2 a20, .val [(0, 0)] zT1 a21, .val [] .bool a22]] (fun _ => none), rowsOf []⟩ (ending T Try.f92 an92 0 K) (fun _ _ => none) from by kernel_rfl) ?_
   rw [← S92_eq k, ← execS_eq T an92 (modesOf F) 0 k 169 (S92 k) (L92 k K) (bodyOf Try.f92) (cuts_of _ _ _ _ _ _ _ _ (bodyOf Try.f92) (l := [(1000015, sp92_1000015, cd92_1000015), (1000025, sp92_1000025, cd92_1000025), (1000030, sp92_1000030, cd92_1000030)]) (by kernel_rfl) ⟨l92_1000015 k K, l92_1000025 k K, l92_1000030 k K, trivial⟩)]
   kernel_rfl
noncomputable def s92 (k : Nat) (a : List PV) (r : List RowS) (K : List PV → List RowS → Option R) : Option R :=
 onShape [.agg [.val [] (.int .i64), .val [] (.int .i64), .val [] (.int .i64), .val [] (.int .i64), .val [] (.int .i64)], .agg [.val [] (.int .i64), .val [] (.int .i64), .val [] .str, .val [(0, 0)] zT2, .val [(0, 0)] zT1, .val [] (.int .i64), .val [] (.int .i64), .val [] (.int .i64), .val [] (.int .i64)], .agg [.val [] (.int .i64), .val [] (.int .i64), .val [] .str, .val [] (.int .i64), .val [] (.int .i64), .val [] (.int .i64), .val [(0, 0)] zT2, .val [(0, 0)] zT1, .val [] .bool]] [] (fun v => f92 k v.1.1.1 v.1.1.2.1 v.1.1.2.2.1 v.1.1.2.2.2.1 v.1.1.2.2.2.2.1 v.1.2.1.1 v.1.2.1.2.1 v.1.2.1.2.2.1 v.1.2.1.2.2.2.1 v.1.2.1.2.2.2.2.1 v.1.2.1.2.2.2.2.2.1 v.1.2.1.2.2.2.2.2.2.1 v.1.2.1.2.2.2.2.2.2.2.1 v.1.2.1.2.2.2.2.2.2.2.2.1 v.1.2.2.1.1 v.1.2.2.1.2.1 v.1.2.2.1.2.2.1 v.1.2.2.1.2.2.2.1 v.1.2.2.1.2.2.2.2.1 v.1.2.2.1.2.2.2.2.2.1 v.1.2.2.1.2.2.2.2.2.2.1 v.1.2.2.1.2.2.2.2.2.2.2.1 v.1.2.2.1.2.2.2.2.2.2.2.2.1 (fun z0 z1 z2 z3 z4 z5 z6 z7 z8 z9 z10 => K [.agg [zi z0, zi z1, .val [] .str z2, .val [(0, 0)] zT2 z3, .val [(0, 0)] zT1 z4, zi z5, zi z6, zi z7, zi z8], .rw 1, zi z9] [⟨0, .arr [(0, 0)] (.prod (.int .i64) (.prod (.int .i64) (.prod .str (.prod (.int .i64) (.prod (.int .i64) (.prod (.int .i64) (.prod zT2 (.prod zT1 (.prod .bool .unit))))))))) z10⟩])) (callC T F k 92 a r K) a r
theorem s92_eq (k : Nat) (a : List PV) (r : List RowS) (K : List PV → List RowS → Option R) : s92 k a r K = callC T F k 92 a r K := by
 unfold s92
 exact onShape_eq (a := [.agg [.val [] (.int .i64), .val [] (.int .i64), .val [] (.int .i64), .val [] (.int .i64), .val [] (.int .i64)], .agg [.val [] (.int .i64), .val [] (.int .i64), .val [] .str, .val [(0, 0)] zT2, .val [(0, 0)] zT1, .val [] (.int .i64), .val [] (.int .i64), .val [] (.int .i64), .val [] (.int .i64)], .agg [.val [] (.int .i64), .val [] (.int .i64), .val [] .str, .val [] (.int .i64), .val [] (.int .i64), .val [] (.int .i64), .val [(0, 0)] zT2, .val [(0, 0)] zT1, .val [] .bool]]) (b := []) (G := fun a r => callC T F k 92 a r K) (fun x y => Eq.trans (by kernel_rfl) (Eq.trans (e92 k x.1.1 x.1.2.1 x.1.2.2.1 x.1.2.2.2.1 x.1.2.2.2.2.1 x.2.1.1 x.2.1.2.1 x.2.1.2.2.1 x.2.1.2.2.2.1 x.2.1.2.2.2.2.1 x.2.1.2.2.2.2.2.1 x.2.1.2.2.2.2.2.2.1 x.2.1.2.2.2.2.2.2.2.1 x.2.1.2.2.2.2.2.2.2.2.1 x.2.2.1.1 x.2.2.1.2.1 x.2.2.1.2.2.1 x.2.2.1.2.2.2.1 x.2.2.1.2.2.2.2.1 x.2.2.1.2.2.2.2.2.1 x.2.2.1.2.2.2.2.2.2.1 x.2.2.1.2.2.2.2.2.2.2.1 x.2.2.1.2.2.2.2.2.2.2.2.1 K).symm (by kernel_rfl))) a r
end
end Go.Proofs.Ytlcklflbhhnnhaa.PM
