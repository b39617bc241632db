/- The small machine's run is the typed form (printed by a program of this work). -/
import Derived.Test.YtecnlienmpdlaaaPA0
set_option linter.unusedVariables false
set_option linter.unusedSimpArgs false
set_option maxRecDepth 100000
namespace Go.Proofs.Ytecnlienmpdlaaa.PM
open Go
abbrev KT (R : Type) := List PV → List RowS → Option R
noncomputable def F : Nat → Option PFn := findN [(52, .code Try.f52 an52), (45, .code Try.f45 an45), (46, .code Try.f46 an46), (37, .code Try.f37 an37), (98, .code Try.f98 an98), (79, .code Try.f79 an79), (80, .code Try.f80 an80), (97, .code Try.f97 an97), (108, .code Try.f108 an108), (96, .code Try.f96 an96), (74, .code Try.f74 an74), (75, .code Try.f75 an75), (72, .ext [.lend (.int .u8)] (cloneSpec (.int .u8) 1)), (73, .code Try.f73 an73), (53, .code Try.f53 an53), (85, .code Try.f85 an85), (62, .code Try.f62 an62), (47, .code Try.f47 an47), (50, .code Try.f50 an50), (18, .code Try.f18 an18), (76, .code Try.f76 an76), (56, .code Try.f56 an56), (59, .code Try.f59 an59), (88, .ext [.any] ssSpec), (89, .code Try.f89 an89), (66, .code Try.f66 an66), (106, .code Try.f106 an106), (91, .code Try.f91 an91), (104, .ext [.any, .any] (skSpec (.prod (.int .i64) (.prod (.prod (.int .i64) (.prod .bool (.prod .str (.prod (.int .i64) (.prod .bool (.prod (.slice (.int .u8)) .unit)))))) .unit)) 105 keyIx)), (92, .code Try.f92 an92), (93, .ext [.any, .any] (skSpec (.prod (.int .i64) (.prod (.int .i64) (.prod .bool (.prod .bool .unit)))) 94 keyGen)), (69, .code Try.f69 an69), (90, .code Try.f90 an90), (68, .code Try.f68 an68), (67, .code Try.f67 an67), (87, .code Try.f87 an87), (65, .code Try.f65 an65), (31, .code Try.f31 an31), (58, .code Try.f58 an58), (32, .code Try.f32 an32), (16, .code Try.f16 an16), (13, .code Try.f13 an13), (33, .code Try.f33 an33), (70, .code Try.f70 an70), (34, .code Try.f34 an34), (95, .code Try.f95 an95), (71, .code Try.f71 an71), (35, .code Try.f35 an35), (8, .code Try.f8 an8)]
theorem fx1 {α β : Type} {f g : α → β} (h : ∀ a, f a = g a) : f = g := funext h
theorem fx2 {α0 α1 β : Type} {f g : α0 → α1 → β} (h : ∀ a0 a1, f a0 a1 = g a0 a1) : f = g := funext fun a0 => fx1 fun a1 => h a0 a1
theorem fx3 {α0 α1 α2 β : Type} {f g : α0 → α1 → α2 → β} (h : ∀ a0 a1 a2, f a0 a1 a2 = g a0 a1 a2) : f = g := funext fun a0 => fx2 fun a1 a2 => h a0 a1 a2
theorem fx4 {α0 α1 α2 α3 β : Type} {f g : α0 → α1 → α2 → α3 → β} (h : ∀ a0 a1 a2 a3, f a0 a1 a2 a3 = g a0 a1 a2 a3) : f = g := funext fun a0 => fx3 fun a1 a2 a3 => h a0 a1 a2 a3
theorem fx5 {α0 α1 α2 α3 α4 β : Type} {f g : α0 → α1 → α2 → α3 → α4 → β} (h : ∀ a0 a1 a2 a3 a4, f a0 a1 a2 a3 a4 = g a0 a1 a2 a3 a4) : f = g := funext fun a0 => fx4 fun a1 a2 a3 a4 => h a0 a1 a2 a3 a4
theorem fx6 {α0 α1 α2 α3 α4 α5 β : Type} {f g : α0 → α1 → α2 → α3 → α4 → α5 → β} (h : ∀ a0 a1 a2 a3 a4 a5, f a0 a1 a2 a3 a4 a5 = g a0 a1 a2 a3 a4 a5) : f = g := funext fun a0 => fx5 fun a1 a2 a3 a4 a5 => h a0 a1 a2 a3 a4 a5
theorem fx7 {α0 α1 α2 α3 α4 α5 α6 β : Type} {f g : α0 → α1 → α2 → α3 → α4 → α5 → α6 → β} (h : ∀ a0 a1 a2 a3 a4 a5 a6, f a0 a1 a2 a3 a4 a5 a6 = g a0 a1 a2 a3 a4 a5 a6) : f = g := funext fun a0 => fx6 fun a1 a2 a3 a4 a5 a6 => h a0 a1 a2 a3 a4 a5 a6
theorem fx8 {α0 α1 α2 α3 α4 α5 α6 α7 β : Type} {f g : α0 → α1 → α2 → α3 → α4 → α5 → α6 → α7 → β} (h : ∀ a0 a1 a2 a3 a4 a5 a6 a7, f a0 a1 a2 a3 a4 a5 a6 a7 = g a0 a1 a2 a3 a4 a5 a6 a7) : f = g := funext fun a0 => fx7 fun a1 a2 a3 a4 a5 a6 a7 => h a0 a1 a2 a3 a4 a5 a6 a7
theorem fx9 {α0 α1 α2 α3 α4 α5 α6 α7 α8 β : Type} {f g : α0 → α1 → α2 → α3 → α4 → α5 → α6 → α7 → α8 → β} (h : ∀ a0 a1 a2 a3 a4 a5 a6 a7 a8, f a0 a1 a2 a3 a4 a5 a6 a7 a8 = g a0 a1 a2 a3 a4 a5 a6 a7 a8) : f = g := funext fun a0 => fx8 fun a1 a2 a3 a4 a5 a6 a7 a8 => h a0 a1 a2 a3 a4 a5 a6 a7 a8
theorem fx10 {α0 α1 α2 α3 α4 α5 α6 α7 α8 α9 β : Type} {f g : α0 → α1 → α2 → α3 → α4 → α5 → α6 → α7 → α8 → α9 → β} (h : ∀ a0 a1 a2 a3 a4 a5 a6 a7 a8 a9, f a0 a1 a2 a3 a4 a5 a6 a7 a8 a9 = g a0 a1 a2 a3 a4 a5 a6 a7 a8 a9) : f = g := funext fun a0 => fx9 fun a1 a2 a3 a4 a5 a6 a7 a8 a9 => h a0 a1 a2 a3 a4 a5 a6 a7 a8 a9
theorem fx11 {α0 α1 α2 α3 α4 α5 α6 α7 α8 α9 α10 β : Type} {f g : α0 → α1 → α2 → α3 → α4 → α5 → α6 → α7 → α8 → α9 → α10 → β} (h : ∀ a0 a1 a2 a3 a4 a5 a6 a7 a8 a9 a10, f a0 a1 a2 a3 a4 a5 a6 a7 a8 a9 a10 = g a0 a1 a2 a3 a4 a5 a6 a7 a8 a9 a10) : f = g := funext fun a0 => fx10 fun a1 a2 a3 a4 a5 a6 a7 a8 a9 a10 => h a0 a1 a2 a3 a4 a5 a6 a7 a8 a9 a10
theorem fx12 {α0 α1 α2 α3 α4 α5 α6 α7 α8 α9 α10 α11 β : Type} {f g : α0 → α1 → α2 → α3 → α4 → α5 → α6 → α7 → α8 → α9 → α10 → α11 → β} (h : ∀ a0 a1 a2 a3 a4 a5 a6 a7 a8 a9 a10 a11, f a0 a1 a2 a3 a4 a5 a6 a7 a8 a9 a10 a11 = g a0 a1 a2 a3 a4 a5 a6 a7 a8 a9 a10 a11) : f = g := funext fun a0 => fx11 fun a1 a2 a3 a4 a5 a6 a7 a8 a9 a10 a11 => h a0 a1 a2 a3 a4 a5 a6 a7 a8 a9 a10 a11
section
variable {R : Type}
noncomputable def onS (a : List Sh) (b : List RSh) (g : Nat → Sh.D.DL a × RSh.DL b → KT R → Option R) (o : Nat → List PV → List RowS → KT R → Option R) (k : Nat) (ws : List PV) (rs : List RowS) (K : KT R) : Option R := onShape a b (fun v => g k v K) (o k ws rs K) ws rs
abbrev sOk (s : Nat → List PV → List RowS → KT R → Option R) (f : Nat) : Prop := ∀ k ws rs K, s k ws rs K = callC T F k f ws rs K
abbrev tOk (f : Nat) (a : List Sh) (b : List RSh) (g : Nat → Sh.D.DL a × RSh.DL b → KT R → Option R) : Prop := ∀ k x y K, callC T F k f (Sh.build.buildL a x) (RSh.buildL b y) K = g k (x, y) K
theorem onS_eq {a : List Sh} {b : List RSh} {g : Nat → Sh.D.DL a × RSh.DL b → KT R → Option R} {o : Nat → List PV → List RowS → KT R → Option R} {f : Nat} (ho : sOk o f) (h : tOk f a b g) : sOk (onS a b g o) f := by
  intro k ws rs K
  unfold onS
  rw [ho]
  exact onShape_eq (G := fun ws rs => callC T F k f ws rs K) (fun x y => (h k x y K).symm) ws rs
noncomputable def pickS (l : List (Nat × (Nat → List PV → List RowS → KT R → Option R))) (k g : Nat) (ws : List PV) (rs : List RowS) (K : KT R) : Option R := match l with
  | [] => callC T F k g ws rs K
  | (n, s) :: l => bif g == n then s k ws rs K else pickS l k g ws rs K
def pickOk : List (Nat × (Nat → List PV → List RowS → KT R → Option R)) → Prop
  | [] => True
  | (n, s) :: l => sOk s n ∧ pickOk l
theorem pickS_eq : ∀ {l : List (Nat × (Nat → List PV → List RowS → KT R → Option R))}, pickOk l → ∀ k, pickS l k = callC T F k
  | [], _, k => rfl
  | (n, s) :: l, h, k => by
    funext g ws rs K
    unfold pickS
    exact pick_eq (fun e => by subst e; exact h.1 k ws rs K) (by rw [pickS_eq h.2 k])
theorem eS (fn : Func) (an : Ann) (n nt : Nat) {f k : Nat} {ws : List PV} {rs : List RowS} {K : KT R} {S : Nat → List PV → List RowS → KT R → Option R} (L : Nat → List PV → List RowS → (St → Option R) → (Nat → St → Option R) → Option R) (l : List (Nat × List (Nat × Mode) × Code)) {q : Option R}
    (h1 : callC T F (k + 1) f ws rs K = exec T an (modesOf F) n k nt (callC T F k) (ending T fn an n K) (bodyOf fn) ⟨argEnv 0 ws (fun _ => none), rowsOf rs⟩ (ending T fn an n K) (fun _ _ => none))
    (h2 : S = callC T F k) (h3 : cutBlocks an (bodyOf fn) = l) (h4 : CutsOkL T an (modesOf F) n k nt S L (ending T fn an n K) l)
    (h5 : execS T an (modesOf F) n k nt S L (ending T fn an n K) (bodyOf fn) ⟨argEnv 0 ws (fun _ => none), rowsOf rs⟩ (ending T fn an n K) (fun _ _ => none) = q) : callC T F (k + 1) f ws rs K = q := by
  rw [h1, ← h2, ← execS_eq T an (modesOf F) n k nt S L (bodyOf fn) (cuts_of _ _ _ _ _ _ _ _ _ h3 h4)]
  exact h5
theorem lC {a : List Sh} {b : List RSh} {g : Sh.D.DL a × RSh.DL b → Option R} {an : Ann} {n k nt : Nat} {S : Nat → List PV → List RowS → KT R → Option R} (L : Nat → List PV → List RowS → (St → Option R) → (Nat → St → Option R) → Option R) (l : List (Nat × List (Nat × Mode) × Code)) {Rt : St → Option R} {cd : Code} {sp : List (Nat × Mode)} {ws : List PV} {rs : List RowS} {N : St → Option R} {X : Nat → St → Option R}
    (h3 : cutsIn an cd = l) (h4 : CutsOkL T an (modesOf F) n k nt S L Rt l) (h : ∀ x y, g (x, y) = innerS T an (modesOf F) n k nt S L Rt cd (sh sp (Sh.build.buildL a x) (RSh.buildL b y)) N X) :
    onShape a b g (inner T an (modesOf F) n k nt S Rt cd (sh sp ws rs) N X) ws rs = inner T an (modesOf F) n k nt S Rt cd (sh sp ws rs) N X :=
  onShape_eq (G := fun ws rs => inner T an (modesOf F) n k nt S Rt cd (sh sp ws rs) N X) (fun x y => (h x y).trans (innerS_eq T an (modesOf F) n k nt S L cd h3 h4 _ N X)) ws rs
noncomputable abbrev L0 : Nat → List PV → List RowS → (St → Option R) → (Nat → St → Option R) → Option R := fun _ _ _ _ _ => none
end
variable {R : Type} (k : Nat) (K : KT R) (id : Nat) (ws : List PV) (rs : List RowS) (N : St → Option R) (X : Nat → St → Option R)
noncomputable abbrev kt52 : Bool → Option R := (fun z0 => K [.val [] .bool z0] [])
abbrev aa52 : List Sh := [.val [] (.int .i64), .val [] (.int .i64), .val [] (.int .i64)]
abbrev ab52 : List RSh := []
noncomputable def g52 (k : Nat) (v : Sh.D.DL aa52 × RSh.DL ab52) (K : KT R) : Option R := f52 k v.1.1 v.1.2.1 v.1.2.2.1 (kt52 K)
noncomputable abbrev E52 := ending T Try.f52 an52 0 K
noncomputable def S52 := pickS (R := R) []
theorem S52_eq : ∀ k, S52 (R := R) k = callC T F k := pickS_eq trivial
theorem tu52 : tOk (R := R) 52 aa52 ab52 g52 := by
  intro k x y K
  unfold g52
  rw [f52_def]
  cases k with
  | zero => rfl
  | succ k => exact eS Try.f52 an52 0 15 L0 [] (by kernel_rfl) (S52_eq k) (by kernel_rfl) trivial (by kernel_rfl)
noncomputable def s52 := onS (R := R) aa52 ab52 g52 (fun k => callC T F k 52)
theorem s52_eq : sOk (R := R) s52 52 := onS_eq (fun _ _ _ _ => rfl) tu52
noncomputable abbrev kt45 : Int → Option R := (fun z0 => K [.val [] (.int .i64) z0] [])
abbrev aa45 : List Sh := [.agg [.val [] (.int .i64), .val [] (.int .i64), .val [] (.int .i64), .val [(0, 0)] (.slice (.int .u8)), .val [(0, 0)] (.slice (.int .i64)), .val [(0, 0)] (.slice (.int .i64))]]
abbrev ab45 : List RSh := []
noncomputable def g45 (k : Nat) (v : Sh.D.DL aa45 × RSh.DL ab45) (K : KT R) : Option R := f45 k v.1.1.1 v.1.1.2.1 v.1.1.2.2.1 v.1.1.2.2.2.1 v.1.1.2.2.2.2.1 v.1.1.2.2.2.2.2.1 (kt45 K)
noncomputable abbrev E45 := ending T Try.f45 an45 0 K
noncomputable def S45 := pickS (R := R) [(52, s52)]
theorem S45_eq : ∀ k, S45 (R := R) k = callC T F k := pickS_eq ⟨s52_eq, trivial⟩
theorem tu45 : tOk (R := R) 45 aa45 ab45 g45 := by
  intro k x y K
  unfold g45
  rw [f45_def]
  cases k with
  | zero => rfl
  | succ k => exact eS Try.f45 an45 0 30 L0 [] (by kernel_rfl) (S45_eq k) (by kernel_rfl) trivial (by kernel_rfl)
noncomputable def s45 := onS (R := R) aa45 ab45 g45 (fun k => callC T F k 45)
theorem s45_eq : sOk (R := R) s45 45 := onS_eq (fun _ _ _ _ => rfl) tu45
noncomputable abbrev kt46 : Int → Option R := (fun z0 => K [.val [] (.int .i64) z0] [])
abbrev aa46 : List Sh := [.agg [.val [] (.int .i64), .val [] (.int .i64), .val [] (.int .i64), .val [(0, 0)] (.slice (.int .u8)), .val [(0, 0)] (.slice (.int .i64)), .val [(0, 0)] (.slice (.int .i64))]]
abbrev ab46 : List RSh := []
noncomputable def g46 (k : Nat) (v : Sh.D.DL aa46 × RSh.DL ab46) (K : KT R) : Option R := f46 k v.1.1.1 v.1.1.2.1 v.1.1.2.2.1 v.1.1.2.2.2.1 v.1.1.2.2.2.2.1 v.1.1.2.2.2.2.2.1 (kt46 K)
noncomputable abbrev E46 := ending T Try.f46 an46 0 K
noncomputable def S46 := pickS (R := R) [(52, s52)]
theorem S46_eq : ∀ k, S46 (R := R) k = callC T F k := pickS_eq ⟨s52_eq, trivial⟩
noncomputable abbrev I46_0 : Option R := inner T an46 (modesOf F) 0 k 34 (S46 k) (E46 K) cd46_0 (sh sp46_0 ws rs) N X
abbrev aa46_0 : List Sh := [.ptr 1 0, .val [(0, 0)] (.slice (.int .i64)), .val [] (.int .i64), .val [] (.int .i64)]
abbrev ab46_0 : List RSh := [.vars [.val [] (.int .i64), .val [] (.int .i64), .val [] (.int .i64), .val [(0, 0)] (.slice (.int .u8)), .val [(0, 0)] (.slice (.int .i64)), .val [(0, 0)] (.slice (.int .i64))]]
noncomputable def L46_0 : Option R :=
  onShape aa46_0 ab46_0 (fun v => f46_0 k (kt46 K) (N (sh jn46_0 [] [])) v.1.2.1 v.1.2.2.1 v.2.1.1 v.2.1.2.1 v.2.1.2.2.1 v.2.1.2.2.2.1 v.2.1.2.2.2.2.1 v.2.1.2.2.2.2.2.1 k v.1.2.2.2.1) (I46_0 k K ws rs N X) ws rs
noncomputable def L46 : Option R := bif id == 0 then L46_0 k K ws rs N X else none
theorem i46_0 (v0_0 : List Int) (v0_1 : Int) (v0_3 : Int) (v0_4 : Int) (v0_5 : Int) (v0_6 : List Int) (v0_7 : List Int) (v0_8 : List Int) (m : Nat) : ∀ (v0_2 : Int),
    iter (atHead an46 0 bd46_0) m (fun st N' => exec T an46 (modesOf F) 0 k 34 (S46 k) (E46 K) bd46_0 st N' (outX an46 0 0 N X)) (sh sp46_0 [.ptr 1 0, .val [(0, 0)] (.slice (.int .i64)) v0_0, .val [] (.int .i64) v0_1, .val [] (.int .i64) v0_2] [⟨0, .vars [.val [] (.int .i64) v0_3, .val [] (.int .i64) v0_4, .val [] (.int .i64) v0_5, .val [(0, 0)] (.slice (.int .u8)) v0_6, .val [(0, 0)] (.slice (.int .i64)) v0_7, .val [(0, 0)] (.slice (.int .i64)) v0_8]⟩]) = f46_0d k (kt46 K) (N (sh jn46_0 [] [])) v0_0 v0_1 v0_3 v0_4 v0_5 v0_6 v0_7 v0_8 m v0_2 := by
  induction m with
  | zero => intros; rfl
  | succ m ih =>
    intro v0_2
    simp only [iter]
    rw [← execS_eq T an46 (modesOf F) 0 k 34 (S46 k) (L46 k K) bd46_0 (cuts_of _ _ _ _ _ _ _ _ bd46_0 (l := []) (by kernel_rfl) trivial)]
    have h := fx1 ih
    simp only [f46_0d]
    rw [← h]
    show _ = _
    kernel_rfl
theorem l46_0 : L46 k K 0 ws rs N X = I46_0 k K ws rs N X := by
  show L46_0 k K ws rs N X = _
  unfold L46_0
  rw [f46_0_def]
  exact onShape_eq (a := aa46_0) (b := ab46_0) (G := fun ws rs => I46_0 k K ws rs N X) (fun x y => Eq.trans (by kernel_rfl) (Eq.trans (i46_0 k K N X x.2.1 x.2.2.1 y.1.1 y.1.2.1 y.1.2.2.1 y.1.2.2.2.1 y.1.2.2.2.2.1 y.1.2.2.2.2.2.1 k x.2.2.2.1).symm (by kernel_rfl))) ws rs
theorem tu46 : tOk (R := R) 46 aa46 ab46 g46 := by
  intro k x y K
  unfold g46
  rw [f46_def]
  cases k with
  | zero => rfl
  | succ k => exact eS Try.f46 an46 0 34 (L46 k K) [(0, sp46_0, cd46_0)] (by kernel_rfl) (S46_eq k) (by kernel_rfl) ⟨l46_0 k K, trivial⟩ (by kernel_rfl)
noncomputable def s46 := onS (R := R) aa46 ab46 g46 (fun k => callC T F k 46)
theorem s46_eq : sOk (R := R) s46 46 := onS_eq (fun _ _ _ _ => rfl) tu46
noncomputable abbrev kt37 : Int → Option R := (fun z0 => K [.val [] (.int .i64) z0] [])
abbrev aa37 : List Sh := [.agg [.val [] (.int .i64), .val [] (.int .i64), .val [] (.int .i64), .val [(0, 0)] (.slice (.int .u8)), .val [(0, 0)] (.slice (.int .i64)), .val [(0, 0)] (.slice (.int .i64))]]
abbrev ab37 : List RSh := []
noncomputable def g37 (k : Nat) (v : Sh.D.DL aa37 × RSh.DL ab37) (K : KT R) : Option R := f37 k v.1.1.1 v.1.1.2.1 v.1.1.2.2.1 v.1.1.2.2.2.1 v.1.1.2.2.2.2.1 v.1.1.2.2.2.2.2.1 (kt37 K)
noncomputable abbrev E37 := ending T Try.f37 an37 0 K
noncomputable def S37 := pickS (R := R) [(45, s45), (46, s46), (52, s52)]
theorem S37_eq : ∀ k, S37 (R := R) k = callC T F k := pickS_eq ⟨s45_eq, s46_eq, s52_eq, trivial⟩
noncomputable abbrev I37_0 : Option R := inner T an37 (modesOf F) 0 k 44 (S37 k) (E37 K) cd37_0 (sh sp37_0 ws rs) N X
abbrev aa37_0 : List Sh := [.ptr 1 0, .val [(0, 0)] (.slice (.int .i64)), .val [] (.int .i64), .val [] (.int .i64)]
abbrev ab37_0 : List RSh := [.vars [.val [] (.int .i64), .val [] (.int .i64), .val [] (.int .i64), .val [(0, 0)] (.slice (.int .u8)), .val [(0, 0)] (.slice (.int .i64)), .val [(0, 0)] (.slice (.int .i64))]]
noncomputable def L37_0 : Option R :=
  onShape aa37_0 ab37_0 (fun v => f37_0 k (kt37 K) (N (sh jn37_0 [.ptr 1 0] [⟨0, .vars [.val [] (.int .i64) v.2.1.1, .val [] (.int .i64) v.2.1.2.1, .val [] (.int .i64) v.2.1.2.2.1, .val [(0, 0)] (.slice (.int .u8)) v.2.1.2.2.2.1, .val [(0, 0)] (.slice (.int .i64)) v.2.1.2.2.2.2.1, .val [(0, 0)] (.slice (.int .i64)) v.2.1.2.2.2.2.2.1]⟩])) v.1.2.1 v.1.2.2.1 v.2.1.1 v.2.1.2.1 v.2.1.2.2.1 v.2.1.2.2.2.1 v.2.1.2.2.2.2.1 v.2.1.2.2.2.2.2.1 k v.1.2.2.2.1) (I37_0 k K ws rs N X) ws rs
noncomputable def L37 : Option R := bif id == 0 then L37_0 k K ws rs N X else none
theorem i37_0 (v0_0 : List Int) (v0_1 : Int) (v0_3 : Int) (v0_4 : Int) (v0_5 : Int) (v0_6 : List Int) (v0_7 : List Int) (v0_8 : List Int) (m : Nat) : ∀ (v0_2 : Int),
    iter (atHead an37 0 bd37_0) m (fun st N' => exec T an37 (modesOf F) 0 k 44 (S37 k) (E37 K) bd37_0 st N' (outX an37 0 0 N X)) (sh sp37_0 [.ptr 1 0, .val [(0, 0)] (.slice (.int .i64)) v0_0, .val [] (.int .i64) v0_1, .val [] (.int .i64) v0_2] [⟨0, .vars [.val [] (.int .i64) v0_3, .val [] (.int .i64) v0_4, .val [] (.int .i64) v0_5, .val [(0, 0)] (.slice (.int .u8)) v0_6, .val [(0, 0)] (.slice (.int .i64)) v0_7, .val [(0, 0)] (.slice (.int .i64)) v0_8]⟩]) = f37_0d k (kt37 K) (N (sh jn37_0 [.ptr 1 0] [⟨0, .vars [.val [] (.int .i64) v0_3, .val [] (.int .i64) v0_4, .val [] (.int .i64) v0_5, .val [(0, 0)] (.slice (.int .u8)) v0_6, .val [(0, 0)] (.slice (.int .i64)) v0_7, .val [(0, 0)] (.slice (.int .i64)) v0_8]⟩])) v0_0 v0_1 v0_3 v0_4 v0_5 v0_6 v0_7 v0_8 m v0_2 := by
  induction m with
  | zero => intros; rfl
  | succ m ih =>
    intro v0_2
    simp only [iter]
    rw [← execS_eq T an37 (modesOf F) 0 k 44 (S37 k) (L37 k K) bd37_0 (cuts_of _ _ _ _ _ _ _ _ bd37_0 (l := []) (by kernel_rfl) trivial)]
    have h := fx1 ih
    simp only [f37_0d]
    rw [← h]
    show _ = _
    kernel_rfl
theorem l37_0 : L37 k K 0 ws rs N X = I37_0 k K ws rs N X := by
  show L37_0 k K ws rs N X = _
  unfold L37_0
  rw [f37_0_def]
  exact onShape_eq (a := aa37_0) (b := ab37_0) (G := fun ws rs => I37_0 k K ws rs N X) (fun x y => Eq.trans (by kernel_rfl) (Eq.trans (i37_0 k K N X x.2.1 x.2.2.1 y.1.1 y.1.2.1 y.1.2.2.1 y.1.2.2.2.1 y.1.2.2.2.2.1 y.1.2.2.2.2.2.1 k x.2.2.2.1).symm (by kernel_rfl))) ws rs
theorem tu37 : tOk (R := R) 37 aa37 ab37 g37 := by
  intro k x y K
  unfold g37
  rw [f37_def]
  cases k with
  | zero => rfl
  | succ k => exact eS Try.f37 an37 0 44 (L37 k K) [(0, sp37_0, cd37_0)] (by kernel_rfl) (S37_eq k) (by kernel_rfl) ⟨l37_0 k K, trivial⟩ (by kernel_rfl)
noncomputable def s37 := onS (R := R) aa37 ab37 g37 (fun k => callC T F k 37)
theorem s37_eq : sOk (R := R) s37 37 := onS_eq (fun _ _ _ _ => rfl) tu37
noncomputable abbrev kt98 : Int → Option R := (fun z0 => K [.val [] (.int .i64) z0] [])
abbrev aa98 : List Sh := [.val [(0, 0)] (.slice (.int .i64)), .val [] (.int .i64)]
abbrev ab98 : List RSh := []
noncomputable def g98 (k : Nat) (v : Sh.D.DL aa98 × RSh.DL ab98) (K : KT R) : Option R := f98 k v.1.1 v.1.2.1 (kt98 K)
noncomputable abbrev E98 := ending T Try.f98 an98 0 K
noncomputable def S98 := pickS (R := R) []
theorem S98_eq : ∀ k, S98 (R := R) k = callC T F k := pickS_eq trivial
noncomputable abbrev I98_0 : Option R := inner T an98 (modesOf F) 0 k 19 (S98 k) (E98 K) cd98_0 (sh sp98_0 ws rs) N X
abbrev aa98_0 : List Sh := [.val [(0, 0)] (.slice (.int .i64)), .val [] (.int .i64), .val [] (.int .i64), .val [] (.int .i64)]
abbrev ab98_0 : List RSh := []
noncomputable def L98_0 : Option R :=
  onShape aa98_0 ab98_0 (fun v => f98_0 k (kt98 K) (N (sh jn98_0 [] [])) v.1.1 v.1.2.1 v.1.2.2.1 k v.1.2.2.2.1) (I98_0 k K ws rs N X) ws rs
noncomputable def L98 : Option R := bif id == 0 then L98_0 k K ws rs N X else none
theorem i98_0 (v0_0 : List Int) (v0_1 : Int) (v0_2 : Int) (m : Nat) : ∀ (v0_3 : Int),
    iter (atHead an98 0 bd98_0) m (fun st N' => exec T an98 (modesOf F) 0 k 19 (S98 k) (E98 K) bd98_0 st N' (outX an98 0 0 N X)) (sh sp98_0 [.val [(0, 0)] (.slice (.int .i64)) v0_0, .val [] (.int .i64) v0_1, .val [] (.int .i64) v0_2, .val [] (.int .i64) v0_3] []) = f98_0d k (kt98 K) (N (sh jn98_0 [] [])) v0_0 v0_1 v0_2 m v0_3 := by
  induction m with
  | zero => intros; rfl
  | succ m ih =>
    intro v0_3
    simp only [iter]
    rw [← execS_eq T an98 (modesOf F) 0 k 19 (S98 k) (L98 k K) bd98_0 (cuts_of _ _ _ _ _ _ _ _ bd98_0 (l := []) (by kernel_rfl) trivial)]
    have h := fx1 ih
    simp only [f98_0d]
    rw [← h]
    show _ = _
    kernel_rfl
theorem l98_0 : L98 k K 0 ws rs N X = I98_0 k K ws rs N X := by
  show L98_0 k K ws rs N X = _
  unfold L98_0
  rw [f98_0_def]
  exact onShape_eq (a := aa98_0) (b := ab98_0) (G := fun ws rs => I98_0 k K ws rs N X) (fun x y => Eq.trans (by kernel_rfl) (Eq.trans (i98_0 k K N X x.1 x.2.1 x.2.2.1 k x.2.2.2.1).symm (by kernel_rfl))) ws rs
theorem tu98 : tOk (R := R) 98 aa98 ab98 g98 := by
  intro k x y K
  unfold g98
  rw [f98_def]
  cases k with
  | zero => rfl
  | succ k => exact eS Try.f98 an98 0 19 (L98 k K) [(0, sp98_0, cd98_0)] (by kernel_rfl) (S98_eq k) (by kernel_rfl) ⟨l98_0 k K, trivial⟩ (by kernel_rfl)
noncomputable def s98 := onS (R := R) aa98 ab98 g98 (fun k => callC T F k 98)
theorem s98_eq : sOk (R := R) s98 98 := onS_eq (fun _ _ _ _ => rfl) tu98
noncomputable abbrev kt79 : Bool → Option R := (fun z0 => K [.val [] .bool z0] [])
abbrev aa79 : List Sh := [.val [(0, 0)] (.slice (.int .i64)), .val [] (.int .i64)]
abbrev ab79 : List RSh := []
noncomputable def g79 (k : Nat) (v : Sh.D.DL aa79 × RSh.DL ab79) (K : KT R) : Option R := f79 k v.1.1 v.1.2.1 (kt79 K)
noncomputable abbrev E79 := ending T Try.f79 an79 0 K
noncomputable def S79 := pickS (R := R) [(98, s98)]
theorem S79_eq : ∀ k, S79 (R := R) k = callC T F k := pickS_eq ⟨s98_eq, trivial⟩
theorem tu79 : tOk (R := R) 79 aa79 ab79 g79 := by
  intro k x y K
  unfold g79
  rw [f79_def]
  cases k with
  | zero => rfl
  | succ k => exact eS Try.f79 an79 0 9 L0 [] (by kernel_rfl) (S79_eq k) (by kernel_rfl) trivial (by kernel_rfl)
noncomputable def s79 := onS (R := R) aa79 ab79 g79 (fun k => callC T F k 79)
theorem s79_eq : sOk (R := R) s79 79 := onS_eq (fun _ _ _ _ => rfl) tu79
noncomputable abbrev kt80 : List Int → Option R := (fun z0 => K [.val [(0, 0)] (.slice (.int .u8)) z0] [])
abbrev aa80 : List Sh := [.agg [.val [] (.int .i64), .val [] (.int .i64), .val [] (.int .i64), .val [(0, 0)] (.slice (.int .u8)), .val [(0, 0)] (.slice (.int .i64)), .val [(0, 0)] (.slice (.int .i64))], .val [] (.int .i64)]
abbrev ab80 : List RSh := []
noncomputable def g80 (k : Nat) (v : Sh.D.DL aa80 × RSh.DL ab80) (K : KT R) : Option R := f80 k v.1.1.1 v.1.1.2.1 v.1.1.2.2.1 v.1.1.2.2.2.1 v.1.1.2.2.2.2.1 v.1.1.2.2.2.2.2.1 v.1.2.1 (kt80 K)
noncomputable abbrev E80 := ending T Try.f80 an80 0 K
noncomputable def S80 := pickS (R := R) []
theorem S80_eq : ∀ k, S80 (R := R) k = callC T F k := pickS_eq trivial
theorem tu80 : tOk (R := R) 80 aa80 ab80 g80 := by
  intro k x y K
  unfold g80
  rw [f80_def]
  cases k with
  | zero => rfl
  | succ k => exact eS Try.f80 an80 0 17 L0 [] (by kernel_rfl) (S80_eq k) (by kernel_rfl) trivial (by kernel_rfl)
noncomputable def s80 := onS (R := R) aa80 ab80 g80 (fun k => callC T F k 80)
theorem s80_eq : sOk (R := R) s80 80 := onS_eq (fun _ _ _ _ => rfl) tu80
noncomputable abbrev kt97 : Bool → Option R := (fun z0 => K [.val [] .bool z0] [])
abbrev aa97 : List Sh := [.val [] (.int .u8)]
abbrev ab97 : List RSh := []
noncomputable def g97 (k : Nat) (v : Sh.D.DL aa97 × RSh.DL ab97) (K : KT R) : Option R := f97 k v.1.1 (kt97 K)
noncomputable abbrev E97 := ending T Try.f97 an97 0 K
noncomputable def S97 := pickS (R := R) []
theorem S97_eq : ∀ k, S97 (R := R) k = callC T F k := pickS_eq trivial
theorem tu97 : tOk (R := R) 97 aa97 ab97 g97 := by
  intro k x y K
  unfold g97
  rw [f97_def]
  cases k with
  | zero => rfl
  | succ k => exact eS Try.f97 an97 0 5 L0 [] (by kernel_rfl) (S97_eq k) (by kernel_rfl) trivial (by kernel_rfl)
noncomputable def s97 := onS (R := R) aa97 ab97 g97 (fun k => callC T F k 97)
theorem s97_eq : sOk (R := R) s97 97 := onS_eq (fun _ _ _ _ => rfl) tu97
noncomputable abbrev kt108 : Int → Option R := (fun z0 => K [.val [] (.int .i64) z0] [])
abbrev aa108 : List Sh := [.val [(0, 0)] (.slice (.int .u8)), .fn 97 []]
abbrev ab108 : List RSh := []
noncomputable def g108 (k : Nat) (v : Sh.D.DL aa108 × RSh.DL ab108) (K : KT R) : Option R := f108 k v.1.1 (kt108 K)
noncomputable abbrev E108 := ending T Try.f108 an108 0 K
noncomputable def S108 := pickS (R := R) [(97, s97)]
theorem S108_eq : ∀ k, S108 (R := R) k = callC T F k := pickS_eq ⟨s97_eq, trivial⟩
noncomputable abbrev I108_0 : Option R := inner T an108 (modesOf F) 0 k 19 (S108 k) (E108 K) cd108_0 (sh sp108_0 ws rs) N X
abbrev aa108_0 : List Sh := [.val [(0, 0)] (.slice (.int .u8)), .fn 97 [], .val [] (.int .i64), .val [] (.int .i64)]
abbrev ab108_0 : List RSh := []
noncomputable def L108_0 : Option R :=
  onShape aa108_0 ab108_0 (fun v => f108_0 k (kt108 K) (N (sh jn108_0 [] [])) v.1.1 v.1.2.2.1 k v.1.2.2.2.1) (I108_0 k K ws rs N X) ws rs
noncomputable def L108 : Option R := bif id == 0 then L108_0 k K ws rs N X else none
theorem i108_0 (v0_0 : List Int) (v0_1 : Int) (m : Nat) : ∀ (v0_2 : Int),
    iter (atHead an108 0 bd108_0) m (fun st N' => exec T an108 (modesOf F) 0 k 19 (S108 k) (E108 K) bd108_0 st N' (outX an108 0 0 N X)) (sh sp108_0 [.val [(0, 0)] (.slice (.int .u8)) v0_0, .fn 97 [], .val [] (.int .i64) v0_1, .val [] (.int .i64) v0_2] []) = f108_0d k (kt108 K) (N (sh jn108_0 [] [])) v0_0 v0_1 m v0_2 := by
  induction m with
  | zero => intros; rfl
  | succ m ih =>
    intro v0_2
    simp only [iter]
    rw [← execS_eq T an108 (modesOf F) 0 k 19 (S108 k) (L108 k K) bd108_0 (cuts_of _ _ _ _ _ _ _ _ bd108_0 (l := []) (by kernel_rfl) trivial)]
    have h := fx1 ih
    simp only [f108_0d]
    rw [← h]
    show _ = _
    kernel_rfl
theorem l108_0 : L108 k K 0 ws rs N X = I108_0 k K ws rs N X := by
  show L108_0 k K ws rs N X = _
  unfold L108_0
  rw [f108_0_def]
  exact onShape_eq (a := aa108_0) (b := ab108_0) (G := fun ws rs => I108_0 k K ws rs N X) (fun x y => Eq.trans (by kernel_rfl) (Eq.trans (i108_0 k K N X x.1 x.2.2.1 k x.2.2.2.1).symm (by kernel_rfl))) ws rs
theorem tu108 : tOk (R := R) 108 aa108 ab108 g108 := by
  intro k x y K
  unfold g108
  rw [f108_def]
  cases k with
  | zero => rfl
  | succ k => exact eS Try.f108 an108 0 19 (L108 k K) [(0, sp108_0, cd108_0)] (by kernel_rfl) (S108_eq k) (by kernel_rfl) ⟨l108_0 k K, trivial⟩ (by kernel_rfl)
noncomputable def s108 := onS (R := R) aa108 ab108 g108 (fun k => callC T F k 108)
theorem s108_eq : sOk (R := R) s108 108 := onS_eq (fun _ _ _ _ => rfl) tu108
noncomputable abbrev kt96 : Bool → Option R := (fun z0 => K [.val [] .bool z0] [])
abbrev aa96 : List Sh := [.val [(0, 0)] (.slice (.int .u8)), .fn 97 []]
abbrev ab96 : List RSh := []
noncomputable def g96 (k : Nat) (v : Sh.D.DL aa96 × RSh.DL ab96) (K : KT R) : Option R := f96 k v.1.1 (kt96 K)
noncomputable abbrev E96 := ending T Try.f96 an96 0 K
noncomputable def S96 := pickS (R := R) [(108, s108)]
theorem S96_eq : ∀ k, S96 (R := R) k = callC T F k := pickS_eq ⟨s108_eq, trivial⟩
theorem tu96 : tOk (R := R) 96 aa96 ab96 g96 := by
  intro k x y K
  unfold g96
  rw [f96_def]
  cases k with
  | zero => rfl
  | succ k => exact eS Try.f96 an96 0 9 L0 [] (by kernel_rfl) (S96_eq k) (by kernel_rfl) trivial (by kernel_rfl)
noncomputable def s96 := onS (R := R) aa96 ab96 g96 (fun k => callC T F k 96)
theorem s96_eq : sOk (R := R) s96 96 := onS_eq (fun _ _ _ _ => rfl) tu96
noncomputable abbrev kt74 : Bool → Option R := (fun z0 => K [.val [] .bool z0] [])
abbrev aa74 : List Sh := [.val [(0, 0)] (.slice (.int .u8))]
abbrev ab74 : List RSh := []
noncomputable def g74 (k : Nat) (v : Sh.D.DL aa74 × RSh.DL ab74) (K : KT R) : Option R := f74 k v.1.1 (kt74 K)
noncomputable abbrev E74 := ending T Try.f74 an74 0 K
noncomputable def S74 := pickS (R := R) [(96, s96)]
theorem S74_eq : ∀ k, S74 (R := R) k = callC T F k := pickS_eq ⟨s96_eq, trivial⟩
theorem tu74 : tOk (R := R) 74 aa74 ab74 g74 := by
  intro k x y K
  unfold g74
  rw [f74_def]
  cases k with
  | zero => rfl
  | succ k => exact eS Try.f74 an74 0 6 L0 [] (by kernel_rfl) (S74_eq k) (by kernel_rfl) trivial (by kernel_rfl)
noncomputable def s74 := onS (R := R) aa74 ab74 g74 (fun k => callC T F k 74)
theorem s74_eq : sOk (R := R) s74 74 := onS_eq (fun _ _ _ _ => rfl) tu74
noncomputable abbrev kt75 : Int → Option R := (fun z0 => K [.val [] (.int .i64) z0] [])
abbrev aa75 : List Sh := [.val [(0, 0)] (.slice (.int .u8))]
abbrev ab75 : List RSh := []
noncomputable def g75 (k : Nat) (v : Sh.D.DL aa75 × RSh.DL ab75) (K : KT R) : Option R := f75 k v.1.1 (kt75 K)
noncomputable abbrev E75 := ending T Try.f75 an75 0 K
noncomputable def S75 := pickS (R := R) []
theorem S75_eq : ∀ k, S75 (R := R) k = callC T F k := pickS_eq trivial
theorem tu75 : tOk (R := R) 75 aa75 ab75 g75 := by
  intro k x y K
  unfold g75
  rw [f75_def]
  cases k with
  | zero => rfl
  | succ k => exact eS Try.f75 an75 0 25 L0 [] (by kernel_rfl) (S75_eq k) (by kernel_rfl) trivial (by kernel_rfl)
noncomputable def s75 := onS (R := R) aa75 ab75 g75 (fun k => callC T F k 75)
theorem s75_eq : sOk (R := R) s75 75 := onS_eq (fun _ _ _ _ => rfl) tu75
noncomputable abbrev kt72 : List Int → Option R := (fun z0 => K [.rw 1] [⟨0, .arr [] (.int .u8) z0⟩])
abbrev aa72 : List Sh := [.val [(0, 0)] (.slice (.int .u8))]
abbrev ab72 : List RSh := []
noncomputable def g72 (k : Nat) (v : Sh.D.DL aa72 × RSh.DL ab72) (K : KT R) : Option R := f72 k v.1.1 (kt72 K)
theorem e72 (k : Nat) (a0 : List Int) (K : KT R) : callC T F k 72 [.val [(0, 0)] (.slice (.int .u8)) a0] [] K = f72 k a0 (kt72 K) := by
  rw [f72_def]
  cases k with
  | zero => rfl
  | succ k => exact clone_call (m := [.lend (.int .u8)]) (ty := (.int .u8)) (bytes := 1) (by kernel_rfl) a0 K
theorem tu72 : tOk (R := R) 72 aa72 ab72 g72 := fun k x y K => e72 k x.1 K
noncomputable def s72 := onS (R := R) aa72 ab72 g72 (fun k => callC T F k 72)
theorem s72_eq : sOk (R := R) s72 72 := onS_eq (fun _ _ _ _ => rfl) tu72
noncomputable abbrev kt73 : Bool → Option R := (fun z0 => K [.val [] .bool z0] [])
abbrev aa73 : List Sh := [.val [] .str]
abbrev ab73 : List RSh := []
noncomputable def g73 (k : Nat) (v : Sh.D.DL aa73 × RSh.DL ab73) (K : KT R) : Option R := f73 k v.1.1 (kt73 K)
noncomputable abbrev E73 := ending T Try.f73 an73 0 K
noncomputable def S73 := pickS (R := R) []
theorem S73_eq : ∀ k, S73 (R := R) k = callC T F k := pickS_eq trivial
noncomputable abbrev I73_0 : Option R := inner T an73 (modesOf F) 0 k 27 (S73 k) (E73 K) cd73_0 (sh sp73_0 ws rs) N X
abbrev aa73_0 : List Sh := [.val [] .str, .val [] (.int .i64), .val [] (.int .i64)]
abbrev ab73_0 : List RSh := []
noncomputable def L73_0 : Option R :=
  onShape aa73_0 ab73_0 (fun v => f73_0 k (kt73 K) (N (sh jn73_0 [] [])) v.1.1 v.1.2.1 k v.1.2.2.1) (I73_0 k K ws rs N X) ws rs
noncomputable def L73 : Option R := bif id == 0 then L73_0 k K ws rs N X else none
theorem i73_0 (v0_0 : ByteArray) (v0_1 : Int) (m : Nat) : ∀ (v0_2 : Int),
    iter (atHead an73 0 bd73_0) m (fun st N' => exec T an73 (modesOf F) 0 k 27 (S73 k) (E73 K) bd73_0 st N' (outX an73 0 0 N X)) (sh sp73_0 [.val [] .str v0_0, .val [] (.int .i64) v0_1, .val [] (.int .i64) v0_2] []) = f73_0d k (kt73 K) (N (sh jn73_0 [] [])) v0_0 v0_1 m v0_2 := by
  induction m with
  | zero => intros; rfl
  | succ m ih =>
    intro v0_2
    simp only [iter]
    rw [← execS_eq T an73 (modesOf F) 0 k 27 (S73 k) (L73 k K) bd73_0 (cuts_of _ _ _ _ _ _ _ _ bd73_0 (l := []) (by kernel_rfl) trivial)]
    have h := fx1 ih
    simp only [f73_0d]
    rw [← h]
    show _ = _
    kernel_rfl
theorem l73_0 : L73 k K 0 ws rs N X = I73_0 k K ws rs N X := by
  show L73_0 k K ws rs N X = _
  unfold L73_0
  rw [f73_0_def]
  exact onShape_eq (a := aa73_0) (b := ab73_0) (G := fun ws rs => I73_0 k K ws rs N X) (fun x y => Eq.trans (by kernel_rfl) (Eq.trans (i73_0 k K N X x.1 x.2.1 k x.2.2.1).symm (by kernel_rfl))) ws rs
theorem tu73 : tOk (R := R) 73 aa73 ab73 g73 := by
  intro k x y K
  unfold g73
  rw [f73_def]
  cases k with
  | zero => rfl
  | succ k => exact eS Try.f73 an73 0 27 (L73 k K) [(0, sp73_0, cd73_0)] (by kernel_rfl) (S73_eq k) (by kernel_rfl) ⟨l73_0 k K, trivial⟩ (by kernel_rfl)
noncomputable def s73 := onS (R := R) aa73 ab73 g73 (fun k => callC T F k 73)
theorem s73_eq : sOk (R := R) s73 73 := onS_eq (fun _ _ _ _ => rfl) tu73
noncomputable abbrev kt53 : Bool → Option R := (fun z0 => K [.val [] .bool z0] [])
abbrev aa53 : List Sh := [.val [] .str]
abbrev ab53 : List RSh := []
noncomputable def g53 (k : Nat) (v : Sh.D.DL aa53 × RSh.DL ab53) (K : KT R) : Option R := f53 k v.1.1 (kt53 K)
noncomputable abbrev E53 := ending T Try.f53 an53 0 K
noncomputable def S53 := pickS (R := R) [(73, s73)]
theorem S53_eq : ∀ k, S53 (R := R) k = callC T F k := pickS_eq ⟨s73_eq, trivial⟩
theorem tu53 : tOk (R := R) 53 aa53 ab53 g53 := by
  intro k x y K
  unfold g53
  rw [f53_def]
  cases k with
  | zero => rfl
  | succ k => exact eS Try.f53 an53 0 10 L0 [] (by kernel_rfl) (S53_eq k) (by kernel_rfl) trivial (by kernel_rfl)
noncomputable def s53 := onS (R := R) aa53 ab53 g53 (fun k => callC T F k 53)
theorem s53_eq : sOk (R := R) s53 53 := onS_eq (fun _ _ _ _ => rfl) tu53
noncomputable abbrev kt85 : Int → Int → Option R := (fun z0 z1 => K [.val [] (.int .u64) z0, .val [] (.int .u64) z1] [])
abbrev aa85 : List Sh := [.val [] (.int .u64), .val [] (.int .u64)]
abbrev ab85 : List RSh := []
noncomputable def g85 (k : Nat) (v : Sh.D.DL aa85 × RSh.DL ab85) (K : KT R) : Option R := f85 k v.1.1 v.1.2.1 (kt85 K)
noncomputable abbrev E85 := ending T Try.f85 an85 0 K
noncomputable def S85 := pickS (R := R) []
theorem S85_eq : ∀ k, S85 (R := R) k = callC T F k := pickS_eq trivial
theorem tu85 : tOk (R := R) 85 aa85 ab85 g85 := by
  intro k x y K
  unfold g85
  rw [f85_def]
  cases k with
  | zero => rfl
  | succ k => exact eS Try.f85 an85 0 51 L0 [] (by kernel_rfl) (S85_eq k) (by kernel_rfl) trivial (by kernel_rfl)
noncomputable def s85 := onS (R := R) aa85 ab85 g85 (fun k => callC T F k 85)
theorem s85_eq : sOk (R := R) s85 85 := onS_eq (fun _ _ _ _ => rfl) tu85
noncomputable abbrev kt62 : Int → Int → Option R := (fun z0 z1 => K [.val [] (.int .u64) z0, .val [] (.int .u64) z1] [])
abbrev aa62 : List Sh := [.val [] (.int .u64), .val [] (.int .u64)]
abbrev ab62 : List RSh := []
noncomputable def g62 (k : Nat) (v : Sh.D.DL aa62 × RSh.DL ab62) (K : KT R) : Option R := f62 k v.1.1 v.1.2.1 (kt62 K)
noncomputable abbrev E62 := ending T Try.f62 an62 0 K
noncomputable def S62 := pickS (R := R) [(85, s85)]
theorem S62_eq : ∀ k, S62 (R := R) k = callC T F k := pickS_eq ⟨s85_eq, trivial⟩
theorem tu62 : tOk (R := R) 62 aa62 ab62 g62 := by
  intro k x y K
  unfold g62
  rw [f62_def]
  cases k with
  | zero => rfl
  | succ k => exact eS Try.f62 an62 0 30 L0 [] (by kernel_rfl) (S62_eq k) (by kernel_rfl) trivial (by kernel_rfl)
noncomputable def s62 := onS (R := R) aa62 ab62 g62 (fun k => callC T F k 62)
theorem s62_eq : sOk (R := R) s62 62 := onS_eq (fun _ _ _ _ => rfl) tu62
noncomputable abbrev kt47 : List Int → Option R := (fun z0 => K [.rw 1] [⟨0, .arr [] (.int .u8) z0⟩])
abbrev aa47 : List Sh := [.val [(0, 0)] (.slice (.int .u8)), .val [] (.int .i64)]
abbrev ab47 : List RSh := []
noncomputable def g47 (k : Nat) (v : Sh.D.DL aa47 × RSh.DL ab47) (K : KT R) : Option R := f47 k v.1.1 v.1.2.1 (kt47 K)
noncomputable abbrev E47 := ending T Try.f47 an47 0 K
noncomputable def S47 := pickS (R := R) [(62, s62)]
theorem S47_eq : ∀ k, S47 (R := R) k = callC T F k := pickS_eq ⟨s62_eq, trivial⟩
noncomputable abbrev I47_1000002 : Option R := inner T an47 (modesOf F) 0 k 48 (S47 k) (E47 K) cd47_1000002 (sh sp47_1000002 ws rs) N X
abbrev aa47_1000002 : List Sh := [.val [(0, 0)] (.slice (.int .u8)), .val [] (.int .i64), .val [] .bool]
abbrev ab47_1000002 : List RSh := []
noncomputable def L47_1000002 : Option R :=
  onShape aa47_1000002 ab47_1000002 (fun v => f47_1000002 k (N (sh fi47_2 [.val [(0, 0)] (.slice (.int .u8)) v.1.1, .val [] (.int .i64) v.1.2.1] [])) v.1.2.2.1) (I47_1000002 k K ws rs N X) ws rs
noncomputable abbrev I47_1000005 : Option R := inner T an47 (modesOf F) 0 k 48 (S47 k) (E47 K) cd47_1000005 (sh sp47_1000005 ws rs) N X
abbrev aa47_1000005 : List Sh := [.val [(0, 0)] (.slice (.int .u8)), .val [] (.int .u64), .val [] .bool]
abbrev ab47_1000005 : List RSh := []
noncomputable def L47_1000005 : Option R :=
  onShape aa47_1000005 ab47_1000005 (fun v => f47_1000005 k (N (sh fi47_5 [.val [(0, 0)] (.slice (.int .u8)) v.1.1, .val [] (.int .u64) v.1.2.1] [])) v.1.2.2.1) (I47_1000005 k K ws rs N X) ws rs
noncomputable abbrev I47_0 : Option R := inner T an47 (modesOf F) 0 k 48 (S47 k) (E47 K) cd47_0 (sh sp47_0 ws rs) N X
abbrev aa47_0 : List Sh := [.rw 1, .val [] (.int .i64)]
abbrev ab47_0 : List RSh := [.arr [] (.int .u8)]
noncomputable def L47_0 : Option R :=
  onShape aa47_0 ab47_0 (fun v => f47_0 k (fun y0_0 => N (sh jn47_0 [.rw 1] [⟨0, .arr [] (.int .u8) y0_0⟩])) k v.1.2.1 v.2.1) (I47_0 k K ws rs N X) ws rs
noncomputable def L47 : Option R := bif id == 1000002 then L47_1000002 k K ws rs N X else bif id == 1000005 then L47_1000005 k K ws rs N X else bif id == 0 then L47_0 k K ws rs N X else none
theorem l47_1000002 : L47 k K 1000002 ws rs N X = I47_1000002 k K ws rs N X := by
  show L47_1000002 k K ws rs N X = _
  unfold L47_1000002
  rw [f47_1000002_def]
  exact lC (L47 k K) [] (by kernel_rfl) trivial fun x y => by kernel_rfl
theorem l47_1000005 : L47 k K 1000005 ws rs N X = I47_1000005 k K ws rs N X := by
  show L47_1000005 k K ws rs N X = _
  unfold L47_1000005
  rw [f47_1000005_def]
  exact lC (L47 k K) [] (by kernel_rfl) trivial fun x y => by kernel_rfl
theorem i47_0 (m : Nat) : ∀ (v0_0 : Int) (v0_1 : List Int),
    iter (atHead an47 0 bd47_0) m (fun st N' => exec T an47 (modesOf F) 0 k 48 (S47 k) (E47 K) bd47_0 st N' (outX an47 0 0 N X)) (sh sp47_0 [.rw 1, .val [] (.int .i64) v0_0] [⟨0, .arr [] (.int .u8) v0_1⟩]) = f47_0d k (fun y0_0 => N (sh jn47_0 [.rw 1] [⟨0, .arr [] (.int .u8) y0_0⟩])) m v0_0 v0_1 := by
  induction m with
  | zero => intros; rfl
  | succ m ih =>
    intro v0_0 v0_1
    simp only [iter]
    rw [← execS_eq T an47 (modesOf F) 0 k 48 (S47 k) (L47 k K) bd47_0 (cuts_of _ _ _ _ _ _ _ _ bd47_0 (l := []) (by kernel_rfl) trivial)]
    have h := fx2 ih
    simp only [f47_0d]
    rw [← h]
    show _ = _
    kernel_rfl
theorem l47_0 : L47 k K 0 ws rs N X = I47_0 k K ws rs N X := by
  show L47_0 k K ws rs N X = _
  unfold L47_0
  rw [f47_0_def]
  exact onShape_eq (a := aa47_0) (b := ab47_0) (G := fun ws rs => I47_0 k K ws rs N X) (fun x y => Eq.trans (by kernel_rfl) (Eq.trans (i47_0 k K N X k x.2.1 y.1).symm (by kernel_rfl))) ws rs
theorem tu47 : tOk (R := R) 47 aa47 ab47 g47 := by
  intro k x y K
  unfold g47
  rw [f47_def]
  cases k with
  | zero => rfl
  | succ k => exact eS Try.f47 an47 0 48 (L47 k K) [(1000002, sp47_1000002, cd47_1000002), (1000005, sp47_1000005, cd47_1000005), (0, sp47_0, cd47_0)] (by kernel_rfl) (S47_eq k) (by kernel_rfl) ⟨l47_1000002 k K, l47_1000005 k K, l47_0 k K, trivial⟩ (by kernel_rfl)
noncomputable def s47 := onS (R := R) aa47 ab47 g47 (fun k => callC T F k 47)
theorem s47_eq : sOk (R := R) s47 47 := onS_eq (fun _ _ _ _ => rfl) tu47
noncomputable abbrev kt50 : Int → Option R := (fun z0 => K [.val [] (.int .i64) z0] [])
abbrev aa50 : List Sh := [.val [(0, 0)] (.slice (.int .u8))]
abbrev ab50 : List RSh := []
noncomputable def g50 (k : Nat) (v : Sh.D.DL aa50 × RSh.DL ab50) (K : KT R) : Option R := f50 k v.1.1 (kt50 K)
noncomputable abbrev E50 := ending T Try.f50 an50 0 K
noncomputable def S50 := pickS (R := R) []
theorem S50_eq : ∀ k, S50 (R := R) k = callC T F k := pickS_eq trivial
noncomputable abbrev I50_1000011 : Option R := inner T an50 (modesOf F) 0 k 31 (S50 k) (E50 K) cd50_1000011 (sh sp50_1000011 ws rs) N X
abbrev aa50_1000011 : List Sh := [.val [] (.int .i64), .val [(0, 0)] (.slice (.int .u8)), .val [] (.int .i64), .val [] (.int .i64), .val [] (.int .i64), .val [] .bool]
abbrev ab50_1000011 : List RSh := []
noncomputable def L50_1000011 : Option R :=
  onShape aa50_1000011 ab50_1000011 (fun v => f50_1000011 k (fun yN_0 => N (sh fi50_11 [.val [] (.int .i64) yN_0, .val [(0, 0)] (.slice (.int .u8)) v.1.2.1, .val [] (.int .i64) v.1.2.2.1, .val [] (.int .i64) v.1.2.2.2.1, .val [] (.int .i64) v.1.2.2.2.2.1] [])) v.1.1 v.1.2.2.2.2.2.1) (I50_1000011 k K ws rs N X) ws rs
noncomputable abbrev I50_2 : Option R := inner T an50 (modesOf F) 0 k 31 (S50 k) (E50 K) cd50_2 (sh sp50_2 ws rs) N X
abbrev aa50_2 : List Sh := [.val [] (.int .i64), .val [(0, 0)] (.slice (.int .u8)), .val [] (.int .i64), .val [] (.int .i64), .val [] (.int .i64)]
abbrev ab50_2 : List RSh := []
noncomputable def L50_2 : Option R :=
  onShape aa50_2 ab50_2 (fun v => f50_2 k (fun y2_0 => N (sh jn50_2 [.val [] (.int .i64) y2_0, .val [(0, 0)] (.slice (.int .u8)) v.1.2.1, .val [] (.int .i64) v.1.2.2.1, .val [] (.int .i64) v.1.2.2.2.1] [])) v.1.2.1 v.1.2.2.1 v.1.2.2.2.1 k v.1.1 v.1.2.2.2.2.1) (I50_2 k K ws rs N X) ws rs
noncomputable abbrev I50_0 : Option R := inner T an50 (modesOf F) 0 k 31 (S50 k) (E50 K) cd50_0 (sh sp50_0 ws rs) N X
abbrev aa50_0 : List Sh := [.val [] (.int .i64), .val [(0, 0)] (.slice (.int .u8)), .val [] (.int .i64), .val [] (.int .i64)]
abbrev ab50_0 : List RSh := []
noncomputable def L50_0 : Option R :=
  onShape aa50_0 ab50_0 (fun v => f50_0 k (fun y0_0 => N (sh jn50_0 [.val [] (.int .i64) y0_0] [])) v.1.2.1 v.1.2.2.1 k v.1.1 v.1.2.2.2.1) (I50_0 k K ws rs N X) ws rs
noncomputable def L50 : Option R := bif id == 1000011 then L50_1000011 k K ws rs N X else bif id == 2 then L50_2 k K ws rs N X else bif id == 0 then L50_0 k K ws rs N X else none
theorem l50_1000011 : L50 k K 1000011 ws rs N X = I50_1000011 k K ws rs N X := by
  show L50_1000011 k K ws rs N X = _
  unfold L50_1000011
  rw [f50_1000011_def]
  exact lC (L50 k K) [] (by kernel_rfl) trivial fun x y => by kernel_rfl
theorem i50_2 (v2_1 : List Int) (v2_2 : Int) (v2_3 : Int) (m : Nat) : ∀ (v2_0 : Int) (v2_4 : Int),
    iter (atHead an50 0 bd50_2) m (fun st N' => exec T an50 (modesOf F) 0 k 31 (S50 k) (E50 K) bd50_2 st N' (outX an50 0 2 N X)) (sh sp50_2 [.val [] (.int .i64) v2_0, .val [(0, 0)] (.slice (.int .u8)) v2_1, .val [] (.int .i64) v2_2, .val [] (.int .i64) v2_3, .val [] (.int .i64) v2_4] []) = f50_2d k (fun y2_0 => N (sh jn50_2 [.val [] (.int .i64) y2_0, .val [(0, 0)] (.slice (.int .u8)) v2_1, .val [] (.int .i64) v2_2, .val [] (.int .i64) v2_3] [])) v2_1 v2_2 v2_3 m v2_0 v2_4 := by
  induction m with
  | zero => intros; rfl
  | succ m ih =>
    intro v2_0 v2_4
    simp only [iter]
    rw [← execS_eq T an50 (modesOf F) 0 k 31 (S50 k) (L50 k K) bd50_2 (cuts_of _ _ _ _ _ _ _ _ bd50_2 (l := [(1000011, sp50_1000011, cd50_1000011)]) (by kernel_rfl) ⟨l50_1000011 k K, trivial⟩)]
    have h := fx2 ih
    simp only [f50_2d]
    rw [← h]
    show _ = _
    kernel_rfl
theorem l50_2 : L50 k K 2 ws rs N X = I50_2 k K ws rs N X := by
  show L50_2 k K ws rs N X = _
  unfold L50_2
  rw [f50_2_def]
  exact onShape_eq (a := aa50_2) (b := ab50_2) (G := fun ws rs => I50_2 k K ws rs N X) (fun x y => Eq.trans (by kernel_rfl) (Eq.trans (i50_2 k K N X x.2.1 x.2.2.1 x.2.2.2.1 k x.1 x.2.2.2.2.1).symm (by kernel_rfl))) ws rs
theorem i50_0 (v0_1 : List Int) (v0_2 : Int) (m : Nat) : ∀ (v0_0 : Int) (v0_3 : Int),
    iter (atHead an50 0 bd50_0) m (fun st N' => exec T an50 (modesOf F) 0 k 31 (S50 k) (E50 K) bd50_0 st N' (outX an50 0 0 N X)) (sh sp50_0 [.val [] (.int .i64) v0_0, .val [(0, 0)] (.slice (.int .u8)) v0_1, .val [] (.int .i64) v0_2, .val [] (.int .i64) v0_3] []) = f50_0d k (fun y0_0 => N (sh jn50_0 [.val [] (.int .i64) y0_0] [])) v0_1 v0_2 m v0_0 v0_3 := by
  induction m with
  | zero => intros; rfl
  | succ m ih =>
    intro v0_0 v0_3
    simp only [iter]
    rw [← execS_eq T an50 (modesOf F) 0 k 31 (S50 k) (L50 k K) bd50_0 (cuts_of _ _ _ _ _ _ _ _ bd50_0 (l := [(2, sp50_2, cd50_2)]) (by kernel_rfl) ⟨l50_2 k K, trivial⟩)]
    have h := fx2 ih
    simp only [f50_0d]
    rw [← h]
    show _ = _
    kernel_rfl
theorem l50_0 : L50 k K 0 ws rs N X = I50_0 k K ws rs N X := by
  show L50_0 k K ws rs N X = _
  unfold L50_0
  rw [f50_0_def]
  exact onShape_eq (a := aa50_0) (b := ab50_0) (G := fun ws rs => I50_0 k K ws rs N X) (fun x y => Eq.trans (by kernel_rfl) (Eq.trans (i50_0 k K N X x.2.1 x.2.2.1 k x.1 x.2.2.2.1).symm (by kernel_rfl))) ws rs
theorem tu50 : tOk (R := R) 50 aa50 ab50 g50 := by
  intro k x y K
  unfold g50
  rw [f50_def]
  cases k with
  | zero => rfl
  | succ k => exact eS Try.f50 an50 0 31 (L50 k K) [(0, sp50_0, cd50_0)] (by kernel_rfl) (S50_eq k) (by kernel_rfl) ⟨l50_0 k K, trivial⟩ (by kernel_rfl)
noncomputable def s50 := onS (R := R) aa50 ab50 g50 (fun k => callC T F k 50)
theorem s50_eq : sOk (R := R) s50 50 := onS_eq (fun _ _ _ _ => rfl) tu50
noncomputable abbrev kt18 : Int → List Int → Option R := (fun z0 z1 => K [.rw 1, .val [] (.int .i64) z0] [⟨0, .arr [] (.int .u8) z1⟩])
abbrev aa18 : List Sh := [.val [] (.int .i64), .agg [.val [] (.int .i64), .val [] .bool, .val [] .str, .val [] (.int .i64), .val [] .bool, .val [(0, 0)] (.slice (.int .u8))]]
abbrev ab18 : List RSh := []
noncomputable def g18 (k : Nat) (v : Sh.D.DL aa18 × RSh.DL ab18) (K : KT R) : Option R := f18 k v.1.1 v.1.2.1.1 v.1.2.1.2.1 v.1.2.1.2.2.1 v.1.2.1.2.2.2.1 v.1.2.1.2.2.2.2.1 v.1.2.1.2.2.2.2.2.1 (kt18 K)
noncomputable abbrev E18 := ending T Try.f18 an18 0 K
noncomputable def S18 := pickS (R := R) [(47, s47), (50, s50), (52, s52), (53, s53)]
theorem S18_eq : ∀ k, S18 (R := R) k = callC T F k := pickS_eq ⟨s47_eq, s50_eq, s52_eq, s53_eq, trivial⟩
noncomputable abbrev I18_1000013 : Option R := inner T an18 (modesOf F) 0 k 128 (S18 k) (E18 K) cd18_1000013 (sh sp18_1000013 ws rs) N X
abbrev aa18_1000013 : List Sh := [.val [] (.int .i64), .ptr 1 0, .val [] (.int .u8), .val [] (.int .u8), .val [] .bool]
abbrev ab18_1000013 : List RSh := [.vars [.val [] (.int .i64), .val [] .bool, .val [] .str, .val [] (.int .i64), .val [] .bool, .val [(0, 0)] (.slice (.int .u8))]]
noncomputable def L18_1000013 : Option R :=
  onShape aa18_1000013 ab18_1000013 (fun v => f18_1000013 k (fun yN_1 => N (sh fi18_13 [.val [] (.int .i64) v.1.1, .ptr 1 0, .val [] (.int .u8) yN_1, .val [] (.int .u8) v.1.2.2.2.1] [⟨0, .vars [.val [] (.int .i64) v.2.1.1, .val [] .bool v.2.1.2.1, .val [] .str v.2.1.2.2.1, .val [] (.int .i64) v.2.1.2.2.2.1, .val [] .bool v.2.1.2.2.2.2.1, .val [(0, 0)] (.slice (.int .u8)) v.2.1.2.2.2.2.2.1]⟩])) v.1.2.2.1 v.1.2.2.2.2.1) (I18_1000013 k K ws rs N X) ws rs
noncomputable abbrev I18_1000015 : Option R := inner T an18 (modesOf F) 0 k 128 (S18 k) (E18 K) cd18_1000015 (sh sp18_1000015 ws rs) N X
abbrev aa18_1000015 : List Sh := [.val [] (.int .i64), .ptr 1 0, .val [] (.int .u8), .val [] (.int .u8), .val [] .bool]
abbrev ab18_1000015 : List RSh := [.vars [.val [] (.int .i64), .val [] .bool, .val [] .str, .val [] (.int .i64), .val [] .bool, .val [(0, 0)] (.slice (.int .u8))]]
noncomputable def L18_1000015 : Option R :=
  onShape aa18_1000015 ab18_1000015 (fun v => f18_1000015 k (fun yN_2 => N (sh fi18_15 [.val [] (.int .i64) v.1.1, .ptr 1 0, .val [] (.int .u8) v.1.2.2.1, .val [] (.int .u8) yN_2] [⟨0, .vars [.val [] (.int .i64) v.2.1.1, .val [] .bool v.2.1.2.1, .val [] .str v.2.1.2.2.1, .val [] (.int .i64) v.2.1.2.2.2.1, .val [] .bool v.2.1.2.2.2.2.1, .val [(0, 0)] (.slice (.int .u8)) v.2.1.2.2.2.2.2.1]⟩])) v.1.2.2.2.1 v.1.2.2.2.2.1) (I18_1000015 k K ws rs N X) ws rs
noncomputable def L18 : Option R := bif id == 1000013 then L18_1000013 k K ws rs N X else bif id == 1000015 then L18_1000015 k K ws rs N X else none
theorem l18_1000013 : L18 k K 1000013 ws rs N X = I18_1000013 k K ws rs N X := by
  show L18_1000013 k K ws rs N X = _
  unfold L18_1000013
  rw [f18_1000013_def]
  exact lC (L18 k K) [] (by kernel_rfl) trivial fun x y => by kernel_rfl
theorem l18_1000015 : L18 k K 1000015 ws rs N X = I18_1000015 k K ws rs N X := by
  show L18_1000015 k K ws rs N X = _
  unfold L18_1000015
  rw [f18_1000015_def]
  exact lC (L18 k K) [] (by kernel_rfl) trivial fun x y => by kernel_rfl
theorem tu18 : tOk (R := R) 18 aa18 ab18 g18 := by
  intro k x y K
  unfold g18
  rw [f18_def]
  cases k with
  | zero => rfl
  | succ k => exact eS Try.f18 an18 0 128 (L18 k K) [(1000013, sp18_1000013, cd18_1000013), (1000015, sp18_1000015, cd18_1000015)] (by kernel_rfl) (S18_eq k) (by kernel_rfl) ⟨l18_1000013 k K, l18_1000015 k K, trivial⟩ (by kernel_rfl)
noncomputable def s18 := onS (R := R) aa18 ab18 g18 (fun k => callC T F k 18)
theorem s18_eq : sOk (R := R) s18 18 := onS_eq (fun _ _ _ _ => rfl) tu18
noncomputable abbrev kt76 : Bool → Option R := (fun z0 => K [.val [] .bool z0] [])
abbrev aa76 : List Sh := [.val [(0, 0)] (.slice (.int .u8)), .val [(0, 0)] (.slice (.int .u8))]
abbrev ab76 : List RSh := []
noncomputable def g76 (k : Nat) (v : Sh.D.DL aa76 × RSh.DL ab76) (K : KT R) : Option R := f76 k v.1.1 v.1.2.1 (kt76 K)
noncomputable abbrev E76 := ending T Try.f76 an76 0 K
noncomputable def S76 := pickS (R := R) []
theorem S76_eq : ∀ k, S76 (R := R) k = callC T F k := pickS_eq trivial
noncomputable abbrev I76_0 : Option R := inner T an76 (modesOf F) 0 k 26 (S76 k) (E76 K) cd76_0 (sh sp76_0 ws rs) N X
abbrev aa76_0 : List Sh := [.val [(0, 0)] (.slice (.int .u8)), .val [(0, 0)] (.slice (.int .u8)), .val [] (.int .i64), .val [] (.int .i64)]
abbrev ab76_0 : List RSh := []
noncomputable def L76_0 : Option R :=
  onShape aa76_0 ab76_0 (fun v => f76_0 k (kt76 K) (N (sh jn76_0 [] [])) v.1.1 v.1.2.1 v.1.2.2.1 k v.1.2.2.2.1) (I76_0 k K ws rs N X) ws rs
noncomputable def L76 : Option R := bif id == 0 then L76_0 k K ws rs N X else none
theorem i76_0 (v0_0 : List Int) (v0_1 : List Int) (v0_2 : Int) (m : Nat) : ∀ (v0_3 : Int),
    iter (atHead an76 0 bd76_0) m (fun st N' => exec T an76 (modesOf F) 0 k 26 (S76 k) (E76 K) bd76_0 st N' (outX an76 0 0 N X)) (sh sp76_0 [.val [(0, 0)] (.slice (.int .u8)) v0_0, .val [(0, 0)] (.slice (.int .u8)) v0_1, .val [] (.int .i64) v0_2, .val [] (.int .i64) v0_3] []) = f76_0d k (kt76 K) (N (sh jn76_0 [] [])) v0_0 v0_1 v0_2 m v0_3 := by
  induction m with
  | zero => intros; rfl
  | succ m ih =>
    intro v0_3
    simp only [iter]
    rw [← execS_eq T an76 (modesOf F) 0 k 26 (S76 k) (L76 k K) bd76_0 (cuts_of _ _ _ _ _ _ _ _ bd76_0 (l := []) (by kernel_rfl) trivial)]
    have h := fx1 ih
    simp only [f76_0d]
    rw [← h]
    show _ = _
    kernel_rfl
theorem l76_0 : L76 k K 0 ws rs N X = I76_0 k K ws rs N X := by
  show L76_0 k K ws rs N X = _
  unfold L76_0
  rw [f76_0_def]
  exact onShape_eq (a := aa76_0) (b := ab76_0) (G := fun ws rs => I76_0 k K ws rs N X) (fun x y => Eq.trans (by kernel_rfl) (Eq.trans (i76_0 k K N X x.1 x.2.1 x.2.2.1 k x.2.2.2.1).symm (by kernel_rfl))) ws rs
theorem tu76 : tOk (R := R) 76 aa76 ab76 g76 := by
  intro k x y K
  unfold g76
  rw [f76_def]
  cases k with
  | zero => rfl
  | succ k => exact eS Try.f76 an76 0 26 (L76 k K) [(0, sp76_0, cd76_0)] (by kernel_rfl) (S76_eq k) (by kernel_rfl) ⟨l76_0 k K, trivial⟩ (by kernel_rfl)
noncomputable def s76 := onS (R := R) aa76 ab76 g76 (fun k => callC T F k 76)
theorem s76_eq : sOk (R := R) s76 76 := onS_eq (fun _ _ _ _ => rfl) tu76
noncomputable abbrev kt56 : Int → Int → Bool → ByteArray → Int → Bool → List Int → Option R := (fun z0 z1 z2 z3 z4 z5 z6 => K [.val [] (.int .i64) z0, .agg [.val [] (.int .i64) z1, .val [] .bool z2, .val [] .str z3, .val [] (.int .i64) z4, .val [] .bool z5, .rw 1]] [⟨0, .arr [] (.int .u8) z6⟩])
abbrev aa56 : List Sh := [.val [(0, 0)] (.slice (.int .u8))]
abbrev ab56 : List RSh := []
noncomputable def g56 (k : Nat) (v : Sh.D.DL aa56 × RSh.DL ab56) (K : KT R) : Option R := f56 k v.1.1 (kt56 K)
noncomputable abbrev E56 := ending T Try.f56 an56 0 K
noncomputable def S56 := pickS (R := R) [(18, s18), (72, s72), (74, s74), (75, s75), (76, s76)]
theorem S56_eq : ∀ k, S56 (R := R) k = callC T F k := pickS_eq ⟨s18_eq, s72_eq, s74_eq, s75_eq, s76_eq, trivial⟩
theorem tu56 : tOk (R := R) 56 aa56 ab56 g56 := by
  intro k x y K
  unfold g56
  rw [f56_def]
  cases k with
  | zero => rfl
  | succ k => exact eS Try.f56 an56 0 99 L0 [] (by kernel_rfl) (S56_eq k) (by kernel_rfl) trivial (by kernel_rfl)
noncomputable def s56 := onS (R := R) aa56 ab56 g56 (fun k => callC T F k 56)
theorem s56_eq : sOk (R := R) s56 56 := onS_eq (fun _ _ _ _ => rfl) tu56
noncomputable abbrev kt59 : Int → Int → Int → List Int → List Int → List Int → Int → List Int → List (Int × ((Int × (Bool × (ByteArray × (Int × (Bool × (List Int × Unit)))))) × Unit)) → Option R := (fun z0 z1 z2 z3 z4 z5 z6 z7 z8 => K [.agg [.val [] (.int .i64) z0, .val [] (.int .i64) z1, .val [] (.int .i64) z2, .val [(0, 0)] (.slice (.int .u8)) z3, .val [(0, 0)] (.slice (.int .i64)) z4, .val [(0, 0)] (.slice (.int .i64)) z5, .rw 1, .rw 2, .val [] (.int .i64) z6]] [⟨0, .arr [] (.int .i64) z7⟩, ⟨0, .arr [] (.prod (.int .i64) (.prod (.prod (.int .i64) (.prod .bool (.prod .str (.prod (.int .i64) (.prod .bool (.prod (.slice (.int .u8)) .unit)))))) .unit)) z8⟩])
abbrev aa59 : List Sh := [.agg [.val [] (.int .i64), .val [] (.int .i64), .val [] (.int .i64), .val [(0, 0)] (.slice (.int .u8)), .val [(0, 0)] (.slice (.int .i64)), .val [(0, 0)] (.slice (.int .i64))]]
abbrev ab59 : List RSh := []
noncomputable def g59 (k : Nat) (v : Sh.D.DL aa59 × RSh.DL ab59) (K : KT R) : Option R := f59 k v.1.1.1 v.1.1.2.1 v.1.1.2.2.1 v.1.1.2.2.2.1 v.1.1.2.2.2.2.1 v.1.1.2.2.2.2.2.1 (kt59 K)
noncomputable abbrev E59 := ending T Try.f59 an59 0 K
noncomputable def S59 := pickS (R := R) [(56, s56), (74, s74), (75, s75), (79, s79), (80, s80)]
theorem S59_eq : ∀ k, S59 (R := R) k = callC T F k := pickS_eq ⟨s56_eq, s74_eq, s75_eq, s79_eq, s80_eq, trivial⟩
noncomputable abbrev I59_1000012 : Option R := inner T an59 (modesOf F) 0 k 83 (S59 k) (E59 K) cd59_1000012 (sh sp59_1000012 ws rs) N X
abbrev aa59_1000012 : List Sh := [.ptr 1 0, .ptr 2 0, .ptr 3 0, .rw 6, .val [] (.int .i64), .val [(0, 0)] (.slice (.int .u8)), .val [] (.int .i64), .ptr 7 0, .val [] (.int .i64), .val [] (.int .i64), .val [] .bool]
abbrev ab59_1000012 : List RSh := [.vars [.val [] (.int .i64), .val [] (.int .i64), .val [] (.int .i64), .val [(0, 0)] (.slice (.int .u8)), .val [(0, 0)] (.slice (.int .i64)), .val [(0, 0)] (.slice (.int .i64))], .vars [.val [] (.int .i64), .val [] (.int .i64), .val [] (.int .i64), .nils, .nils, .nils, .nils, .nils, .val [] (.int .i64)], .vars [.val [] (.int .i64), .val [] (.int .i64), .val [] (.int .i64), .val [(0, 0)] (.slice (.int .u8)), .val [(0, 0)] (.slice (.int .i64)), .val [(0, 0)] (.slice (.int .i64)), .rw 4, .rw 5, .val [] (.int .i64)], .arr [] (.int .i64), .arr [] (.prod (.int .i64) (.prod (.prod (.int .i64) (.prod .bool (.prod .str (.prod (.int .i64) (.prod .bool (.prod (.slice (.int .u8)) .unit)))))) .unit)), .mp 0 [] (.prod (.int .i64) (.prod .str .unit)) .bool false, .vars [.val [] (.int .i64), .val [] .bool, .val [] .str, .val [] (.int .i64), .val [] .bool, .rw 8], .arr [] (.int .u8)]
noncomputable def L59_1000012 : Option R :=
  onShape aa59_1000012 ab59_1000012 (fun v => let u0 := v.1.2.2.2.2.2.2.2; let u1 := v.2.2.1.2.2.2.2.2.2.2; let u2 := v.2.2.2.1.2.2.2.2.2.2.2; let u3 := v.2.2.2.2.2.2.2; f59_1000012 k (fun yN_20 => N (sh fi59_12 [.ptr 1 0, .ptr 2 0, .ptr 3 0, .rw 6, .val [] (.int .i64) v.1.2.2.2.2.1, .val [] (.int .i64) v.1.2.2.2.2.2.2.1, .ptr 7 0, .val [] (.int .i64) u0.2.1, .val [] (.int .i64) u0.2.2.1] [⟨0, .vars [.val [] (.int .i64) v.2.1.1, .val [] (.int .i64) v.2.1.2.1, .val [] (.int .i64) v.2.1.2.2.1, .val [(0, 0)] (.slice (.int .u8)) v.2.1.2.2.2.1, .val [(0, 0)] (.slice (.int .i64)) v.2.1.2.2.2.2.1, .val [(0, 0)] (.slice (.int .i64)) v.2.1.2.2.2.2.2.1]⟩, ⟨0, .vars [.val [] (.int .i64) v.2.2.1.1, .val [] (.int .i64) v.2.2.1.2.1, .val [] (.int .i64) v.2.2.1.2.2.1, .nils, .nils, .nils, .nils, .nils, .val [] (.int .i64) u1.2.1]⟩, ⟨0, .vars [.val [] (.int .i64) v.2.2.2.1.1, .val [] (.int .i64) v.2.2.2.1.2.1, .val [] (.int .i64) v.2.2.2.1.2.2.1, .val [(0, 0)] (.slice (.int .u8)) v.2.2.2.1.2.2.2.1, .val [(0, 0)] (.slice (.int .i64)) v.2.2.2.1.2.2.2.2.1, .val [(0, 0)] (.slice (.int .i64)) v.2.2.2.1.2.2.2.2.2.1, .rw 4, .rw 5, .val [] (.int .i64) yN_20]⟩, ⟨0, .arr [] (.int .i64) v.2.2.2.2.1⟩, ⟨0, .arr [] (.prod (.int .i64) (.prod (.prod (.int .i64) (.prod .bool (.prod .str (.prod (.int .i64) (.prod .bool (.prod (.slice (.int .u8)) .unit)))))) .unit)) v.2.2.2.2.2.1⟩, ⟨0, .mp 0 [] (.prod (.int .i64) (.prod .str .unit)) .bool false v.2.2.2.2.2.2.1 none⟩, ⟨0, .vars [.val [] (.int .i64) u3.1.1, .val [] .bool u3.1.2.1, .val [] .str u3.1.2.2.1, .val [] (.int .i64) u3.1.2.2.2.1, .val [] .bool u3.1.2.2.2.2.1, .rw 8]⟩, ⟨0, .arr [] (.int .u8) u3.2.1⟩])) v.1.2.2.2.2.2.1 u0.2.2.2.1 u2.2.1) (I59_1000012 k K ws rs N X) ws rs
noncomputable abbrev I59_1000015 : Option R := inner T an59 (modesOf F) 0 k 83 (S59 k) (E59 K) cd59_1000015 (sh sp59_1000015 ws rs) N X
abbrev aa59_1000015 : List Sh := [.ptr 1 0, .ptr 2 0, .ptr 3 0, .rw 6, .val [] (.int .i64), .ptr 7 0, .ptr 9 0, .val [] (.int .i64), .val [] (.int .i64), .val [] .bool]
abbrev ab59_1000015 : List RSh := [.vars [.val [] (.int .i64), .val [] (.int .i64), .val [] (.int .i64), .val [(0, 0)] (.slice (.int .u8)), .val [(0, 0)] (.slice (.int .i64)), .val [(0, 0)] (.slice (.int .i64))], .vars [.val [] (.int .i64), .val [] (.int .i64), .val [] (.int .i64), .nils, .nils, .nils, .nils, .nils, .val [] (.int .i64)], .vars [.val [] (.int .i64), .val [] (.int .i64), .val [] (.int .i64), .val [(0, 0)] (.slice (.int .u8)), .val [(0, 0)] (.slice (.int .i64)), .val [(0, 0)] (.slice (.int .i64)), .rw 4, .rw 5, .val [] (.int .i64)], .arr [] (.int .i64), .arr [] (.prod (.int .i64) (.prod (.prod (.int .i64) (.prod .bool (.prod .str (.prod (.int .i64) (.prod .bool (.prod (.slice (.int .u8)) .unit)))))) .unit)), .mp 0 [] (.prod (.int .i64) (.prod .str .unit)) .bool false, .vars [.val [] (.int .i64), .val [] .bool, .val [] .str, .val [] (.int .i64), .val [] .bool, .rw 8], .arr [] (.int .u8), .vars [.val [] (.int .i64), .val [] .str]]
noncomputable def L59_1000015 : Option R :=
  onShape aa59_1000015 ab59_1000015 (fun v => let u0 := v.1.2.2.2.2.2.2.2; let u1 := v.2.2.1.2.2.2.2.2.2.2; let u2 := v.2.2.2.1.2.2.2.2.2.2.2; let u3 := v.2.2.2.2.2.2.2; f59_1000015 k (fun yN_20 yN_21 => N (sh fi59_15 [.ptr 1 0, .ptr 2 0, .ptr 3 0, .rw 6, .val [] (.int .i64) v.1.2.2.2.2.2.2.2.1, .val [] (.int .i64) u0.2.1] [⟨0, .vars [.val [] (.int .i64) v.2.1.1, .val [] (.int .i64) v.2.1.2.1, .val [] (.int .i64) v.2.1.2.2.1, .val [(0, 0)] (.slice (.int .u8)) v.2.1.2.2.2.1, .val [(0, 0)] (.slice (.int .i64)) v.2.1.2.2.2.2.1, .val [(0, 0)] (.slice (.int .i64)) v.2.1.2.2.2.2.2.1]⟩, ⟨0, .vars [.val [] (.int .i64) v.2.2.1.1, .val [] (.int .i64) v.2.2.1.2.1, .val [] (.int .i64) v.2.2.1.2.2.1, .nils, .nils, .nils, .nils, .nils, .val [] (.int .i64) u1.2.1]⟩, ⟨0, .vars [.val [] (.int .i64) v.2.2.2.1.1, .val [] (.int .i64) v.2.2.2.1.2.1, .val [] (.int .i64) v.2.2.2.1.2.2.1, .val [(0, 0)] (.slice (.int .u8)) v.2.2.2.1.2.2.2.1, .val [(0, 0)] (.slice (.int .i64)) v.2.2.2.1.2.2.2.2.1, .val [(0, 0)] (.slice (.int .i64)) v.2.2.2.1.2.2.2.2.2.1, .rw 4, .rw 5, .val [] (.int .i64) u2.2.1]⟩, ⟨0, .arr [] (.int .i64) v.2.2.2.2.1⟩, ⟨0, .arr [] (.prod (.int .i64) (.prod (.prod (.int .i64) (.prod .bool (.prod .str (.prod (.int .i64) (.prod .bool (.prod (.slice (.int .u8)) .unit)))))) .unit)) yN_20⟩, ⟨0, .mp 0 [] (.prod (.int .i64) (.prod .str .unit)) .bool false yN_21 none⟩])) v.1.2.2.2.2.1 u0.2.2.1 v.2.2.2.2.2.1 v.2.2.2.2.2.2.1 u3.1.1 u3.1.2.1 u3.1.2.2.1 u3.1.2.2.2.1 u3.1.2.2.2.2.1 u3.2.1 u3.2.2.1.1 u3.2.2.1.2.1) (I59_1000015 k K ws rs N X) ws rs
noncomputable abbrev I59_1 : Option R := inner T an59 (modesOf F) 0 k 83 (S59 k) (E59 K) cd59_1 (sh sp59_1 ws rs) N X
abbrev aa59_1 : List Sh := [.ptr 1 0, .ptr 2 0, .ptr 3 0, .rw 6, .val [] (.int .i64), .val [] (.int .i64)]
abbrev ab59_1 : List RSh := [.vars [.val [] (.int .i64), .val [] (.int .i64), .val [] (.int .i64), .val [(0, 0)] (.slice (.int .u8)), .val [(0, 0)] (.slice (.int .i64)), .val [(0, 0)] (.slice (.int .i64))], .vars [.val [] (.int .i64), .val [] (.int .i64), .val [] (.int .i64), .nils, .nils, .nils, .nils, .nils, .val [] (.int .i64)], .vars [.val [] (.int .i64), .val [] (.int .i64), .val [] (.int .i64), .val [(0, 0)] (.slice (.int .u8)), .val [(0, 0)] (.slice (.int .i64)), .val [(0, 0)] (.slice (.int .i64)), .rw 4, .rw 5, .val [] (.int .i64)], .arr [] (.int .i64), .arr [] (.prod (.int .i64) (.prod (.prod (.int .i64) (.prod .bool (.prod .str (.prod (.int .i64) (.prod .bool (.prod (.slice (.int .u8)) .unit)))))) .unit)), .mp 0 [] (.prod (.int .i64) (.prod .str .unit)) .bool false]
noncomputable def L59_1 : Option R :=
  onShape aa59_1 ab59_1 (fun v => let u0 := v.2.2.1.2.2.2.2.2.2.2; let u1 := v.2.2.2.1.2.2.2.2.2.2.2; f59_1 k (fun y1_18 y1_19 y1_20 y1_21 => N (sh jn59_1 [.ptr 1 0, .ptr 2 0, .ptr 3 0, .rw 6, .val [] (.int .i64) v.1.2.2.2.2.1, .val [] (.int .i64) v.1.2.2.2.2.2.1] [⟨0, .vars [.val [] (.int .i64) v.2.1.1, .val [] (.int .i64) v.2.1.2.1, .val [] (.int .i64) v.2.1.2.2.1, .val [(0, 0)] (.slice (.int .u8)) v.2.1.2.2.2.1, .val [(0, 0)] (.slice (.int .i64)) v.2.1.2.2.2.2.1, .val [(0, 0)] (.slice (.int .i64)) v.2.1.2.2.2.2.2.1]⟩, ⟨0, .vars [.val [] (.int .i64) v.2.2.1.1, .val [] (.int .i64) v.2.2.1.2.1, .val [] (.int .i64) v.2.2.1.2.2.1, .nils, .nils, .nils, .nils, .nils, .val [] (.int .i64) u0.2.1]⟩, ⟨0, .vars [.val [] (.int .i64) v.2.2.2.1.1, .val [] (.int .i64) v.2.2.2.1.2.1, .val [] (.int .i64) v.2.2.2.1.2.2.1, .val [(0, 0)] (.slice (.int .u8)) v.2.2.2.1.2.2.2.1, .val [(0, 0)] (.slice (.int .i64)) v.2.2.2.1.2.2.2.2.1, .val [(0, 0)] (.slice (.int .i64)) v.2.2.2.1.2.2.2.2.2.1, .rw 4, .rw 5, .val [] (.int .i64) y1_18]⟩, ⟨0, .arr [] (.int .i64) y1_19⟩, ⟨0, .arr [] (.prod (.int .i64) (.prod (.prod (.int .i64) (.prod .bool (.prod .str (.prod (.int .i64) (.prod .bool (.prod (.slice (.int .u8)) .unit)))))) .unit)) y1_20⟩, ⟨0, .mp 0 [] (.prod (.int .i64) (.prod .str .unit)) .bool false y1_21 none⟩])) v.1.2.2.2.2.2.1 v.2.1.1 v.2.1.2.1 v.2.1.2.2.1 v.2.1.2.2.2.1 v.2.1.2.2.2.2.1 v.2.1.2.2.2.2.2.1 u1.2.1 v.2.2.2.2.1 v.2.2.2.2.2.1 v.2.2.2.2.2.2.1) (I59_1 k K ws rs N X) ws rs
noncomputable abbrev I59_0 : Option R := inner T an59 (modesOf F) 0 k 83 (S59 k) (E59 K) cd59_0 (sh sp59_0 ws rs) N X
abbrev aa59_0 : List Sh := [.ptr 1 0, .ptr 2 0, .ptr 3 0, .rw 6, .val [] (.int .i64), .val [] (.int .i64)]
abbrev ab59_0 : List RSh := [.vars [.val [] (.int .i64), .val [] (.int .i64), .val [] (.int .i64), .val [(0, 0)] (.slice (.int .u8)), .val [(0, 0)] (.slice (.int .i64)), .val [(0, 0)] (.slice (.int .i64))], .vars [.val [] (.int .i64), .val [] (.int .i64), .val [] (.int .i64), .nils, .nils, .nils, .nils, .nils, .val [] (.int .i64)], .vars [.val [] (.int .i64), .val [] (.int .i64), .val [] (.int .i64), .val [(0, 0)] (.slice (.int .u8)), .val [(0, 0)] (.slice (.int .i64)), .val [(0, 0)] (.slice (.int .i64)), .rw 4, .rw 5, .val [] (.int .i64)], .arr [] (.int .i64), .arr [] (.prod (.int .i64) (.prod (.prod (.int .i64) (.prod .bool (.prod .str (.prod (.int .i64) (.prod .bool (.prod (.slice (.int .u8)) .unit)))))) .unit)), .mp 0 [] (.prod (.int .i64) (.prod .str .unit)) .bool false]
noncomputable def L59_0 : Option R :=
  onShape aa59_0 ab59_0 (fun v => let u0 := v.2.2.1.2.2.2.2.2.2.2; let u1 := v.2.2.2.1.2.2.2.2.2.2.2; f59_0 k (fun y0_10 y0_11 y0_12 => N (sh jn59_0 [.ptr 1 0, .ptr 2 0] [⟨0, .vars [.val [] (.int .i64) v.2.2.1.1, .val [] (.int .i64) v.2.2.1.2.1, .val [] (.int .i64) v.2.2.1.2.2.1, .nils, .nils, .nils, .nils, .nils, .val [] (.int .i64) u0.2.1]⟩, ⟨0, .vars [.val [] (.int .i64) v.2.2.2.1.1, .val [] (.int .i64) v.2.2.2.1.2.1, .val [] (.int .i64) v.2.2.2.1.2.2.1, .val [(0, 0)] (.slice (.int .u8)) v.2.2.2.1.2.2.2.1, .val [(0, 0)] (.slice (.int .i64)) v.2.2.2.1.2.2.2.2.1, .val [(0, 0)] (.slice (.int .i64)) v.2.2.2.1.2.2.2.2.2.1, .rw 3, .rw 4, .val [] (.int .i64) y0_10]⟩, ⟨0, .arr [] (.int .i64) y0_11⟩, ⟨0, .arr [] (.prod (.int .i64) (.prod (.prod (.int .i64) (.prod .bool (.prod .str (.prod (.int .i64) (.prod .bool (.prod (.slice (.int .u8)) .unit)))))) .unit)) y0_12⟩])) v.1.2.2.2.2.1 v.2.1.1 v.2.1.2.1 v.2.1.2.2.1 v.2.1.2.2.2.1 v.2.1.2.2.2.2.1 v.2.1.2.2.2.2.2.1 v.2.2.1.1 v.2.2.1.2.1 v.2.2.1.2.2.1 u0.2.1 v.2.2.2.1.1 v.2.2.2.1.2.1 v.2.2.2.1.2.2.1 v.2.2.2.1.2.2.2.1 v.2.2.2.1.2.2.2.2.1 v.2.2.2.1.2.2.2.2.2.1 k v.1.2.2.2.2.2.1 u1.2.1 v.2.2.2.2.1 v.2.2.2.2.2.1 v.2.2.2.2.2.2.1) (I59_0 k K ws rs N X) ws rs
noncomputable def L59 : Option R := bif id == 1000012 then L59_1000012 k K ws rs N X else bif id == 1000015 then L59_1000015 k K ws rs N X else bif id == 1 then L59_1 k K ws rs N X else bif id == 0 then L59_0 k K ws rs N X else none
theorem l59_1000012 : L59 k K 1000012 ws rs N X = I59_1000012 k K ws rs N X := by
  show L59_1000012 k K ws rs N X = _
  unfold L59_1000012
  rw [f59_1000012_def]
  exact lC (L59 k K) [] (by kernel_rfl) trivial fun x y => by kernel_rfl
theorem l59_1000015 : L59 k K 1000015 ws rs N X = I59_1000015 k K ws rs N X := by
  show L59_1000015 k K ws rs N X = _
  unfold L59_1000015
  rw [f59_1000015_def]
  exact lC (L59 k K) [] (by kernel_rfl) trivial fun x y => by kernel_rfl
theorem l59_1 : L59 k K 1 ws rs N X = I59_1 k K ws rs N X := by
  show L59_1 k K ws rs N X = _
  unfold L59_1
  rw [f59_1_def]
  exact lC (L59 k K) [(1000012, sp59_1000012, cd59_1000012), (1000015, sp59_1000015, cd59_1000015)] (by kernel_rfl) ⟨l59_1000012 k K, l59_1000015 k K, trivial⟩ fun x y => by kernel_rfl
theorem i59_0 (v0_0 : Int) (v0_2 : Int) (v0_3 : Int) (v0_4 : Int) (v0_5 : List Int) (v0_6 : List Int) (v0_7 : List Int) (v0_8 : Int) (v0_9 : Int) (v0_10 : Int) (v0_11 : Int) (v0_12 : Int) (v0_13 : Int) (v0_14 : Int) (v0_15 : List Int) (v0_16 : List Int) (v0_17 : List Int) (m : Nat) : ∀ (v0_1 : Int) (v0_18 : Int) (v0_19 : List Int) (v0_20 : List (Int × ((Int × (Bool × (ByteArray × (Int × (Bool × (List Int × Unit)))))) × Unit))) (v0_21 : List ((Int × (ByteArray × Unit)) × Bool)),
    iter (atHead an59 0 bd59_0) m (fun st N' => exec T an59 (modesOf F) 0 k 83 (S59 k) (E59 K) bd59_0 st N' (outX an59 0 0 N X)) (sh sp59_0 [.ptr 1 0, .ptr 2 0, .ptr 3 0, .rw 6, .val [] (.int .i64) v0_0, .val [] (.int .i64) v0_1] [⟨0, .vars [.val [] (.int .i64) v0_2, .val [] (.int .i64) v0_3, .val [] (.int .i64) v0_4, .val [(0, 0)] (.slice (.int .u8)) v0_5, .val [(0, 0)] (.slice (.int .i64)) v0_6, .val [(0, 0)] (.slice (.int .i64)) v0_7]⟩, ⟨0, .vars [.val [] (.int .i64) v0_8, .val [] (.int .i64) v0_9, .val [] (.int .i64) v0_10, .nils, .nils, .nils, .nils, .nils, .val [] (.int .i64) v0_11]⟩, ⟨0, .vars [.val [] (.int .i64) v0_12, .val [] (.int .i64) v0_13, .val [] (.int .i64) v0_14, .val [(0, 0)] (.slice (.int .u8)) v0_15, .val [(0, 0)] (.slice (.int .i64)) v0_16, .val [(0, 0)] (.slice (.int .i64)) v0_17, .rw 4, .rw 5, .val [] (.int .i64) v0_18]⟩, ⟨0, .arr [] (.int .i64) v0_19⟩, ⟨0, .arr [] (.prod (.int .i64) (.prod (.prod (.int .i64) (.prod .bool (.prod .str (.prod (.int .i64) (.prod .bool (.prod (.slice (.int .u8)) .unit)))))) .unit)) v0_20⟩, ⟨0, .mp 0 [] (.prod (.int .i64) (.prod .str .unit)) .bool false v0_21 none⟩]) = f59_0d k (fun y0_10 y0_11 y0_12 => N (sh jn59_0 [.ptr 1 0, .ptr 2 0] [⟨0, .vars [.val [] (.int .i64) v0_8, .val [] (.int .i64) v0_9, .val [] (.int .i64) v0_10, .nils, .nils, .nils, .nils, .nils, .val [] (.int .i64) v0_11]⟩, ⟨0, .vars [.val [] (.int .i64) v0_12, .val [] (.int .i64) v0_13, .val [] (.int .i64) v0_14, .val [(0, 0)] (.slice (.int .u8)) v0_15, .val [(0, 0)] (.slice (.int .i64)) v0_16, .val [(0, 0)] (.slice (.int .i64)) v0_17, .rw 3, .rw 4, .val [] (.int .i64) y0_10]⟩, ⟨0, .arr [] (.int .i64) y0_11⟩, ⟨0, .arr [] (.prod (.int .i64) (.prod (.prod (.int .i64) (.prod .bool (.prod .str (.prod (.int .i64) (.prod .bool (.prod (.slice (.int .u8)) .unit)))))) .unit)) y0_12⟩])) v0_0 v0_2 v0_3 v0_4 v0_5 v0_6 v0_7 v0_8 v0_9 v0_10 v0_11 v0_12 v0_13 v0_14 v0_15 v0_16 v0_17 m v0_1 v0_18 v0_19 v0_20 v0_21 := by
  induction m with
  | zero => intros; rfl
  | succ m ih =>
    intro v0_1 v0_18 v0_19 v0_20 v0_21
    simp only [iter]
    rw [← execS_eq T an59 (modesOf F) 0 k 83 (S59 k) (L59 k K) bd59_0 (cuts_of _ _ _ _ _ _ _ _ bd59_0 (l := [(1, sp59_1, cd59_1)]) (by kernel_rfl) ⟨l59_1 k K, trivial⟩)]
    have h := fx5 ih
    simp only [f59_0d]
    rw [← h]
    show _ = _
    kernel_rfl
theorem l59_0 : L59 k K 0 ws rs N X = I59_0 k K ws rs N X := by
  show L59_0 k K ws rs N X = _
  unfold L59_0
  rw [f59_0_def]
  exact onShape_eq (a := aa59_0) (b := ab59_0) (G := fun ws rs => I59_0 k K ws rs N X) (fun x y => Eq.trans (by kernel_rfl) (Eq.trans (i59_0 k K N X x.2.2.2.2.1 y.1.1 y.1.2.1 y.1.2.2.1 y.1.2.2.2.1 y.1.2.2.2.2.1 y.1.2.2.2.2.2.1 y.2.1.1 y.2.1.2.1 y.2.1.2.2.1 y.2.1.2.2.2.2.2.2.2.2.1 y.2.2.1.1 y.2.2.1.2.1 y.2.2.1.2.2.1 y.2.2.1.2.2.2.1 y.2.2.1.2.2.2.2.1 y.2.2.1.2.2.2.2.2.1 k x.2.2.2.2.2.1 y.2.2.1.2.2.2.2.2.2.2.2.1 y.2.2.2.1 y.2.2.2.2.1 y.2.2.2.2.2.1).symm (by kernel_rfl))) ws rs
theorem tu59 : tOk (R := R) 59 aa59 ab59 g59 := by
  intro k x y K
  unfold g59
  rw [f59_def]
  cases k with
  | zero => rfl
  | succ k => exact eS Try.f59 an59 0 83 (L59 k K) [(0, sp59_0, cd59_0)] (by kernel_rfl) (S59_eq k) (by kernel_rfl) ⟨l59_0 k K, trivial⟩ (by kernel_rfl)
noncomputable def s59 := onS (R := R) aa59 ab59 g59 (fun k => callC T F k 59)
theorem s59_eq : sOk (R := R) s59 59 := onS_eq (fun _ _ _ _ => rfl) tu59
noncomputable abbrev kt88 : List ByteArray → Option R := (fun z0 => K [] [⟨0, .arr [] .str z0⟩])
abbrev aa88 : List Sh := [.rw 1]
abbrev ab88 : List RSh := [.arr [] .str]
noncomputable def g88 (k : Nat) (v : Sh.D.DL aa88 × RSh.DL ab88) (K : KT R) : Option R := f88 k v.2.1 (kt88 K)
theorem e88 (k : Nat) (a0 : List ByteArray) (K : KT R) : callC T F k 88 [.rw 1] [⟨0, .arr [] .str a0⟩] K = f88 k a0 (kt88 K) := by
  rw [f88_def]
  cases k with
  | zero => rfl
  | succ k => exact ss_call (m := [.any]) [] rfl (by kernel_rfl) a0 K
theorem tu88 : tOk (R := R) 88 aa88 ab88 g88 := fun k x y K => e88 k y.1 K
noncomputable def s88 := onS (R := R) aa88 ab88 g88 (fun k => callC T F k 88)
theorem s88_eq : sOk (R := R) s88 88 := onS_eq (fun _ _ _ _ => rfl) tu88
noncomputable abbrev kt89 : List ByteArray → Option R := (fun z0 => K [.rw 2] [⟨0, .gone⟩, ⟨0, .arr [] .str z0⟩])
abbrev aa89 : List Sh := [.rw 1]
abbrev ab89 : List RSh := [.arr [] .str]
noncomputable def g89 (k : Nat) (v : Sh.D.DL aa89 × RSh.DL ab89) (K : KT R) : Option R := f89 k v.2.1 (kt89 K)
noncomputable abbrev E89 := ending T Try.f89 an89 1 K
noncomputable def S89 := pickS (R := R) []
theorem S89_eq : ∀ k, S89 (R := R) k = callC T F k := pickS_eq trivial
noncomputable abbrev I89_1000012 : Option R := inner T an89 (modesOf F) 1 k 61 (S89 k) (E89 K) cd89_1000012 (sh sp89_1000012 ws rs) N X
abbrev aa89_1000012 : List Sh := [.rw 1, .val [] (.int .i64), .rs 1, .val [] (.int .i64), .val [] .bool]
abbrev ab89_1000012 : List RSh := [.arr [] .str]
noncomputable def L89_1000012 : Option R :=
  onShape aa89_1000012 ab89_1000012 (fun v => f89_1000012 k (fun yN_0 yN_4 => N (sh fi89_12 [.rw 1, .val [] (.int .i64) yN_0, .rs 1 v.1.2.2.1.1 v.1.2.2.1.2, .val [] (.int .i64) v.1.2.2.2.1] [⟨0, .arr [] .str yN_4⟩])) v.1.2.1 v.1.2.2.1.1 v.1.2.2.1.2 v.1.2.2.2.1 v.1.2.2.2.2.1 v.2.1) (I89_1000012 k K ws rs N X) ws rs
noncomputable abbrev I89_2 : Option R := inner T an89 (modesOf F) 1 k 61 (S89 k) (E89 K) cd89_2 (sh sp89_2 ws rs) N X
abbrev aa89_2 : List Sh := [.rw 1, .val [] (.int .i64), .rs 1, .val [] (.int .i64)]
abbrev ab89_2 : List RSh := [.arr [] .str]
noncomputable def L89_2 : Option R :=
  onShape aa89_2 ab89_2 (fun v => f89_2 k (fun y2_0 y2_1 => N (sh jn89_2 [.rw 1, .val [] (.int .i64) y2_0] [⟨0, .arr [] .str y2_1⟩])) v.1.2.2.1.1 v.1.2.2.1.2 k v.1.2.1 v.1.2.2.2.1 v.2.1) (I89_2 k K ws rs N X) ws rs
noncomputable abbrev I89_0 : Option R := inner T an89 (modesOf F) 1 k 61 (S89 k) (E89 K) cd89_0 (sh sp89_0 ws rs) N X
abbrev aa89_0 : List Sh := [.rw 1, .val [] (.int .i64)]
abbrev ab89_0 : List RSh := [.arr [] .str]
noncomputable def L89_0 : Option R :=
  onShape aa89_0 ab89_0 (fun v => f89_0 k (kt89 K) (N (sh jn89_0 [.rw 1] [⟨0, .arr [] .str v.2.1⟩])) v.2.1 k v.1.2.1) (I89_0 k K ws rs N X) ws rs
noncomputable def L89 : Option R := bif id == 1000012 then L89_1000012 k K ws rs N X else bif id == 2 then L89_2 k K ws rs N X else bif id == 0 then L89_0 k K ws rs N X else none
theorem l89_1000012 : L89 k K 1000012 ws rs N X = I89_1000012 k K ws rs N X := by
  show L89_1000012 k K ws rs N X = _
  unfold L89_1000012
  rw [f89_1000012_def]
  exact lC (L89 k K) [] (by kernel_rfl) trivial fun x y => by kernel_rfl
theorem i89_2 (v2_1 : Nat) (v2_2 : Nat) (m : Nat) : ∀ (v2_0 : Int) (v2_3 : Int) (v2_4 : List ByteArray),
    iter (atHead an89 1 bd89_2) m (fun st N' => exec T an89 (modesOf F) 1 k 61 (S89 k) (E89 K) bd89_2 st N' (outX an89 1 2 N X)) (sh sp89_2 [.rw 1, .val [] (.int .i64) v2_0, .rs 1 v2_1 v2_2, .val [] (.int .i64) v2_3] [⟨0, .arr [] .str v2_4⟩]) = f89_2d k (fun y2_0 y2_1 => N (sh jn89_2 [.rw 1, .val [] (.int .i64) y2_0] [⟨0, .arr [] .str y2_1⟩])) v2_1 v2_2 m v2_0 v2_3 v2_4 := by
  induction m with
  | zero => intros; rfl
  | succ m ih =>
    intro v2_0 v2_3 v2_4
    simp only [iter]
    rw [← execS_eq T an89 (modesOf F) 1 k 61 (S89 k) (L89 k K) bd89_2 (cuts_of _ _ _ _ _ _ _ _ bd89_2 (l := [(1000012, sp89_1000012, cd89_1000012)]) (by kernel_rfl) ⟨l89_1000012 k K, trivial⟩)]
    have h := fx3 ih
    simp only [f89_2d]
    rw [← h]
    show _ = _
    kernel_rfl
theorem l89_2 : L89 k K 2 ws rs N X = I89_2 k K ws rs N X := by
  show L89_2 k K ws rs N X = _
  unfold L89_2
  rw [f89_2_def]
  exact onShape_eq (a := aa89_2) (b := ab89_2) (G := fun ws rs => I89_2 k K ws rs N X) (fun x y => Eq.trans (by kernel_rfl) (Eq.trans (i89_2 k K N X x.2.2.1.1 x.2.2.1.2 k x.2.1 x.2.2.2.1 y.1).symm (by kernel_rfl))) ws rs
theorem i89_0 (v0_1 : List ByteArray) (m : Nat) : ∀ (v0_0 : Int),
    iter (atHead an89 1 bd89_0) m (fun st N' => exec T an89 (modesOf F) 1 k 61 (S89 k) (E89 K) bd89_0 st N' (outX an89 1 0 N X)) (sh sp89_0 [.rw 1, .val [] (.int .i64) v0_0] [⟨0, .arr [] .str v0_1⟩]) = f89_0d k (kt89 K) (N (sh jn89_0 [.rw 1] [⟨0, .arr [] .str v0_1⟩])) v0_1 m v0_0 := by
  induction m with
  | zero => intros; rfl
  | succ m ih =>
    intro v0_0
    simp only [iter]
    rw [← execS_eq T an89 (modesOf F) 1 k 61 (S89 k) (L89 k K) bd89_0 (cuts_of _ _ _ _ _ _ _ _ bd89_0 (l := [(2, sp89_2, cd89_2)]) (by kernel_rfl) ⟨l89_2 k K, trivial⟩)]
    have h := fx1 ih
    simp only [f89_0d]
    rw [← h]
    show _ = _
    kernel_rfl
theorem l89_0 : L89 k K 0 ws rs N X = I89_0 k K ws rs N X := by
  show L89_0 k K ws rs N X = _
  unfold L89_0
  rw [f89_0_def]
  exact onShape_eq (a := aa89_0) (b := ab89_0) (G := fun ws rs => I89_0 k K ws rs N X) (fun x y => Eq.trans (by kernel_rfl) (Eq.trans (i89_0 k K N X y.1 k x.2.1).symm (by kernel_rfl))) ws rs
theorem tu89 : tOk (R := R) 89 aa89 ab89 g89 := by
  intro k x y K
  unfold g89
  rw [f89_def]
  cases k with
  | zero => rfl
  | succ k => exact eS Try.f89 an89 1 61 (L89 k K) [(0, sp89_0, cd89_0)] (by kernel_rfl) (S89_eq k) (by kernel_rfl) ⟨l89_0 k K, trivial⟩ (by kernel_rfl)
noncomputable def s89 := onS (R := R) aa89 ab89 g89 (fun k => callC T F k 89)
theorem s89_eq : sOk (R := R) s89 89 := onS_eq (fun _ _ _ _ => rfl) tu89
noncomputable abbrev kt66 : List ByteArray → Option R := (fun z0 => K [.rw 1] [⟨0, .arr [] .str z0⟩])
abbrev aa66 : List Sh := [.agg [.val [] (.int .i64), .val [] (.int .i64), .val [] (.int .i64), .val [(0, 0)] (.slice (.int .u8)), .val [(0, 0)] (.slice (.int .i64)), .val [(0, 0)] (.slice (.int .i64)), .val [(0, 0)] (.slice (.int .i64)), .val [(0, 0)] (.slice (.prod (.int .i64) (.prod (.prod (.int .i64) (.prod .bool (.prod .str (.prod (.int .i64) (.prod .bool (.prod (.slice (.int .u8)) .unit)))))) .unit))), .val [] (.int .i64)]]
abbrev ab66 : List RSh := []
noncomputable def g66 (k : Nat) (v : Sh.D.DL aa66 × RSh.DL ab66) (K : KT R) : Option R := let u0 := v.1.1.2.2.2.2.2.2.2; f66 k v.1.1.1 v.1.1.2.1 v.1.1.2.2.1 v.1.1.2.2.2.1 v.1.1.2.2.2.2.1 v.1.1.2.2.2.2.2.1 v.1.1.2.2.2.2.2.2.1 v.1.1.2.2.2.2.2.2.2.1 u0.2.1 (kt66 K)
noncomputable abbrev E66 := ending T Try.f66 an66 0 K
noncomputable def S66 := pickS (R := R) [(88, s88), (89, s89)]
theorem S66_eq : ∀ k, S66 (R := R) k = callC T F k := pickS_eq ⟨s88_eq, s89_eq, trivial⟩
noncomputable abbrev I66_0 : Option R := inner T an66 (modesOf F) 0 k 24 (S66 k) (E66 K) cd66_0 (sh sp66_0 ws rs) N X
abbrev aa66_0 : List Sh := [.rw 1, .val [(0, 0)] (.slice (.prod (.int .i64) (.prod (.prod (.int .i64) (.prod .bool (.prod .str (.prod (.int .i64) (.prod .bool (.prod (.slice (.int .u8)) .unit)))))) .unit))), .val [] (.int .i64), .val [] (.int .i64)]
abbrev ab66_0 : List RSh := [.arr [] .str]
noncomputable def L66_0 : Option R :=
  onShape aa66_0 ab66_0 (fun v => f66_0 k (fun y0_0 => N (sh jn66_0 [.rw 1] [⟨0, .arr [] .str y0_0⟩])) v.1.2.1 v.1.2.2.1 k v.1.2.2.2.1 v.2.1) (I66_0 k K ws rs N X) ws rs
noncomputable def L66 : Option R := bif id == 0 then L66_0 k K ws rs N X else none
theorem i66_0 (v0_0 : List ((Int × ((Int × (Bool × (ByteArray × (Int × (Bool × (List Int × Unit)))))) × Unit)))) (v0_1 : Int) (m : Nat) : ∀ (v0_2 : Int) (v0_3 : List ByteArray),
    iter (atHead an66 0 bd66_0) m (fun st N' => exec T an66 (modesOf F) 0 k 24 (S66 k) (E66 K) bd66_0 st N' (outX an66 0 0 N X)) (sh sp66_0 [.rw 1, .val [(0, 0)] (.slice (.prod (.int .i64) (.prod (.prod (.int .i64) (.prod .bool (.prod .str (.prod (.int .i64) (.prod .bool (.prod (.slice (.int .u8)) .unit)))))) .unit))) v0_0, .val [] (.int .i64) v0_1, .val [] (.int .i64) v0_2] [⟨0, .arr [] .str v0_3⟩]) = f66_0d k (fun y0_0 => N (sh jn66_0 [.rw 1] [⟨0, .arr [] .str y0_0⟩])) v0_0 v0_1 m v0_2 v0_3 := by
  induction m with
  | zero => intros; rfl
  | succ m ih =>
    intro v0_2 v0_3
    simp only [iter]
    rw [← execS_eq T an66 (modesOf F) 0 k 24 (S66 k) (L66 k K) bd66_0 (cuts_of _ _ _ _ _ _ _ _ bd66_0 (l := []) (by kernel_rfl) trivial)]
    have h := fx2 ih
    simp only [f66_0d]
    rw [← h]
    show _ = _
    kernel_rfl
theorem l66_0 : L66 k K 0 ws rs N X = I66_0 k K ws rs N X := by
  show L66_0 k K ws rs N X = _
  unfold L66_0
  rw [f66_0_def]
  exact onShape_eq (a := aa66_0) (b := ab66_0) (G := fun ws rs => I66_0 k K ws rs N X) (fun x y => Eq.trans (by kernel_rfl) (Eq.trans (i66_0 k K N X x.2.1 x.2.2.1 k x.2.2.2.1 y.1).symm (by kernel_rfl))) ws rs
theorem tu66 : tOk (R := R) 66 aa66 ab66 g66 := by
  intro k x y K
  unfold g66
  rw [f66_def]
  cases k with
  | zero => rfl
  | succ k => exact eS Try.f66 an66 0 24 (L66 k K) [(0, sp66_0, cd66_0)] (by kernel_rfl) (S66_eq k) (by kernel_rfl) ⟨l66_0 k K, trivial⟩ (by kernel_rfl)
noncomputable def s66 := onS (R := R) aa66 ab66 g66 (fun k => callC T F k 66)
theorem s66_eq : sOk (R := R) s66 66 := onS_eq (fun _ _ _ _ => rfl) tu66
noncomputable abbrev kt106 : Int → Option R := (fun z0 => K [.val [] (.int .i64) z0] [])
abbrev aa106 : List Sh := [.agg [.val [] (.int .i64), .val [] (.int .i64), .val [] .bool, .val [] .str, .val [] (.int .i64), .val [] .bool, .val [(0, 0)] (.slice (.int .u8))]]
abbrev ab106 : List RSh := []
noncomputable def g106 (k : Nat) (v : Sh.D.DL aa106 × RSh.DL ab106) (K : KT R) : Option R := f106 k v.1.1.1 v.1.1.2.1 v.1.1.2.2.1 v.1.1.2.2.2.1 v.1.1.2.2.2.2.1 v.1.1.2.2.2.2.2.1 v.1.1.2.2.2.2.2.2.1 (kt106 K)
noncomputable abbrev E106 := ending T Try.f106 an106 0 K
noncomputable def S106 := pickS (R := R) []
theorem S106_eq : ∀ k, S106 (R := R) k = callC T F k := pickS_eq trivial
theorem tu106 : tOk (R := R) 106 aa106 ab106 g106 := by
  intro k x y K
  unfold g106
  rw [f106_def]
  cases k with
  | zero => rfl
  | succ k => exact eS Try.f106 an106 0 10 L0 [] (by kernel_rfl) (S106_eq k) (by kernel_rfl) trivial (by kernel_rfl)
noncomputable def s106 := onS (R := R) aa106 ab106 g106 (fun k => callC T F k 106)
theorem s106_eq : sOk (R := R) s106 106 := onS_eq (fun _ _ _ _ => rfl) tu106
noncomputable abbrev kt91 : List (Int × List ((Int × ((Int × (Bool × (ByteArray × (Int × (Bool × (List Int × Unit)))))) × Unit)))) → Option R := (fun z0 => K [.rw 1] [⟨0, .mp 0 [(0, 0)] (.int .i64) (.slice (.prod (.int .i64) (.prod (.prod (.int .i64) (.prod .bool (.prod .str (.prod (.int .i64) (.prod .bool (.prod (.slice (.int .u8)) .unit)))))) .unit))) false z0 none⟩])
abbrev aa91 : List Sh := [.agg [.val [] (.int .i64), .val [] (.int .i64), .val [] (.int .i64), .val [(0, 0)] (.slice (.int .u8)), .val [(0, 0)] (.slice (.int .i64)), .val [(0, 0)] (.slice (.int .i64)), .val [(0, 0)] (.slice (.int .i64)), .val [(0, 0)] (.slice (.prod (.int .i64) (.prod (.prod (.int .i64) (.prod .bool (.prod .str (.prod (.int .i64) (.prod .bool (.prod (.slice (.int .u8)) .unit)))))) .unit))), .val [] (.int .i64)], .val [] .str]
abbrev ab91 : List RSh := []
noncomputable def g91 (k : Nat) (v : Sh.D.DL aa91 × RSh.DL ab91) (K : KT R) : Option R := let u0 := v.1.1.2.2.2.2.2.2.2; f91 k v.1.1.1 v.1.1.2.1 v.1.1.2.2.1 v.1.1.2.2.2.1 v.1.1.2.2.2.2.1 v.1.1.2.2.2.2.2.1 v.1.1.2.2.2.2.2.2.1 v.1.1.2.2.2.2.2.2.2.1 u0.2.1 v.1.2.1 (kt91 K)
noncomputable abbrev E91 := ending T Try.f91 an91 0 K
noncomputable def S91 := pickS (R := R) [(106, s106)]
theorem S91_eq : ∀ k, S91 (R := R) k = callC T F k := pickS_eq ⟨s106_eq, trivial⟩
noncomputable abbrev I91_1000006 : Option R := inner T an91 (modesOf F) 0 k 33 (S91 k) (E91 K) cd91_1000006 (sh sp91_1000006 ws rs) N X
abbrev aa91_1000006 : List Sh := [.val [] .str, .rw 1, .ptr 2 0, .val [(0, 0)] (.slice (.prod (.int .i64) (.prod (.prod (.int .i64) (.prod .bool (.prod .str (.prod (.int .i64) (.prod .bool (.prod (.slice (.int .u8)) .unit)))))) .unit))), .val [] (.int .i64), .val [] (.int .i64), .val [] .bool]
abbrev ab91_1000006 : List RSh := [.mp 0 [(0, 0)] (.int .i64) (.slice (.prod (.int .i64) (.prod (.prod (.int .i64) (.prod .bool (.prod .str (.prod (.int .i64) (.prod .bool (.prod (.slice (.int .u8)) .unit)))))) .unit))) false, .vars [.val [] (.int .i64), .val [] (.int .i64), .val [] .bool, .val [] .str, .val [] (.int .i64), .val [] .bool, .val [(0, 0)] (.slice (.int .u8))]]
noncomputable def L91_1000006 : Option R :=
  onShape aa91_1000006 ab91_1000006 (fun v => f91_1000006 k (fun yN_4 => N (sh fi91_6 [.val [] .str v.1.1, .rw 1, .val [(0, 0)] (.slice (.prod (.int .i64) (.prod (.prod (.int .i64) (.prod .bool (.prod .str (.prod (.int .i64) (.prod .bool (.prod (.slice (.int .u8)) .unit)))))) .unit))) v.1.2.2.2.1, .val [] (.int .i64) v.1.2.2.2.2.1, .val [] (.int .i64) v.1.2.2.2.2.2.1] [⟨0, .mp 0 [(0, 0)] (.int .i64) (.slice (.prod (.int .i64) (.prod (.prod (.int .i64) (.prod .bool (.prod .str (.prod (.int .i64) (.prod .bool (.prod (.slice (.int .u8)) .unit)))))) .unit))) false yN_4 none⟩])) v.1.2.2.2.2.2.2.1 v.2.1 v.2.2.1.1 v.2.2.1.2.1 v.2.2.1.2.2.1 v.2.2.1.2.2.2.1 v.2.2.1.2.2.2.2.1 v.2.2.1.2.2.2.2.2.1 v.2.2.1.2.2.2.2.2.2.1) (I91_1000006 k K ws rs N X) ws rs
noncomputable abbrev I91_0 : Option R := inner T an91 (modesOf F) 0 k 33 (S91 k) (E91 K) cd91_0 (sh sp91_0 ws rs) N X
abbrev aa91_0 : List Sh := [.val [] .str, .rw 1, .val [(0, 0)] (.slice (.prod (.int .i64) (.prod (.prod (.int .i64) (.prod .bool (.prod .str (.prod (.int .i64) (.prod .bool (.prod (.slice (.int .u8)) .unit)))))) .unit))), .val [] (.int .i64), .val [] (.int .i64)]
abbrev ab91_0 : List RSh := [.mp 0 [(0, 0)] (.int .i64) (.slice (.prod (.int .i64) (.prod (.prod (.int .i64) (.prod .bool (.prod .str (.prod (.int .i64) (.prod .bool (.prod (.slice (.int .u8)) .unit)))))) .unit))) false]
noncomputable def L91_0 : Option R :=
  onShape aa91_0 ab91_0 (fun v => f91_0 k (fun y0_0 => N (sh jn91_0 [.rw 1] [⟨0, .mp 0 [(0, 0)] (.int .i64) (.slice (.prod (.int .i64) (.prod (.prod (.int .i64) (.prod .bool (.prod .str (.prod (.int .i64) (.prod .bool (.prod (.slice (.int .u8)) .unit)))))) .unit))) false y0_0 none⟩])) v.1.1 v.1.2.2.1 v.1.2.2.2.1 k v.1.2.2.2.2.1 v.2.1) (I91_0 k K ws rs N X) ws rs
noncomputable def L91 : Option R := bif id == 1000006 then L91_1000006 k K ws rs N X else bif id == 0 then L91_0 k K ws rs N X else none
theorem l91_1000006 : L91 k K 1000006 ws rs N X = I91_1000006 k K ws rs N X := by
  show L91_1000006 k K ws rs N X = _
  unfold L91_1000006
  rw [f91_1000006_def]
  exact lC (L91 k K) [] (by kernel_rfl) trivial fun x y => by kernel_rfl
theorem i91_0 (v0_0 : ByteArray) (v0_1 : List ((Int × ((Int × (Bool × (ByteArray × (Int × (Bool × (List Int × Unit)))))) × Unit)))) (v0_2 : Int) (m : Nat) : ∀ (v0_3 : Int) (v0_4 : List (Int × List ((Int × ((Int × (Bool × (ByteArray × (Int × (Bool × (List Int × Unit)))))) × Unit))))),
    iter (atHead an91 0 bd91_0) m (fun st N' => exec T an91 (modesOf F) 0 k 33 (S91 k) (E91 K) bd91_0 st N' (outX an91 0 0 N X)) (sh sp91_0 [.val [] .str v0_0, .rw 1, .val [(0, 0)] (.slice (.prod (.int .i64) (.prod (.prod (.int .i64) (.prod .bool (.prod .str (.prod (.int .i64) (.prod .bool (.prod (.slice (.int .u8)) .unit)))))) .unit))) v0_1, .val [] (.int .i64) v0_2, .val [] (.int .i64) v0_3] [⟨0, .mp 0 [(0, 0)] (.int .i64) (.slice (.prod (.int .i64) (.prod (.prod (.int .i64) (.prod .bool (.prod .str (.prod (.int .i64) (.prod .bool (.prod (.slice (.int .u8)) .unit)))))) .unit))) false v0_4 none⟩]) = f91_0d k (fun y0_0 => N (sh jn91_0 [.rw 1] [⟨0, .mp 0 [(0, 0)] (.int .i64) (.slice (.prod (.int .i64) (.prod (.prod (.int .i64) (.prod .bool (.prod .str (.prod (.int .i64) (.prod .bool (.prod (.slice (.int .u8)) .unit)))))) .unit))) false y0_0 none⟩])) v0_0 v0_1 v0_2 m v0_3 v0_4 := by
  induction m with
  | zero => intros; rfl
  | succ m ih =>
    intro v0_3 v0_4
    simp only [iter]
    rw [← execS_eq T an91 (modesOf F) 0 k 33 (S91 k) (L91 k K) bd91_0 (cuts_of _ _ _ _ _ _ _ _ bd91_0 (l := [(1000006, sp91_1000006, cd91_1000006)]) (by kernel_rfl) ⟨l91_1000006 k K, trivial⟩)]
    have h := fx2 ih
    simp only [f91_0d]
    rw [← h]
    show _ = _
    kernel_rfl
theorem l91_0 : L91 k K 0 ws rs N X = I91_0 k K ws rs N X := by
  show L91_0 k K ws rs N X = _
  unfold L91_0
  rw [f91_0_def]
  exact onShape_eq (a := aa91_0) (b := ab91_0) (G := fun ws rs => I91_0 k K ws rs N X) (fun x y => Eq.trans (by kernel_rfl) (Eq.trans (i91_0 k K N X x.1 x.2.2.1 x.2.2.2.1 k x.2.2.2.2.1 y.1).symm (by kernel_rfl))) ws rs
theorem tu91 : tOk (R := R) 91 aa91 ab91 g91 := by
  intro k x y K
  unfold g91
  rw [f91_def]
  cases k with
  | zero => rfl
  | succ k => exact eS Try.f91 an91 0 33 (L91 k K) [(0, sp91_0, cd91_0)] (by kernel_rfl) (S91_eq k) (by kernel_rfl) ⟨l91_0 k K, trivial⟩ (by kernel_rfl)
noncomputable def s91 := onS (R := R) aa91 ab91 g91 (fun k => callC T F k 91)
theorem s91_eq : sOk (R := R) s91 91 := onS_eq (fun _ _ _ _ => rfl) tu91
noncomputable abbrev kt104 : List (Int × ((Int × (Bool × (ByteArray × (Int × (Bool × (List Int × Unit)))))) × Unit)) → Option R := (fun z0 => K [] [⟨0, .arr [(0, 0)] (.prod (.int .i64) (.prod (.prod (.int .i64) (.prod .bool (.prod .str (.prod (.int .i64) (.prod .bool (.prod (.slice (.int .u8)) .unit)))))) .unit)) z0⟩])
abbrev aa104 : List Sh := [.rw 1, .fn 105 []]
abbrev ab104 : List RSh := [.arr [(0, 0)] (.prod (.int .i64) (.prod (.prod (.int .i64) (.prod .bool (.prod .str (.prod (.int .i64) (.prod .bool (.prod (.slice (.int .u8)) .unit)))))) .unit))]
noncomputable def g104 (k : Nat) (v : Sh.D.DL aa104 × RSh.DL ab104) (K : KT R) : Option R := f104 k v.2.1 (kt104 K)
theorem e104 (k : Nat) (a0 : List (Int × ((Int × (Bool × (ByteArray × (Int × (Bool × (List Int × Unit)))))) × Unit))) (K : KT R) : callC T F k 104 [.rw 1, .fn 105 []] [⟨0, .arr [(0, 0)] (.prod (.int .i64) (.prod (.prod (.int .i64) (.prod .bool (.prod .str (.prod (.int .i64) (.prod .bool (.prod (.slice (.int .u8)) .unit)))))) .unit)) a0⟩] K = f104 k a0 (kt104 K) := by
  rw [f104_def]
  cases k with
  | zero => rfl
  | succ k => exact sk_call (m := [.any, .any]) (ty := (.prod (.int .i64) (.prod (.prod (.int .i64) (.prod .bool (.prod .str (.prod (.int .i64) (.prod .bool (.prod (.slice (.int .u8)) .unit)))))) .unit))) (c := 105) (key := keyIx) [(0, 0)] rfl (by kernel_rfl) a0 K
theorem tu104 : tOk (R := R) 104 aa104 ab104 g104 := fun k x y K => e104 k y.1 K
noncomputable def s104 := onS (R := R) aa104 ab104 g104 (fun k => callC T F k 104)
theorem s104_eq : sOk (R := R) s104 104 := onS_eq (fun _ _ _ _ => rfl) tu104
noncomputable abbrev kt92 : Int → Int → Bool → Bool → List (Int × ((Int × (Bool × (ByteArray × (Int × (Bool × (List Int × Unit)))))) × Unit)) → Option R := (fun z0 z1 z2 z3 z4 => K [.agg [.val [] (.int .i64) z0, .val [] (.int .i64) z1, .val [] .bool z2, .val [] .bool z3]] [⟨0, .arr [(0, 0)] (.prod (.int .i64) (.prod (.prod (.int .i64) (.prod .bool (.prod .str (.prod (.int .i64) (.prod .bool (.prod (.slice (.int .u8)) .unit)))))) .unit)) z4⟩])
abbrev aa92 : List Sh := [.val [] (.int .i64), .rw 1]
abbrev ab92 : List RSh := [.arr [(0, 0)] (.prod (.int .i64) (.prod (.prod (.int .i64) (.prod .bool (.prod .str (.prod (.int .i64) (.prod .bool (.prod (.slice (.int .u8)) .unit)))))) .unit))]
noncomputable def g92 (k : Nat) (v : Sh.D.DL aa92 × RSh.DL ab92) (K : KT R) : Option R := f92 k v.1.1 v.2.1 (kt92 K)
noncomputable abbrev E92 := ending T Try.f92 an92 1 K
noncomputable def S92 := pickS (R := R) [(104, s104)]
theorem S92_eq : ∀ k, S92 (R := R) k = callC T F k := pickS_eq ⟨s104_eq, trivial⟩
noncomputable abbrev I92_1000008 : Option R := inner T an92 (modesOf F) 1 k 55 (S92 k) (E92 K) cd92_1000008 (sh sp92_1000008 ws rs) N X
abbrev aa92_1000008 : List Sh := [.ptr 2 0, .ptr 3 0, .val [] (.int .i64), .val [] (.int .i64), .ptr 4 0, .rw 1, .val [] (.int .i64), .val [] (.int .i64), .val [] .bool]
abbrev ab92_1000008 : List RSh := [.arr [(0, 0)] (.prod (.int .i64) (.prod (.prod (.int .i64) (.prod .bool (.prod .str (.prod (.int .i64) (.prod .bool (.prod (.slice (.int .u8)) .unit)))))) .unit)), .vars [.val [] (.int .i64), .val [] (.int .i64), .val [] .bool, .val [] .bool], .vars [.val [] (.int .i64), .val [] (.int .i64), .val [] .bool, .val [] .bool], .vars [.val [] (.int .i64), .val [] (.int .i64), .val [] .bool, .val [] .str, .val [] (.int .i64), .val [] .bool, .val [(0, 0)] (.slice (.int .u8))]]
noncomputable def L92_1000008 : Option R :=
  onShape aa92_1000008 ab92_1000008 (fun v => let u0 := v.1.2.2.2.2.2.2.2; f92_1000008 k (fun yN_0 yN_10 => N (sh fi92_8 [.ptr 2 0, .ptr 3 0, .val [] (.int .i64) yN_0, .rw 1, .val [] (.int .i64) v.1.2.2.2.2.2.2.1, .val [] (.int .i64) v.1.2.2.2.2.2.2.2.1] [⟨0, .arr [(0, 0)] (.prod (.int .i64) (.prod (.prod (.int .i64) (.prod .bool (.prod .str (.prod (.int .i64) (.prod .bool (.prod (.slice (.int .u8)) .unit)))))) .unit)) v.2.1⟩, ⟨0, .vars [.val [] (.int .i64) v.2.2.1.1, .val [] (.int .i64) v.2.2.1.2.1, .val [] .bool v.2.2.1.2.2.1, .val [] .bool v.2.2.1.2.2.2.1]⟩, ⟨0, .vars [.val [] (.int .i64) v.2.2.2.1.1, .val [] (.int .i64) v.2.2.2.1.2.1, .val [] .bool yN_10, .val [] .bool v.2.2.2.1.2.2.2.1]⟩])) v.1.2.2.1 v.1.2.2.2.1 u0.2.1 v.2.2.2.1.2.2.1 v.2.2.2.2.1.2.2.2.2.1) (I92_1000008 k K ws rs N X) ws rs
noncomputable abbrev I92_0 : Option R := inner T an92 (modesOf F) 1 k 55 (S92 k) (E92 K) cd92_0 (sh sp92_0 ws rs) N X
abbrev aa92_0 : List Sh := [.ptr 2 0, .ptr 3 0, .val [] (.int .i64), .rw 1, .val [] (.int .i64), .val [] (.int .i64)]
abbrev ab92_0 : List RSh := [.arr [(0, 0)] (.prod (.int .i64) (.prod (.prod (.int .i64) (.prod .bool (.prod .str (.prod (.int .i64) (.prod .bool (.prod (.slice (.int .u8)) .unit)))))) .unit)), .vars [.val [] (.int .i64), .val [] (.int .i64), .val [] .bool, .val [] .bool], .vars [.val [] (.int .i64), .val [] (.int .i64), .val [] .bool, .val [] .bool]]
noncomputable def L92_0 : Option R :=
  onShape aa92_0 ab92_0 (fun v => f92_0 k (fun y0_0 y0_8 => N (sh jn92_0 [.ptr 2 0, .ptr 3 0, .val [] (.int .i64) y0_0] [⟨0, .arr [(0, 0)] (.prod (.int .i64) (.prod (.prod (.int .i64) (.prod .bool (.prod .str (.prod (.int .i64) (.prod .bool (.prod (.slice (.int .u8)) .unit)))))) .unit)) v.2.1⟩, ⟨0, .vars [.val [] (.int .i64) v.2.2.1.1, .val [] (.int .i64) v.2.2.1.2.1, .val [] .bool v.2.2.1.2.2.1, .val [] .bool v.2.2.1.2.2.2.1]⟩, ⟨0, .vars [.val [] (.int .i64) v.2.2.2.1.1, .val [] (.int .i64) v.2.2.2.1.2.1, .val [] .bool y0_8, .val [] .bool v.2.2.2.1.2.2.2.1]⟩])) v.1.2.2.2.2.1 v.2.1 v.2.2.1.1 v.2.2.1.2.1 v.2.2.1.2.2.1 v.2.2.1.2.2.2.1 v.2.2.2.1.1 v.2.2.2.1.2.1 v.2.2.2.1.2.2.2.1 k v.1.2.2.1 v.1.2.2.2.2.2.1 v.2.2.2.1.2.2.1) (I92_0 k K ws rs N X) ws rs
noncomputable def L92 : Option R := bif id == 1000008 then L92_1000008 k K ws rs N X else bif id == 0 then L92_0 k K ws rs N X else none
theorem l92_1000008 : L92 k K 1000008 ws rs N X = I92_1000008 k K ws rs N X := by
  show L92_1000008 k K ws rs N X = _
  unfold L92_1000008
  rw [f92_1000008_def]
  exact lC (L92 k K) [] (by kernel_rfl) trivial fun x y => by kernel_rfl
theorem i92_0 (v0_1 : Int) (v0_3 : List (Int × ((Int × (Bool × (ByteArray × (Int × (Bool × (List Int × Unit)))))) × Unit))) (v0_4 : Int) (v0_5 : Int) (v0_6 : Bool) (v0_7 : Bool) (v0_8 : Int) (v0_9 : Int) (v0_11 : Bool) (m : Nat) : ∀ (v0_0 : Int) (v0_2 : Int) (v0_10 : Bool),
    iter (atHead an92 1 bd92_0) m (fun st N' => exec T an92 (modesOf F) 1 k 55 (S92 k) (E92 K) bd92_0 st N' (outX an92 1 0 N X)) (sh sp92_0 [.ptr 2 0, .ptr 3 0, .val [] (.int .i64) v0_0, .rw 1, .val [] (.int .i64) v0_1, .val [] (.int .i64) v0_2] [⟨0, .arr [(0, 0)] (.prod (.int .i64) (.prod (.prod (.int .i64) (.prod .bool (.prod .str (.prod (.int .i64) (.prod .bool (.prod (.slice (.int .u8)) .unit)))))) .unit)) v0_3⟩, ⟨0, .vars [.val [] (.int .i64) v0_4, .val [] (.int .i64) v0_5, .val [] .bool v0_6, .val [] .bool v0_7]⟩, ⟨0, .vars [.val [] (.int .i64) v0_8, .val [] (.int .i64) v0_9, .val [] .bool v0_10, .val [] .bool v0_11]⟩]) = f92_0d k (fun y0_0 y0_8 => N (sh jn92_0 [.ptr 2 0, .ptr 3 0, .val [] (.int .i64) y0_0] [⟨0, .arr [(0, 0)] (.prod (.int .i64) (.prod (.prod (.int .i64) (.prod .bool (.prod .str (.prod (.int .i64) (.prod .bool (.prod (.slice (.int .u8)) .unit)))))) .unit)) v0_3⟩, ⟨0, .vars [.val [] (.int .i64) v0_4, .val [] (.int .i64) v0_5, .val [] .bool v0_6, .val [] .bool v0_7]⟩, ⟨0, .vars [.val [] (.int .i64) v0_8, .val [] (.int .i64) v0_9, .val [] .bool y0_8, .val [] .bool v0_11]⟩])) v0_1 v0_3 v0_4 v0_5 v0_6 v0_7 v0_8 v0_9 v0_11 m v0_0 v0_2 v0_10 := by
  induction m with
  | zero => intros; rfl
  | succ m ih =>
    intro v0_0 v0_2 v0_10
    simp only [iter]
    rw [← execS_eq T an92 (modesOf F) 1 k 55 (S92 k) (L92 k K) bd92_0 (cuts_of _ _ _ _ _ _ _ _ bd92_0 (l := [(1000008, sp92_1000008, cd92_1000008)]) (by kernel_rfl) ⟨l92_1000008 k K, trivial⟩)]
    have h := fx3 ih
    simp only [f92_0d]
    rw [← h]
    show _ = _
    kernel_rfl
theorem l92_0 : L92 k K 0 ws rs N X = I92_0 k K ws rs N X := by
  show L92_0 k K ws rs N X = _
  unfold L92_0
  rw [f92_0_def]
  exact onShape_eq (a := aa92_0) (b := ab92_0) (G := fun ws rs => I92_0 k K ws rs N X) (fun x y => Eq.trans (by kernel_rfl) (Eq.trans (i92_0 k K N X x.2.2.2.2.1 y.1 y.2.1.1 y.2.1.2.1 y.2.1.2.2.1 y.2.1.2.2.2.1 y.2.2.1.1 y.2.2.1.2.1 y.2.2.1.2.2.2.1 k x.2.2.1 x.2.2.2.2.2.1 y.2.2.1.2.2.1).symm (by kernel_rfl))) ws rs
theorem tu92 : tOk (R := R) 92 aa92 ab92 g92 := by
  intro k x y K
  unfold g92
  rw [f92_def]
  cases k with
  | zero => rfl
  | succ k => exact eS Try.f92 an92 1 55 (L92 k K) [(0, sp92_0, cd92_0)] (by kernel_rfl) (S92_eq k) (by kernel_rfl) ⟨l92_0 k K, trivial⟩ (by kernel_rfl)
noncomputable def s92 := onS (R := R) aa92 ab92 g92 (fun k => callC T F k 92)
theorem s92_eq : sOk (R := R) s92 92 := onS_eq (fun _ _ _ _ => rfl) tu92
noncomputable abbrev kt93 : List (Int × (Int × (Bool × (Bool × Unit)))) → Option R := (fun z0 => K [] [⟨0, .arr [] (.prod (.int .i64) (.prod (.int .i64) (.prod .bool (.prod .bool .unit)))) z0⟩])
abbrev aa93 : List Sh := [.rw 1, .fn 94 []]
abbrev ab93 : List RSh := [.arr [] (.prod (.int .i64) (.prod (.int .i64) (.prod .bool (.prod .bool .unit))))]
noncomputable def g93 (k : Nat) (v : Sh.D.DL aa93 × RSh.DL ab93) (K : KT R) : Option R := f93 k v.2.1 (kt93 K)
theorem e93 (k : Nat) (a0 : List (Int × (Int × (Bool × (Bool × Unit))))) (K : KT R) : callC T F k 93 [.rw 1, .fn 94 []] [⟨0, .arr [] (.prod (.int .i64) (.prod (.int .i64) (.prod .bool (.prod .bool .unit)))) a0⟩] K = f93 k a0 (kt93 K) := by
  rw [f93_def]
  cases k with
  | zero => rfl
  | succ k => exact sk_call (m := [.any, .any]) (ty := (.prod (.int .i64) (.prod (.int .i64) (.prod .bool (.prod .bool .unit))))) (c := 94) (key := keyGen) [] rfl (by kernel_rfl) a0 K
theorem tu93 : tOk (R := R) 93 aa93 ab93 g93 := fun k x y K => e93 k y.1 K
noncomputable def s93 := onS (R := R) aa93 ab93 g93 (fun k => callC T F k 93)
theorem s93_eq : sOk (R := R) s93 93 := onS_eq (fun _ _ _ _ => rfl) tu93
noncomputable abbrev kt69 : List (Int × (Int × (Bool × (Bool × Unit)))) → Option R := (fun z0 => K [.rw 1] [⟨0, .arr [] (.prod (.int .i64) (.prod (.int .i64) (.prod .bool (.prod .bool .unit)))) z0⟩])
abbrev aa69 : List Sh := [.agg [.val [] (.int .i64), .val [] (.int .i64), .val [] (.int .i64), .val [(0, 0)] (.slice (.int .u8)), .val [(0, 0)] (.slice (.int .i64)), .val [(0, 0)] (.slice (.int .i64)), .val [(0, 0)] (.slice (.int .i64)), .val [(0, 0)] (.slice (.prod (.int .i64) (.prod (.prod (.int .i64) (.prod .bool (.prod .str (.prod (.int .i64) (.prod .bool (.prod (.slice (.int .u8)) .unit)))))) .unit))), .val [] (.int .i64)], .val [] .str]
abbrev ab69 : List RSh := []
noncomputable def g69 (k : Nat) (v : Sh.D.DL aa69 × RSh.DL ab69) (K : KT R) : Option R := let u0 := v.1.1.2.2.2.2.2.2.2; f69 k v.1.1.1 v.1.1.2.1 v.1.1.2.2.1 v.1.1.2.2.2.1 v.1.1.2.2.2.2.1 v.1.1.2.2.2.2.2.1 v.1.1.2.2.2.2.2.2.1 v.1.1.2.2.2.2.2.2.2.1 u0.2.1 v.1.2.1 (kt69 K)
noncomputable abbrev E69 := ending T Try.f69 an69 0 K
noncomputable def S69 := pickS (R := R) [(91, s91), (92, s92), (93, s93)]
theorem S69_eq : ∀ k, S69 (R := R) k = callC T F k := pickS_eq ⟨s91_eq, s92_eq, s93_eq, trivial⟩
noncomputable abbrev I69_0 : Option R := inner T an69 (modesOf F) 0 k 26 (S69 k) (E69 K) cd69_0 (sh sp69_0 ws rs) N X
abbrev aa69_0 : List Sh := [.rw 1, .ptr 2 0]
abbrev ab69_0 : List RSh := [.arr [] (.prod (.int .i64) (.prod (.int .i64) (.prod .bool (.prod .bool .unit)))), .mp 1 [(0, 0)] (.int .i64) (.slice (.prod (.int .i64) (.prod (.prod (.int .i64) (.prod .bool (.prod .str (.prod (.int .i64) (.prod .bool (.prod (.slice (.int .u8)) .unit)))))) .unit))) false]
noncomputable def L69_0 : Option R :=
  onShape aa69_0 ab69_0 (fun v => f69_0 k (fun y0_0 => N (sh jn69_0 [.rw 1] [⟨0, .arr [] (.prod (.int .i64) (.prod (.int .i64) (.prod .bool (.prod .bool .unit)))) y0_0⟩])) k v.2.1 v.2.2.1) (I69_0 k K ws rs N X) ws rs
noncomputable def L69 : Option R := bif id == 0 then L69_0 k K ws rs N X else none
theorem i69_0 (m : Nat) : ∀ (v0_0 : List (Int × (Int × (Bool × (Bool × Unit))))) (v0_1 : List (Int × List ((Int × ((Int × (Bool × (ByteArray × (Int × (Bool × (List Int × Unit)))))) × Unit))))),
    iter (atHead an69 0 bd69_0) m (fun st N' => exec T an69 (modesOf F) 0 k 26 (S69 k) (E69 K) bd69_0 st N' (outX an69 0 0 N X)) (sh sp69_0 [.rw 1, .ptr 2 0] [⟨0, .arr [] (.prod (.int .i64) (.prod (.int .i64) (.prod .bool (.prod .bool .unit)))) v0_0⟩, ⟨0, .mp 1 [(0, 0)] (.int .i64) (.slice (.prod (.int .i64) (.prod (.prod (.int .i64) (.prod .bool (.prod .str (.prod (.int .i64) (.prod .bool (.prod (.slice (.int .u8)) .unit)))))) .unit))) false v0_1 none⟩]) = f69_0d k (fun y0_0 => N (sh jn69_0 [.rw 1] [⟨0, .arr [] (.prod (.int .i64) (.prod (.int .i64) (.prod .bool (.prod .bool .unit)))) y0_0⟩])) m v0_0 v0_1 := by
  induction m with
  | zero => intros; rfl
  | succ m ih =>
    intro v0_0 v0_1
    simp only [iter]
    rw [← execS_eq T an69 (modesOf F) 0 k 26 (S69 k) (L69 k K) bd69_0 (cuts_of _ _ _ _ _ _ _ _ bd69_0 (l := []) (by kernel_rfl) trivial)]
    have h := fx2 ih
    simp only [f69_0d]
    rw [← h]
    show _ = _
    kernel_rfl
theorem l69_0 : L69 k K 0 ws rs N X = I69_0 k K ws rs N X := by
  show L69_0 k K ws rs N X = _
  unfold L69_0
  rw [f69_0_def]
  exact onShape_eq (a := aa69_0) (b := ab69_0) (G := fun ws rs => I69_0 k K ws rs N X) (fun x y => Eq.trans (by kernel_rfl) (Eq.trans (i69_0 k K N X k y.1 y.2.1).symm (by kernel_rfl))) ws rs
theorem tu69 : tOk (R := R) 69 aa69 ab69 g69 := by
  intro k x y K
  unfold g69
  rw [f69_def]
  cases k with
  | zero => rfl
  | succ k => exact eS Try.f69 an69 0 26 (L69 k K) [(0, sp69_0, cd69_0)] (by kernel_rfl) (S69_eq k) (by kernel_rfl) ⟨l69_0 k K, trivial⟩ (by kernel_rfl)
noncomputable def s69 := onS (R := R) aa69 ab69 g69 (fun k => callC T F k 69)
theorem s69_eq : sOk (R := R) s69 69 := onS_eq (fun _ _ _ _ => rfl) tu69
noncomputable abbrev kt90 : Int → Int → Bool → Bool → Bool → List (Int × ((Int × (Bool × (ByteArray × (Int × (Bool × (List Int × Unit)))))) × Unit)) → Option R := (fun z0 z1 z2 z3 z4 z5 => K [.agg [.val [] (.int .i64) z0, .val [] (.int .i64) z1, .val [] .bool z2, .val [] .bool z3], .rw 1, .val [] .bool z4] [⟨0, .arr [(0, 0)] (.prod (.int .i64) (.prod (.prod (.int .i64) (.prod .bool (.prod .str (.prod (.int .i64) (.prod .bool (.prod (.slice (.int .u8)) .unit)))))) .unit)) z5⟩])
abbrev aa90 : List Sh := [.agg [.val [] (.int .i64), .val [] (.int .i64), .val [] (.int .i64), .val [(0, 0)] (.slice (.int .u8)), .val [(0, 0)] (.slice (.int .i64)), .val [(0, 0)] (.slice (.int .i64)), .val [(0, 0)] (.slice (.int .i64)), .val [(0, 0)] (.slice (.prod (.int .i64) (.prod (.prod (.int .i64) (.prod .bool (.prod .str (.prod (.int .i64) (.prod .bool (.prod (.slice (.int .u8)) .unit)))))) .unit))), .val [] (.int .i64)], .val [] .str]
abbrev ab90 : List RSh := []
noncomputable def g90 (k : Nat) (v : Sh.D.DL aa90 × RSh.DL ab90) (K : KT R) : Option R := let u0 := v.1.1.2.2.2.2.2.2.2; f90 k v.1.1.1 v.1.1.2.1 v.1.1.2.2.1 v.1.1.2.2.2.1 v.1.1.2.2.2.2.1 v.1.1.2.2.2.2.2.1 v.1.1.2.2.2.2.2.2.1 v.1.1.2.2.2.2.2.2.2.1 u0.2.1 v.1.2.1 (kt90 K)
noncomputable abbrev E90 := ending T Try.f90 an90 0 K
noncomputable def S90 := pickS (R := R) [(69, s69), (91, s91), (104, s104)]
theorem S90_eq : ∀ k, S90 (R := R) k = callC T F k := pickS_eq ⟨s69_eq, s91_eq, s104_eq, trivial⟩
noncomputable abbrev I90_0 : Option R := inner T an90 (modesOf F) 0 k 32 (S90 k) (E90 K) cd90_0 (sh sp90_0 ws rs) N X
abbrev aa90_0 : List Sh := [.val [] .str, .ptr 1 0, .ptr 2 0, .rw 3, .val [] (.int .i64), .val [] (.int .i64)]
abbrev ab90_0 : List RSh := [.vars [.val [] (.int .i64), .val [] (.int .i64), .val [] (.int .i64), .val [(0, 0)] (.slice (.int .u8)), .val [(0, 0)] (.slice (.int .i64)), .val [(0, 0)] (.slice (.int .i64)), .val [(0, 0)] (.slice (.int .i64)), .val [(0, 0)] (.slice (.prod (.int .i64) (.prod (.prod (.int .i64) (.prod .bool (.prod .str (.prod (.int .i64) (.prod .bool (.prod (.slice (.int .u8)) .unit)))))) .unit))), .val [] (.int .i64)], .vars [.val [] (.int .i64), .val [] (.int .i64), .val [] .bool, .val [] .bool], .arr [] (.prod (.int .i64) (.prod (.int .i64) (.prod .bool (.prod .bool .unit))))]
noncomputable def L90_0 : Option R :=
  onShape aa90_0 ab90_0 (fun v => let u0 := v.2.1.2.2.2.2.2.2.2; f90_0 k (kt90 K) (N (sh jn90_0 [.ptr 1 0] [⟨0, .vars [.val [] (.int .i64) v.2.2.1.1, .val [] (.int .i64) v.2.2.1.2.1, .val [] .bool v.2.2.1.2.2.1, .val [] .bool v.2.2.1.2.2.2.1]⟩])) v.1.1 v.1.2.2.2.2.1 v.2.1.1 v.2.1.2.1 v.2.1.2.2.1 v.2.1.2.2.2.1 v.2.1.2.2.2.2.1 v.2.1.2.2.2.2.2.1 v.2.1.2.2.2.2.2.2.1 v.2.1.2.2.2.2.2.2.2.1 u0.2.1 v.2.2.1.1 v.2.2.1.2.1 v.2.2.1.2.2.1 v.2.2.1.2.2.2.1 v.2.2.2.1 k v.1.2.2.2.2.2.1) (I90_0 k K ws rs N X) ws rs
noncomputable def L90 : Option R := bif id == 0 then L90_0 k K ws rs N X else none
theorem i90_0 (v0_0 : ByteArray) (v0_1 : Int) (v0_3 : Int) (v0_4 : Int) (v0_5 : Int) (v0_6 : List Int) (v0_7 : List Int) (v0_8 : List Int) (v0_9 : List Int) (v0_10 : List ((Int × ((Int × (Bool × (ByteArray × (Int × (Bool × (List Int × Unit)))))) × Unit)))) (v0_11 : Int) (v0_12 : Int) (v0_13 : Int) (v0_14 : Bool) (v0_15 : Bool) (v0_16 : List (Int × (Int × (Bool × (Bool × Unit))))) (m : Nat) : ∀ (v0_2 : Int),
    iter (atHead an90 0 bd90_0) m (fun st N' => exec T an90 (modesOf F) 0 k 32 (S90 k) (E90 K) bd90_0 st N' (outX an90 0 0 N X)) (sh sp90_0 [.val [] .str v0_0, .ptr 1 0, .ptr 2 0, .rw 3, .val [] (.int .i64) v0_1, .val [] (.int .i64) v0_2] [⟨0, .vars [.val [] (.int .i64) v0_3, .val [] (.int .i64) v0_4, .val [] (.int .i64) v0_5, .val [(0, 0)] (.slice (.int .u8)) v0_6, .val [(0, 0)] (.slice (.int .i64)) v0_7, .val [(0, 0)] (.slice (.int .i64)) v0_8, .val [(0, 0)] (.slice (.int .i64)) v0_9, .val [(0, 0)] (.slice (.prod (.int .i64) (.prod (.prod (.int .i64) (.prod .bool (.prod .str (.prod (.int .i64) (.prod .bool (.prod (.slice (.int .u8)) .unit)))))) .unit))) v0_10, .val [] (.int .i64) v0_11]⟩, ⟨0, .vars [.val [] (.int .i64) v0_12, .val [] (.int .i64) v0_13, .val [] .bool v0_14, .val [] .bool v0_15]⟩, ⟨0, .arr [] (.prod (.int .i64) (.prod (.int .i64) (.prod .bool (.prod .bool .unit)))) v0_16⟩]) = f90_0d k (kt90 K) (N (sh jn90_0 [.ptr 1 0] [⟨0, .vars [.val [] (.int .i64) v0_12, .val [] (.int .i64) v0_13, .val [] .bool v0_14, .val [] .bool v0_15]⟩])) v0_0 v0_1 v0_3 v0_4 v0_5 v0_6 v0_7 v0_8 v0_9 v0_10 v0_11 v0_12 v0_13 v0_14 v0_15 v0_16 m v0_2 := by
  induction m with
  | zero => intros; rfl
  | succ m ih =>
    intro v0_2
    simp only [iter]
    rw [← execS_eq T an90 (modesOf F) 0 k 32 (S90 k) (L90 k K) bd90_0 (cuts_of _ _ _ _ _ _ _ _ bd90_0 (l := []) (by kernel_rfl) trivial)]
    have h := fx1 ih
    simp only [f90_0d]
    rw [← h]
    show _ = _
    kernel_rfl
theorem l90_0 : L90 k K 0 ws rs N X = I90_0 k K ws rs N X := by
  show L90_0 k K ws rs N X = _
  unfold L90_0
  rw [f90_0_def]
  exact onShape_eq (a := aa90_0) (b := ab90_0) (G := fun ws rs => I90_0 k K ws rs N X) (fun x y => Eq.trans (by kernel_rfl) (Eq.trans (i90_0 k K N X x.1 x.2.2.2.2.1 y.1.1 y.1.2.1 y.1.2.2.1 y.1.2.2.2.1 y.1.2.2.2.2.1 y.1.2.2.2.2.2.1 y.1.2.2.2.2.2.2.1 y.1.2.2.2.2.2.2.2.1 y.1.2.2.2.2.2.2.2.2.1 y.2.1.1 y.2.1.2.1 y.2.1.2.2.1 y.2.1.2.2.2.1 y.2.2.1 k x.2.2.2.2.2.1).symm (by kernel_rfl))) ws rs
theorem tu90 : tOk (R := R) 90 aa90 ab90 g90 := by
  intro k x y K
  unfold g90
  rw [f90_def]
  cases k with
  | zero => rfl
  | succ k => exact eS Try.f90 an90 0 32 (L90 k K) [(0, sp90_0, cd90_0)] (by kernel_rfl) (S90_eq k) (by kernel_rfl) ⟨l90_0 k K, trivial⟩ (by kernel_rfl)
noncomputable def s90 := onS (R := R) aa90 ab90 g90 (fun k => callC T F k 90)
theorem s90_eq : sOk (R := R) s90 90 := onS_eq (fun _ _ _ _ => rfl) tu90
noncomputable abbrev kt68 : Bool → List (Int × ((Int × (Bool × (ByteArray × (Int × (Bool × (List Int × Unit)))))) × Unit)) → Option R := (fun z0 z1 => K [.rw 1, .val [] .bool z0] [⟨0, .arr [(0, 0)] (.prod (.int .i64) (.prod (.prod (.int .i64) (.prod .bool (.prod .str (.prod (.int .i64) (.prod .bool (.prod (.slice (.int .u8)) .unit)))))) .unit)) z1⟩])
abbrev aa68 : List Sh := [.agg [.val [] (.int .i64), .val [] (.int .i64), .val [] (.int .i64), .val [(0, 0)] (.slice (.int .u8)), .val [(0, 0)] (.slice (.int .i64)), .val [(0, 0)] (.slice (.int .i64)), .val [(0, 0)] (.slice (.int .i64)), .val [(0, 0)] (.slice (.prod (.int .i64) (.prod (.prod (.int .i64) (.prod .bool (.prod .str (.prod (.int .i64) (.prod .bool (.prod (.slice (.int .u8)) .unit)))))) .unit))), .val [] (.int .i64)], .val [] .str]
abbrev ab68 : List RSh := []
noncomputable def g68 (k : Nat) (v : Sh.D.DL aa68 × RSh.DL ab68) (K : KT R) : Option R := let u0 := v.1.1.2.2.2.2.2.2.2; f68 k v.1.1.1 v.1.1.2.1 v.1.1.2.2.1 v.1.1.2.2.2.1 v.1.1.2.2.2.2.1 v.1.1.2.2.2.2.2.1 v.1.1.2.2.2.2.2.2.1 v.1.1.2.2.2.2.2.2.2.1 u0.2.1 v.1.2.1 (kt68 K)
noncomputable abbrev E68 := ending T Try.f68 an68 0 K
noncomputable def S68 := pickS (R := R) [(90, s90)]
theorem S68_eq : ∀ k, S68 (R := R) k = callC T F k := pickS_eq ⟨s90_eq, trivial⟩
theorem tu68 : tOk (R := R) 68 aa68 ab68 g68 := by
  intro k x y K
  unfold g68
  rw [f68_def]
  cases k with
  | zero => rfl
  | succ k => exact eS Try.f68 an68 0 23 L0 [] (by kernel_rfl) (S68_eq k) (by kernel_rfl) trivial (by kernel_rfl)
noncomputable def s68 := onS (R := R) aa68 ab68 g68 (fun k => callC T F k 68)
theorem s68_eq : sOk (R := R) s68 68 := onS_eq (fun _ _ _ _ => rfl) tu68
noncomputable abbrev kt67 : Bool → Int → Int → Int → List Int → List Int → List Int → Int → List Int → List (Int × ((Int × (Bool × (ByteArray × (Int × (Bool × (List Int × Unit)))))) × Unit)) → Option R := (fun z0 z1 z2 z3 z4 z5 z6 z7 z8 z9 => K [.val [] .bool z0] [⟨0, .vars [.val [] (.int .i64) z1, .val [] (.int .i64) z2, .val [] (.int .i64) z3, .val [(0, 0)] (.slice (.int .u8)) z4, .val [(0, 0)] (.slice (.int .i64)) z5, .val [(0, 0)] (.slice (.int .i64)) z6, .rw 2, .rw 3, .val [] (.int .i64) z7]⟩, ⟨0, .arr [] (.int .i64) z8⟩, ⟨0, .arr [] (.prod (.int .i64) (.prod (.prod (.int .i64) (.prod .bool (.prod .str (.prod (.int .i64) (.prod .bool (.prod (.slice (.int .u8)) .unit)))))) .unit)) z9⟩])
abbrev aa67 : List Sh := [.val [] .str, .ptr 1 0]
abbrev ab67 : List RSh := [.vars [.val [] (.int .i64), .val [] (.int .i64), .val [] (.int .i64), .val [(0, 0)] (.slice (.int .u8)), .val [(0, 0)] (.slice (.int .i64)), .val [(0, 0)] (.slice (.int .i64)), .rw 2, .rw 3, .val [] (.int .i64)], .arr [] (.int .i64), .arr [] (.prod (.int .i64) (.prod (.prod (.int .i64) (.prod .bool (.prod .str (.prod (.int .i64) (.prod .bool (.prod (.slice (.int .u8)) .unit)))))) .unit))]
noncomputable def g67 (k : Nat) (v : Sh.D.DL aa67 × RSh.DL ab67) (K : KT R) : Option R := let u0 := v.2.1.2.2.2.2.2.2.2; f67 k v.1.1 v.2.1.1 v.2.1.2.1 v.2.1.2.2.1 v.2.1.2.2.2.1 v.2.1.2.2.2.2.1 v.2.1.2.2.2.2.2.1 u0.2.1 v.2.2.1 v.2.2.2.1 (kt67 K)
noncomputable abbrev E67 := ending T Try.f67 an67 3 K
noncomputable def S67 := pickS (R := R) [(68, s68)]
theorem S67_eq : ∀ k, S67 (R := R) k = callC T F k := pickS_eq ⟨s68_eq, trivial⟩
theorem tu67 : tOk (R := R) 67 aa67 ab67 g67 := by
  intro k x y K
  unfold g67
  rw [f67_def]
  cases k with
  | zero => rfl
  | succ k => exact eS Try.f67 an67 3 14 L0 [] (by kernel_rfl) (S67_eq k) (by kernel_rfl) trivial (by kernel_rfl)
noncomputable def s67 := onS (R := R) aa67 ab67 g67 (fun k => callC T F k 67)
theorem s67_eq : sOk (R := R) s67 67 := onS_eq (fun _ _ _ _ => rfl) tu67
noncomputable abbrev kt87 : Int → List ByteArray → Int → Int → Int → List Int → List Int → List Int → Int → List Int → List (Int × ((Int × (Bool × (ByteArray × (Int × (Bool × (List Int × Unit)))))) × Unit)) → Option R := (fun z0 z1 z2 z3 z4 z5 z6 z7 z8 z9 z10 => K [.val [] (.int .i64) z0] [⟨0, .arr [] .str z1⟩, ⟨0, .vars [.val [] (.int .i64) z2, .val [] (.int .i64) z3, .val [] (.int .i64) z4, .val [(0, 0)] (.slice (.int .u8)) z5, .val [(0, 0)] (.slice (.int .i64)) z6, .val [(0, 0)] (.slice (.int .i64)) z7, .rw 3, .rw 4, .val [] (.int .i64) z8]⟩, ⟨0, .arr [] (.int .i64) z9⟩, ⟨0, .arr [] (.prod (.int .i64) (.prod (.prod (.int .i64) (.prod .bool (.prod .str (.prod (.int .i64) (.prod .bool (.prod (.slice (.int .u8)) .unit)))))) .unit)) z10⟩])
abbrev aa87 : List Sh := [.rw 1, .fn 67 [.ptr 2 0]]
abbrev ab87 : List RSh := [.arr [] .str, .vars [.val [] (.int .i64), .val [] (.int .i64), .val [] (.int .i64), .val [(0, 0)] (.slice (.int .u8)), .val [(0, 0)] (.slice (.int .i64)), .val [(0, 0)] (.slice (.int .i64)), .rw 3, .rw 4, .val [] (.int .i64)], .arr [] (.int .i64), .arr [] (.prod (.int .i64) (.prod (.prod (.int .i64) (.prod .bool (.prod .str (.prod (.int .i64) (.prod .bool (.prod (.slice (.int .u8)) .unit)))))) .unit))]
noncomputable def g87 (k : Nat) (v : Sh.D.DL aa87 × RSh.DL ab87) (K : KT R) : Option R := let u0 := v.2.2.1.2.2.2.2.2.2.2; f87 k v.2.1 v.2.2.1.1 v.2.2.1.2.1 v.2.2.1.2.2.1 v.2.2.1.2.2.2.1 v.2.2.1.2.2.2.2.1 v.2.2.1.2.2.2.2.2.1 u0.2.1 v.2.2.2.1 v.2.2.2.2.1 (kt87 K)
noncomputable abbrev E87 := ending T Try.f87 an87 4 K
noncomputable def S87 := pickS (R := R) [(67, s67)]
theorem S87_eq : ∀ k, S87 (R := R) k = callC T F k := pickS_eq ⟨s67_eq, trivial⟩
noncomputable abbrev I87_0 : Option R := inner T an87 (modesOf F) 4 k 19 (S87 k) (E87 K) cd87_0 (sh sp87_0 ws rs) N X
abbrev aa87_0 : List Sh := [.rw 1, .fn 67 [.ptr 2 0], .val [] (.int .i64), .val [] (.int .i64)]
abbrev ab87_0 : List RSh := [.arr [] .str, .vars [.val [] (.int .i64), .val [] (.int .i64), .val [] (.int .i64), .val [(0, 0)] (.slice (.int .u8)), .val [(0, 0)] (.slice (.int .i64)), .val [(0, 0)] (.slice (.int .i64)), .rw 3, .rw 4, .val [] (.int .i64)], .arr [] (.int .i64), .arr [] (.prod (.int .i64) (.prod (.prod (.int .i64) (.prod .bool (.prod .str (.prod (.int .i64) (.prod .bool (.prod (.slice (.int .u8)) .unit)))))) .unit))]
noncomputable def L87_0 : Option R :=
  onShape aa87_0 ab87_0 (fun v => let u0 := v.2.2.1.2.2.2.2.2.2.2; f87_0 k (kt87 K) (fun y0_1 y0_2 y0_3 y0_4 y0_5 y0_6 y0_7 y0_8 y0_9 => N (sh jn87_0 [] [⟨0, .arr [] .str v.2.1⟩, ⟨0, .vars [.val [] (.int .i64) y0_1, .val [] (.int .i64) y0_2, .val [] (.int .i64) y0_3, .val [(0, 0)] (.slice (.int .u8)) y0_4, .val [(0, 0)] (.slice (.int .i64)) y0_5, .val [(0, 0)] (.slice (.int .i64)) y0_6, .rw 3, .rw 4, .val [] (.int .i64) y0_7]⟩, ⟨0, .arr [] (.int .i64) y0_8⟩, ⟨0, .arr [] (.prod (.int .i64) (.prod (.prod (.int .i64) (.prod .bool (.prod .str (.prod (.int .i64) (.prod .bool (.prod (.slice (.int .u8)) .unit)))))) .unit)) y0_9⟩])) v.1.2.2.1 v.2.1 k v.1.2.2.2.1 v.2.2.1.1 v.2.2.1.2.1 v.2.2.1.2.2.1 v.2.2.1.2.2.2.1 v.2.2.1.2.2.2.2.1 v.2.2.1.2.2.2.2.2.1 u0.2.1 v.2.2.2.1 v.2.2.2.2.1) (I87_0 k K ws rs N X) ws rs
noncomputable def L87 : Option R := bif id == 0 then L87_0 k K ws rs N X else none
theorem i87_0 (v0_0 : Int) (v0_2 : List ByteArray) (m : Nat) : ∀ (v0_1 : Int) (v0_3 : Int) (v0_4 : Int) (v0_5 : Int) (v0_6 : List Int) (v0_7 : List Int) (v0_8 : List Int) (v0_9 : Int) (v0_10 : List Int) (v0_11 : List (Int × ((Int × (Bool × (ByteArray × (Int × (Bool × (List Int × Unit)))))) × Unit))),
    iter (atHead an87 4 bd87_0) m (fun st N' => exec T an87 (modesOf F) 4 k 19 (S87 k) (E87 K) bd87_0 st N' (outX an87 4 0 N X)) (sh sp87_0 [.rw 1, .fn 67 [.ptr 2 0], .val [] (.int .i64) v0_0, .val [] (.int .i64) v0_1] [⟨0, .arr [] .str v0_2⟩, ⟨0, .vars [.val [] (.int .i64) v0_3, .val [] (.int .i64) v0_4, .val [] (.int .i64) v0_5, .val [(0, 0)] (.slice (.int .u8)) v0_6, .val [(0, 0)] (.slice (.int .i64)) v0_7, .val [(0, 0)] (.slice (.int .i64)) v0_8, .rw 3, .rw 4, .val [] (.int .i64) v0_9]⟩, ⟨0, .arr [] (.int .i64) v0_10⟩, ⟨0, .arr [] (.prod (.int .i64) (.prod (.prod (.int .i64) (.prod .bool (.prod .str (.prod (.int .i64) (.prod .bool (.prod (.slice (.int .u8)) .unit)))))) .unit)) v0_11⟩]) = f87_0d k (kt87 K) (fun y0_1 y0_2 y0_3 y0_4 y0_5 y0_6 y0_7 y0_8 y0_9 => N (sh jn87_0 [] [⟨0, .arr [] .str v0_2⟩, ⟨0, .vars [.val [] (.int .i64) y0_1, .val [] (.int .i64) y0_2, .val [] (.int .i64) y0_3, .val [(0, 0)] (.slice (.int .u8)) y0_4, .val [(0, 0)] (.slice (.int .i64)) y0_5, .val [(0, 0)] (.slice (.int .i64)) y0_6, .rw 3, .rw 4, .val [] (.int .i64) y0_7]⟩, ⟨0, .arr [] (.int .i64) y0_8⟩, ⟨0, .arr [] (.prod (.int .i64) (.prod (.prod (.int .i64) (.prod .bool (.prod .str (.prod (.int .i64) (.prod .bool (.prod (.slice (.int .u8)) .unit)))))) .unit)) y0_9⟩])) v0_0 v0_2 m v0_1 v0_3 v0_4 v0_5 v0_6 v0_7 v0_8 v0_9 v0_10 v0_11 := by
  induction m with
  | zero => intros; rfl
  | succ m ih =>
    intro v0_1 v0_3 v0_4 v0_5 v0_6 v0_7 v0_8 v0_9 v0_10 v0_11
    simp only [iter]
    rw [← execS_eq T an87 (modesOf F) 4 k 19 (S87 k) (L87 k K) bd87_0 (cuts_of _ _ _ _ _ _ _ _ bd87_0 (l := []) (by kernel_rfl) trivial)]
    have h := fx10 ih
    simp only [f87_0d]
    rw [← h]
    show _ = _
    kernel_rfl
theorem l87_0 : L87 k K 0 ws rs N X = I87_0 k K ws rs N X := by
  show L87_0 k K ws rs N X = _
  unfold L87_0
  rw [f87_0_def]
  exact onShape_eq (a := aa87_0) (b := ab87_0) (G := fun ws rs => I87_0 k K ws rs N X) (fun x y => Eq.trans (by kernel_rfl) (Eq.trans (i87_0 k K N X x.2.2.1 y.1 k x.2.2.2.1 y.2.1.1 y.2.1.2.1 y.2.1.2.2.1 y.2.1.2.2.2.1 y.2.1.2.2.2.2.1 y.2.1.2.2.2.2.2.1 y.2.1.2.2.2.2.2.2.2.2.1 y.2.2.1 y.2.2.2.1).symm (by kernel_rfl))) ws rs
theorem tu87 : tOk (R := R) 87 aa87 ab87 g87 := by
  intro k x y K
  unfold g87
  rw [f87_def]
  cases k with
  | zero => rfl
  | succ k => exact eS Try.f87 an87 4 19 (L87 k K) [(0, sp87_0, cd87_0)] (by kernel_rfl) (S87_eq k) (by kernel_rfl) ⟨l87_0 k K, trivial⟩ (by kernel_rfl)
noncomputable def s87 := onS (R := R) aa87 ab87 g87 (fun k => callC T F k 87)
theorem s87_eq : sOk (R := R) s87 87 := onS_eq (fun _ _ _ _ => rfl) tu87
noncomputable abbrev kt65 : Int → Int → Int → List Int → List Int → List Int → Int → List Int → List (Int × ((Int × (Bool × (ByteArray × (Int × (Bool × (List Int × Unit)))))) × Unit)) → List ByteArray → Option R := (fun z0 z1 z2 z3 z4 z5 z6 z7 z8 z9 => K [.rw 5] [⟨0, .gone⟩, ⟨0, .vars [.val [] (.int .i64) z0, .val [] (.int .i64) z1, .val [] (.int .i64) z2, .val [(0, 0)] (.slice (.int .u8)) z3, .val [(0, 0)] (.slice (.int .i64)) z4, .val [(0, 0)] (.slice (.int .i64)) z5, .rw 3, .rw 4, .val [] (.int .i64) z6]⟩, ⟨0, .arr [] (.int .i64) z7⟩, ⟨0, .arr [] (.prod (.int .i64) (.prod (.prod (.int .i64) (.prod .bool (.prod .str (.prod (.int .i64) (.prod .bool (.prod (.slice (.int .u8)) .unit)))))) .unit)) z8⟩, ⟨0, .arr [] .str z9⟩])
abbrev aa65 : List Sh := [.rw 1, .fn 67 [.ptr 2 0]]
abbrev ab65 : List RSh := [.arr [] .str, .vars [.val [] (.int .i64), .val [] (.int .i64), .val [] (.int .i64), .val [(0, 0)] (.slice (.int .u8)), .val [(0, 0)] (.slice (.int .i64)), .val [(0, 0)] (.slice (.int .i64)), .rw 3, .rw 4, .val [] (.int .i64)], .arr [] (.int .i64), .arr [] (.prod (.int .i64) (.prod (.prod (.int .i64) (.prod .bool (.prod .str (.prod (.int .i64) (.prod .bool (.prod (.slice (.int .u8)) .unit)))))) .unit))]
noncomputable def g65 (k : Nat) (v : Sh.D.DL aa65 × RSh.DL ab65) (K : KT R) : Option R := let u0 := v.2.2.1.2.2.2.2.2.2.2; f65 k v.2.1 v.2.2.1.1 v.2.2.1.2.1 v.2.2.1.2.2.1 v.2.2.1.2.2.2.1 v.2.2.1.2.2.2.2.1 v.2.2.1.2.2.2.2.2.1 u0.2.1 v.2.2.2.1 v.2.2.2.2.1 (kt65 K)
noncomputable abbrev E65 := ending T Try.f65 an65 4 K
noncomputable def S65 := pickS (R := R) [(67, s67), (87, s87)]
theorem S65_eq : ∀ k, S65 (R := R) k = callC T F k := pickS_eq ⟨s67_eq, s87_eq, trivial⟩
noncomputable abbrev I65_1000009 : Option R := inner T an65 (modesOf F) 4 k 42 (S65 k) (E65 K) cd65_1000009 (sh sp65_1000009 ws rs) N X
abbrev aa65_1000009 : List Sh := [.rw 1, .fn 67 [.ptr 2 0], .val [] (.int .i64), .val [] (.int .i64), .val [] .str, .val [] .bool]
abbrev ab65_1000009 : List RSh := [.arr [] .str, .vars [.val [] (.int .i64), .val [] (.int .i64), .val [] (.int .i64), .val [(0, 0)] (.slice (.int .u8)), .val [(0, 0)] (.slice (.int .i64)), .val [(0, 0)] (.slice (.int .i64)), .rw 3, .rw 4, .val [] (.int .i64)], .arr [] (.int .i64), .arr [] (.prod (.int .i64) (.prod (.prod (.int .i64) (.prod .bool (.prod .str (.prod (.int .i64) (.prod .bool (.prod (.slice (.int .u8)) .unit)))))) .unit))]
noncomputable def L65_1000009 : Option R :=
  onShape aa65_1000009 ab65_1000009 (fun v => let u0 := v.2.2.1.2.2.2.2.2.2.2; f65_1000009 k (fun yN_0 yN_2 => N (sh fi65_9 [.rw 1, .fn 67 [.ptr 2 0], .val [] (.int .i64) yN_0, .val [] (.int .i64) v.1.2.2.2.1] [⟨0, .arr [] .str yN_2⟩, ⟨0, .vars [.val [] (.int .i64) v.2.2.1.1, .val [] (.int .i64) v.2.2.1.2.1, .val [] (.int .i64) v.2.2.1.2.2.1, .val [(0, 0)] (.slice (.int .u8)) v.2.2.1.2.2.2.1, .val [(0, 0)] (.slice (.int .i64)) v.2.2.1.2.2.2.2.1, .val [(0, 0)] (.slice (.int .i64)) v.2.2.1.2.2.2.2.2.1, .rw 3, .rw 4, .val [] (.int .i64) u0.2.1]⟩, ⟨0, .arr [] (.int .i64) v.2.2.2.1⟩, ⟨0, .arr [] (.prod (.int .i64) (.prod (.prod (.int .i64) (.prod .bool (.prod .str (.prod (.int .i64) (.prod .bool (.prod (.slice (.int .u8)) .unit)))))) .unit)) v.2.2.2.2.1⟩])) v.1.2.2.1 v.1.2.2.2.2.1 v.1.2.2.2.2.2.1 v.2.1) (I65_1000009 k K ws rs N X) ws rs
noncomputable abbrev I65_0 : Option R := inner T an65 (modesOf F) 4 k 42 (S65 k) (E65 K) cd65_0 (sh sp65_0 ws rs) N X
abbrev aa65_0 : List Sh := [.rw 1, .fn 67 [.ptr 2 0], .val [] (.int .i64), .val [] (.int .i64)]
abbrev ab65_0 : List RSh := [.arr [] .str, .vars [.val [] (.int .i64), .val [] (.int .i64), .val [] (.int .i64), .val [(0, 0)] (.slice (.int .u8)), .val [(0, 0)] (.slice (.int .i64)), .val [(0, 0)] (.slice (.int .i64)), .rw 3, .rw 4, .val [] (.int .i64)], .arr [] (.int .i64), .arr [] (.prod (.int .i64) (.prod (.prod (.int .i64) (.prod .bool (.prod .str (.prod (.int .i64) (.prod .bool (.prod (.slice (.int .u8)) .unit)))))) .unit))]
noncomputable def L65_0 : Option R :=
  onShape aa65_0 ab65_0 (fun v => let u0 := v.2.2.1.2.2.2.2.2.2.2; f65_0 k (fun y0_0 y0_1 y0_2 y0_3 y0_4 y0_5 y0_6 y0_7 y0_8 y0_9 y0_10 => N (sh jn65_0 [.rw 1, .val [] (.int .i64) y0_0] [⟨0, .arr [] .str y0_1⟩, ⟨0, .vars [.val [] (.int .i64) y0_2, .val [] (.int .i64) y0_3, .val [] (.int .i64) y0_4, .val [(0, 0)] (.slice (.int .u8)) y0_5, .val [(0, 0)] (.slice (.int .i64)) y0_6, .val [(0, 0)] (.slice (.int .i64)) y0_7, .rw 3, .rw 4, .val [] (.int .i64) y0_8]⟩, ⟨0, .arr [] (.int .i64) y0_9⟩, ⟨0, .arr [] (.prod (.int .i64) (.prod (.prod (.int .i64) (.prod .bool (.prod .str (.prod (.int .i64) (.prod .bool (.prod (.slice (.int .u8)) .unit)))))) .unit)) y0_10⟩])) k v.1.2.2.1 v.1.2.2.2.1 v.2.1 v.2.2.1.1 v.2.2.1.2.1 v.2.2.1.2.2.1 v.2.2.1.2.2.2.1 v.2.2.1.2.2.2.2.1 v.2.2.1.2.2.2.2.2.1 u0.2.1 v.2.2.2.1 v.2.2.2.2.1) (I65_0 k K ws rs N X) ws rs
noncomputable def L65 : Option R := bif id == 1000009 then L65_1000009 k K ws rs N X else bif id == 0 then L65_0 k K ws rs N X else none
theorem l65_1000009 : L65 k K 1000009 ws rs N X = I65_1000009 k K ws rs N X := by
  show L65_1000009 k K ws rs N X = _
  unfold L65_1000009
  rw [f65_1000009_def]
  exact lC (L65 k K) [] (by kernel_rfl) trivial fun x y => by kernel_rfl
theorem i65_0 (m : Nat) : ∀ (v0_0 : Int) (v0_1 : Int) (v0_2 : List ByteArray) (v0_3 : Int) (v0_4 : Int) (v0_5 : Int) (v0_6 : List Int) (v0_7 : List Int) (v0_8 : List Int) (v0_9 : Int) (v0_10 : List Int) (v0_11 : List (Int × ((Int × (Bool × (ByteArray × (Int × (Bool × (List Int × Unit)))))) × Unit))),
    iter (atHead an65 4 bd65_0) m (fun st N' => exec T an65 (modesOf F) 4 k 42 (S65 k) (E65 K) bd65_0 st N' (outX an65 4 0 N X)) (sh sp65_0 [.rw 1, .fn 67 [.ptr 2 0], .val [] (.int .i64) v0_0, .val [] (.int .i64) v0_1] [⟨0, .arr [] .str v0_2⟩, ⟨0, .vars [.val [] (.int .i64) v0_3, .val [] (.int .i64) v0_4, .val [] (.int .i64) v0_5, .val [(0, 0)] (.slice (.int .u8)) v0_6, .val [(0, 0)] (.slice (.int .i64)) v0_7, .val [(0, 0)] (.slice (.int .i64)) v0_8, .rw 3, .rw 4, .val [] (.int .i64) v0_9]⟩, ⟨0, .arr [] (.int .i64) v0_10⟩, ⟨0, .arr [] (.prod (.int .i64) (.prod (.prod (.int .i64) (.prod .bool (.prod .str (.prod (.int .i64) (.prod .bool (.prod (.slice (.int .u8)) .unit)))))) .unit)) v0_11⟩]) = f65_0d k (fun y0_0 y0_1 y0_2 y0_3 y0_4 y0_5 y0_6 y0_7 y0_8 y0_9 y0_10 => N (sh jn65_0 [.rw 1, .val [] (.int .i64) y0_0] [⟨0, .arr [] .str y0_1⟩, ⟨0, .vars [.val [] (.int .i64) y0_2, .val [] (.int .i64) y0_3, .val [] (.int .i64) y0_4, .val [(0, 0)] (.slice (.int .u8)) y0_5, .val [(0, 0)] (.slice (.int .i64)) y0_6, .val [(0, 0)] (.slice (.int .i64)) y0_7, .rw 3, .rw 4, .val [] (.int .i64) y0_8]⟩, ⟨0, .arr [] (.int .i64) y0_9⟩, ⟨0, .arr [] (.prod (.int .i64) (.prod (.prod (.int .i64) (.prod .bool (.prod .str (.prod (.int .i64) (.prod .bool (.prod (.slice (.int .u8)) .unit)))))) .unit)) y0_10⟩])) m v0_0 v0_1 v0_2 v0_3 v0_4 v0_5 v0_6 v0_7 v0_8 v0_9 v0_10 v0_11 := by
  induction m with
  | zero => intros; rfl
  | succ m ih =>
    intro v0_0 v0_1 v0_2 v0_3 v0_4 v0_5 v0_6 v0_7 v0_8 v0_9 v0_10 v0_11
    simp only [iter]
    rw [← execS_eq T an65 (modesOf F) 4 k 42 (S65 k) (L65 k K) bd65_0 (cuts_of _ _ _ _ _ _ _ _ bd65_0 (l := [(1000009, sp65_1000009, cd65_1000009)]) (by kernel_rfl) ⟨l65_1000009 k K, trivial⟩)]
    have h := fx12 ih
    simp only [f65_0d]
    rw [← h]
    show _ = _
    kernel_rfl
theorem l65_0 : L65 k K 0 ws rs N X = I65_0 k K ws rs N X := by
  show L65_0 k K ws rs N X = _
  unfold L65_0
  rw [f65_0_def]
  exact onShape_eq (a := aa65_0) (b := ab65_0) (G := fun ws rs => I65_0 k K ws rs N X) (fun x y => Eq.trans (by kernel_rfl) (Eq.trans (i65_0 k K N X k x.2.2.1 x.2.2.2.1 y.1 y.2.1.1 y.2.1.2.1 y.2.1.2.2.1 y.2.1.2.2.2.1 y.2.1.2.2.2.2.1 y.2.1.2.2.2.2.2.1 y.2.1.2.2.2.2.2.2.2.2.1 y.2.2.1 y.2.2.2.1).symm (by kernel_rfl))) ws rs
theorem tu65 : tOk (R := R) 65 aa65 ab65 g65 := by
  intro k x y K
  unfold g65
  rw [f65_def]
  cases k with
  | zero => rfl
  | succ k => exact eS Try.f65 an65 4 42 (L65 k K) [(0, sp65_0, cd65_0)] (by kernel_rfl) (S65_eq k) (by kernel_rfl) ⟨l65_0 k K, trivial⟩ (by kernel_rfl)
noncomputable def s65 := onS (R := R) aa65 ab65 g65 (fun k => callC T F k 65)
theorem s65_eq : sOk (R := R) s65 65 := onS_eq (fun _ _ _ _ => rfl) tu65
noncomputable abbrev kt31 : Int → List ByteArray → Option R := (fun z0 z1 => K [.rw 1, .val [] (.int .i64) z0] [⟨0, .arr [] .str z1⟩])
abbrev aa31 : List Sh := [.agg [.val [] (.int .i64), .val [] (.int .i64), .val [] (.int .i64), .val [(0, 0)] (.slice (.int .u8)), .val [(0, 0)] (.slice (.int .i64)), .val [(0, 0)] (.slice (.int .i64))]]
abbrev ab31 : List RSh := []
noncomputable def g31 (k : Nat) (v : Sh.D.DL aa31 × RSh.DL ab31) (K : KT R) : Option R := f31 k v.1.1.1 v.1.1.2.1 v.1.1.2.2.1 v.1.1.2.2.2.1 v.1.1.2.2.2.2.1 v.1.1.2.2.2.2.2.1 (kt31 K)
noncomputable abbrev E31 := ending T Try.f31 an31 0 K
noncomputable def S31 := pickS (R := R) [(37, s37), (59, s59), (65, s65), (66, s66)]
theorem S31_eq : ∀ k, S31 (R := R) k = callC T F k := pickS_eq ⟨s37_eq, s59_eq, s65_eq, s66_eq, trivial⟩
theorem tu31 : tOk (R := R) 31 aa31 ab31 g31 := by
  intro k x y K
  unfold g31
  rw [f31_def]
  cases k with
  | zero => rfl
  | succ k => exact eS Try.f31 an31 0 17 L0 [] (by kernel_rfl) (S31_eq k) (by kernel_rfl) trivial (by kernel_rfl)
noncomputable def s31 := onS (R := R) aa31 ab31 g31 (fun k => callC T F k 31)
theorem s31_eq : sOk (R := R) s31 31 := onS_eq (fun _ _ _ _ => rfl) tu31
noncomputable abbrev kt58 : Int → Option R := (fun z0 => K [.val [] (.int .i64) z0] [])
abbrev aa58 : List Sh := [.agg [.val [] (.int .i64), .val [] (.int .i64), .val [] (.int .i64), .val [(0, 0)] (.slice (.int .u8)), .val [(0, 0)] (.slice (.int .i64)), .val [(0, 0)] (.slice (.int .i64))], .val [] .str]
abbrev ab58 : List RSh := []
noncomputable def g58 (k : Nat) (v : Sh.D.DL aa58 × RSh.DL ab58) (K : KT R) : Option R := f58 k v.1.1.1 v.1.1.2.1 v.1.1.2.2.1 v.1.1.2.2.2.1 v.1.1.2.2.2.2.1 v.1.1.2.2.2.2.2.1 v.1.2.1 (kt58 K)
noncomputable abbrev E58 := ending T Try.f58 an58 0 K
noncomputable def S58 := pickS (R := R) [(37, s37), (53, s53)]
theorem S58_eq : ∀ k, S58 (R := R) k = callC T F k := pickS_eq ⟨s37_eq, s53_eq, trivial⟩
theorem tu58 : tOk (R := R) 58 aa58 ab58 g58 := by
  intro k x y K
  unfold g58
  rw [f58_def]
  cases k with
  | zero => rfl
  | succ k => exact eS Try.f58 an58 0 14 L0 [] (by kernel_rfl) (S58_eq k) (by kernel_rfl) trivial (by kernel_rfl)
noncomputable def s58 := onS (R := R) aa58 ab58 g58 (fun k => callC T F k 58)
theorem s58_eq : sOk (R := R) s58 58 := onS_eq (fun _ _ _ _ => rfl) tu58
noncomputable abbrev kt32 : Int → List (Int × (Int × (Bool × (Bool × Unit)))) → Option R := (fun z0 z1 => K [.rw 1, .val [] (.int .i64) z0] [⟨0, .arr [] (.prod (.int .i64) (.prod (.int .i64) (.prod .bool (.prod .bool .unit)))) z1⟩])
abbrev aa32 : List Sh := [.agg [.val [] (.int .i64), .val [] (.int .i64), .val [] (.int .i64), .val [(0, 0)] (.slice (.int .u8)), .val [(0, 0)] (.slice (.int .i64)), .val [(0, 0)] (.slice (.int .i64))], .val [] .str]
abbrev ab32 : List RSh := []
noncomputable def g32 (k : Nat) (v : Sh.D.DL aa32 × RSh.DL ab32) (K : KT R) : Option R := f32 k v.1.1.1 v.1.1.2.1 v.1.1.2.2.1 v.1.1.2.2.2.1 v.1.1.2.2.2.2.1 v.1.1.2.2.2.2.2.1 v.1.2.1 (kt32 K)
noncomputable abbrev E32 := ending T Try.f32 an32 0 K
noncomputable def S32 := pickS (R := R) [(58, s58), (59, s59), (69, s69)]
theorem S32_eq : ∀ k, S32 (R := R) k = callC T F k := pickS_eq ⟨s58_eq, s59_eq, s69_eq, trivial⟩
theorem tu32 : tOk (R := R) 32 aa32 ab32 g32 := by
  intro k x y K
  unfold g32
  rw [f32_def]
  cases k with
  | zero => rfl
  | succ k => exact eS Try.f32 an32 0 17 L0 [] (by kernel_rfl) (S32_eq k) (by kernel_rfl) trivial (by kernel_rfl)
noncomputable def s32 := onS (R := R) aa32 ab32 g32 (fun k => callC T F k 32)
theorem s32_eq : sOk (R := R) s32 32 := onS_eq (fun _ _ _ _ => rfl) tu32
noncomputable abbrev kt16 : Int → Int → Option R := (fun z0 z1 => K [.val [] (.int .i64) z0, .val [] (.int .i64) z1] [])
abbrev aa16 : List Sh := [.val [(0, 0)] (.slice (.int .u8))]
abbrev ab16 : List RSh := []
noncomputable def g16 (k : Nat) (v : Sh.D.DL aa16 × RSh.DL ab16) (K : KT R) : Option R := f16 k v.1.1 (kt16 K)
noncomputable abbrev E16 := ending T Try.f16 an16 0 K
noncomputable def S16 := pickS (R := R) [(50, s50)]
theorem S16_eq : ∀ k, S16 (R := R) k = callC T F k := pickS_eq ⟨s50_eq, trivial⟩
theorem tu16 : tOk (R := R) 16 aa16 ab16 g16 := by
  intro k x y K
  unfold g16
  rw [f16_def]
  cases k with
  | zero => rfl
  | succ k => exact eS Try.f16 an16 0 9 L0 [] (by kernel_rfl) (S16_eq k) (by kernel_rfl) trivial (by kernel_rfl)
noncomputable def s16 := onS (R := R) aa16 ab16 g16 (fun k => callC T F k 16)
theorem s16_eq : sOk (R := R) s16 16 := onS_eq (fun _ _ _ _ => rfl) tu16
noncomputable abbrev kt13 : Bool → Option R := (fun z0 => K [.val [] .bool z0] [])
abbrev aa13 : List Sh := []
abbrev ab13 : List RSh := []
noncomputable def g13 (k : Nat) (v : Sh.D.DL aa13 × RSh.DL ab13) (K : KT R) : Option R := f13 k (kt13 K)
noncomputable abbrev E13 := ending T Try.f13 an13 0 K
noncomputable def S13 := pickS (R := R) [(16, s16)]
theorem S13_eq : ∀ k, S13 (R := R) k = callC T F k := pickS_eq ⟨s16_eq, trivial⟩
theorem tu13 : tOk (R := R) 13 aa13 ab13 g13 := by
  intro k x y K
  unfold g13
  rw [f13_def]
  cases k with
  | zero => rfl
  | succ k => exact eS Try.f13 an13 0 15 L0 [] (by kernel_rfl) (S13_eq k) (by kernel_rfl) trivial (by kernel_rfl)
noncomputable def s13 := onS (R := R) aa13 ab13 g13 (fun k => callC T F k 13)
theorem s13_eq : sOk (R := R) s13 13 := onS_eq (fun _ _ _ _ => rfl) tu13
noncomputable abbrev kt33 : Int → List Int → Option R := (fun z0 z1 => K [.rw 1, .val [] (.int .i64) z0] [⟨0, .arr [] (.int .u8) z1⟩])
abbrev aa33 : List Sh := [.agg [.val [] (.int .i64), .val [] (.int .i64), .val [] (.int .i64), .val [(0, 0)] (.slice (.int .u8)), .val [(0, 0)] (.slice (.int .i64)), .val [(0, 0)] (.slice (.int .i64))], .val [] .str]
abbrev ab33 : List RSh := []
noncomputable def g33 (k : Nat) (v : Sh.D.DL aa33 × RSh.DL ab33) (K : KT R) : Option R := f33 k v.1.1.1 v.1.1.2.1 v.1.1.2.2.1 v.1.1.2.2.2.1 v.1.1.2.2.2.2.1 v.1.1.2.2.2.2.2.1 v.1.2.1 (kt33 K)
noncomputable abbrev E33 := ending T Try.f33 an33 0 K
noncomputable def S33 := pickS (R := R) [(58, s58), (59, s59), (68, s68)]
theorem S33_eq : ∀ k, S33 (R := R) k = callC T F k := pickS_eq ⟨s58_eq, s59_eq, s68_eq, trivial⟩
noncomputable abbrev I33_0 : Option R := inner T an33 (modesOf F) 0 k 43 (S33 k) (E33 K) cd33_0 (sh sp33_0 ws rs) N X
abbrev aa33_0 : List Sh := [.rw 1, .rw 2, .val [] (.int .i64), .val [] (.int .i64)]
abbrev ab33_0 : List RSh := [.arr [] (.int .u8), .arr [(0, 0)] (.prod (.int .i64) (.prod (.prod (.int .i64) (.prod .bool (.prod .str (.prod (.int .i64) (.prod .bool (.prod (.slice (.int .u8)) .unit)))))) .unit))]
noncomputable def L33_0 : Option R :=
  onShape aa33_0 ab33_0 (fun v => f33_0 k (fun y0_0 => N (sh jn33_0 [.rw 1] [⟨0, .arr [] (.int .u8) y0_0⟩])) v.1.2.2.1 v.2.2.1 k v.1.2.2.2.1 v.2.1) (I33_0 k K ws rs N X) ws rs
noncomputable def L33 : Option R := bif id == 0 then L33_0 k K ws rs N X else none
theorem i33_0 (v0_0 : Int) (v0_3 : List (Int × ((Int × (Bool × (ByteArray × (Int × (Bool × (List Int × Unit)))))) × Unit))) (m : Nat) : ∀ (v0_1 : Int) (v0_2 : List Int),
    iter (atHead an33 0 bd33_0) m (fun st N' => exec T an33 (modesOf F) 0 k 43 (S33 k) (E33 K) bd33_0 st N' (outX an33 0 0 N X)) (sh sp33_0 [.rw 1, .rw 2, .val [] (.int .i64) v0_0, .val [] (.int .i64) v0_1] [⟨0, .arr [] (.int .u8) v0_2⟩, ⟨0, .arr [(0, 0)] (.prod (.int .i64) (.prod (.prod (.int .i64) (.prod .bool (.prod .str (.prod (.int .i64) (.prod .bool (.prod (.slice (.int .u8)) .unit)))))) .unit)) v0_3⟩]) = f33_0d k (fun y0_0 => N (sh jn33_0 [.rw 1] [⟨0, .arr [] (.int .u8) y0_0⟩])) v0_0 v0_3 m v0_1 v0_2 := by
  induction m with
  | zero => intros; rfl
  | succ m ih =>
    intro v0_1 v0_2
    simp only [iter]
    rw [← execS_eq T an33 (modesOf F) 0 k 43 (S33 k) (L33 k K) bd33_0 (cuts_of _ _ _ _ _ _ _ _ bd33_0 (l := []) (by kernel_rfl) trivial)]
    have h := fx2 ih
    simp only [f33_0d]
    rw [← h]
    show _ = _
    kernel_rfl
theorem l33_0 : L33 k K 0 ws rs N X = I33_0 k K ws rs N X := by
  show L33_0 k K ws rs N X = _
  unfold L33_0
  rw [f33_0_def]
  exact onShape_eq (a := aa33_0) (b := ab33_0) (G := fun ws rs => I33_0 k K ws rs N X) (fun x y => Eq.trans (by kernel_rfl) (Eq.trans (i33_0 k K N X x.2.2.1 y.2.1 k x.2.2.2.1 y.1).symm (by kernel_rfl))) ws rs
theorem tu33 : tOk (R := R) 33 aa33 ab33 g33 := by
  intro k x y K
  unfold g33
  rw [f33_def]
  cases k with
  | zero => rfl
  | succ k => exact eS Try.f33 an33 0 43 (L33 k K) [(0, sp33_0, cd33_0)] (by kernel_rfl) (S33_eq k) (by kernel_rfl) ⟨l33_0 k K, trivial⟩ (by kernel_rfl)
noncomputable def s33 := onS (R := R) aa33 ab33 g33 (fun k => callC T F k 33)
theorem s33_eq : sOk (R := R) s33 33 := onS_eq (fun _ _ _ _ => rfl) tu33
noncomputable abbrev kt70 : Int → Option R := (fun z0 => K [.val [] (.int .i64) z0] [])
abbrev aa70 : List Sh := [.val [(0, 0)] (.slice .str), .val [] .str]
abbrev ab70 : List RSh := []
noncomputable def g70 (k : Nat) (v : Sh.D.DL aa70 × RSh.DL ab70) (K : KT R) : Option R := f70 k v.1.1 v.1.2.1 (kt70 K)
noncomputable abbrev E70 := ending T Try.f70 an70 0 K
noncomputable def S70 := pickS (R := R) []
theorem S70_eq : ∀ k, S70 (R := R) k = callC T F k := pickS_eq trivial
noncomputable abbrev I70_0 : Option R := inner T an70 (modesOf F) 0 k 19 (S70 k) (E70 K) cd70_0 (sh sp70_0 ws rs) N X
abbrev aa70_0 : List Sh := [.val [(0, 0)] (.slice .str), .val [] .str, .val [] (.int .i64), .val [] (.int .i64)]
abbrev ab70_0 : List RSh := []
noncomputable def L70_0 : Option R :=
  onShape aa70_0 ab70_0 (fun v => f70_0 k (kt70 K) (N (sh jn70_0 [] [])) v.1.1 v.1.2.1 v.1.2.2.1 k v.1.2.2.2.1) (I70_0 k K ws rs N X) ws rs
noncomputable def L70 : Option R := bif id == 0 then L70_0 k K ws rs N X else none
theorem i70_0 (v0_0 : List ByteArray) (v0_1 : ByteArray) (v0_2 : Int) (m : Nat) : ∀ (v0_3 : Int),
    iter (atHead an70 0 bd70_0) m (fun st N' => exec T an70 (modesOf F) 0 k 19 (S70 k) (E70 K) bd70_0 st N' (outX an70 0 0 N X)) (sh sp70_0 [.val [(0, 0)] (.slice .str) v0_0, .val [] .str v0_1, .val [] (.int .i64) v0_2, .val [] (.int .i64) v0_3] []) = f70_0d k (kt70 K) (N (sh jn70_0 [] [])) v0_0 v0_1 v0_2 m v0_3 := by
  induction m with
  | zero => intros; rfl
  | succ m ih =>
    intro v0_3
    simp only [iter]
    rw [← execS_eq T an70 (modesOf F) 0 k 19 (S70 k) (L70 k K) bd70_0 (cuts_of _ _ _ _ _ _ _ _ bd70_0 (l := []) (by kernel_rfl) trivial)]
    have h := fx1 ih
    simp only [f70_0d]
    rw [← h]
    show _ = _
    kernel_rfl
theorem l70_0 : L70 k K 0 ws rs N X = I70_0 k K ws rs N X := by
  show L70_0 k K ws rs N X = _
  unfold L70_0
  rw [f70_0_def]
  exact onShape_eq (a := aa70_0) (b := ab70_0) (G := fun ws rs => I70_0 k K ws rs N X) (fun x y => Eq.trans (by kernel_rfl) (Eq.trans (i70_0 k K N X x.1 x.2.1 x.2.2.1 k x.2.2.2.1).symm (by kernel_rfl))) ws rs
theorem tu70 : tOk (R := R) 70 aa70 ab70 g70 := by
  intro k x y K
  unfold g70
  rw [f70_def]
  cases k with
  | zero => rfl
  | succ k => exact eS Try.f70 an70 0 19 (L70 k K) [(0, sp70_0, cd70_0)] (by kernel_rfl) (S70_eq k) (by kernel_rfl) ⟨l70_0 k K, trivial⟩ (by kernel_rfl)
noncomputable def s70 := onS (R := R) aa70 ab70 g70 (fun k => callC T F k 70)
theorem s70_eq : sOk (R := R) s70 70 := onS_eq (fun _ _ _ _ => rfl) tu70
noncomputable abbrev kt34 : Bool → Option R := (fun z0 => K [.val [] .bool z0] [])
abbrev aa34 : List Sh := [.val [(0, 0)] (.slice .str), .val [] .str]
abbrev ab34 : List RSh := []
noncomputable def g34 (k : Nat) (v : Sh.D.DL aa34 × RSh.DL ab34) (K : KT R) : Option R := f34 k v.1.1 v.1.2.1 (kt34 K)
noncomputable abbrev E34 := ending T Try.f34 an34 0 K
noncomputable def S34 := pickS (R := R) [(70, s70)]
theorem S34_eq : ∀ k, S34 (R := R) k = callC T F k := pickS_eq ⟨s70_eq, trivial⟩
theorem tu34 : tOk (R := R) 34 aa34 ab34 g34 := by
  intro k x y K
  unfold g34
  rw [f34_def]
  cases k with
  | zero => rfl
  | succ k => exact eS Try.f34 an34 0 9 L0 [] (by kernel_rfl) (S34_eq k) (by kernel_rfl) trivial (by kernel_rfl)
noncomputable def s34 := onS (R := R) aa34 ab34 g34 (fun k => callC T F k 34)
theorem s34_eq : sOk (R := R) s34 34 := onS_eq (fun _ _ _ _ => rfl) tu34
noncomputable abbrev kt95 : Bool → Option R := (fun z0 => K [.val [] .bool z0] [])
abbrev aa95 : List Sh := [.val [] .str]
abbrev ab95 : List RSh := []
noncomputable def g95 (k : Nat) (v : Sh.D.DL aa95 × RSh.DL ab95) (K : KT R) : Option R := f95 k v.1.1 (kt95 K)
noncomputable abbrev E95 := ending T Try.f95 an95 0 K
noncomputable def S95 := pickS (R := R) []
theorem S95_eq : ∀ k, S95 (R := R) k = callC T F k := pickS_eq trivial
theorem tu95 : tOk (R := R) 95 aa95 ab95 g95 := by
  intro k x y K
  unfold g95
  rw [f95_def]
  cases k with
  | zero => rfl
  | succ k => exact eS Try.f95 an95 0 6 L0 [] (by kernel_rfl) (S95_eq k) (by kernel_rfl) trivial (by kernel_rfl)
noncomputable def s95 := onS (R := R) aa95 ab95 g95 (fun k => callC T F k 95)
theorem s95_eq : sOk (R := R) s95 95 := onS_eq (fun _ _ _ _ => rfl) tu95
noncomputable abbrev kt71 : Bool → Option R := (fun z0 => K [.val [] .bool z0] [])
abbrev aa71 : List Sh := [.val [] .str, .val [] .str]
abbrev ab71 : List RSh := []
noncomputable def g71 (k : Nat) (v : Sh.D.DL aa71 × RSh.DL ab71) (K : KT R) : Option R := f71 k v.1.1 v.1.2.1 (kt71 K)
noncomputable abbrev E71 := ending T Try.f71 an71 0 K
noncomputable def S71 := pickS (R := R) [(95, s95)]
theorem S71_eq : ∀ k, S71 (R := R) k = callC T F k := pickS_eq ⟨s95_eq, trivial⟩
theorem tu71 : tOk (R := R) 71 aa71 ab71 g71 := by
  intro k x y K
  unfold g71
  rw [f71_def]
  cases k with
  | zero => rfl
  | succ k => exact eS Try.f71 an71 0 17 L0 [] (by kernel_rfl) (S71_eq k) (by kernel_rfl) trivial (by kernel_rfl)
noncomputable def s71 := onS (R := R) aa71 ab71 g71 (fun k => callC T F k 71)
theorem s71_eq : sOk (R := R) s71 71 := onS_eq (fun _ _ _ _ => rfl) tu71
noncomputable abbrev kt35 : Bool → Option R := (fun z0 => K [.val [] .bool z0] [])
abbrev aa35 : List Sh := [.val [(0, 0)] (.slice .str)]
abbrev ab35 : List RSh := []
noncomputable def g35 (k : Nat) (v : Sh.D.DL aa35 × RSh.DL ab35) (K : KT R) : Option R := f35 k v.1.1 (kt35 K)
noncomputable abbrev E35 := ending T Try.f35 an35 0 K
noncomputable def S35 := pickS (R := R) [(71, s71)]
theorem S35_eq : ∀ k, S35 (R := R) k = callC T F k := pickS_eq ⟨s71_eq, trivial⟩
noncomputable abbrev I35_0 : Option R := inner T an35 (modesOf F) 0 k 21 (S35 k) (E35 K) cd35_0 (sh sp35_0 ws rs) N X
abbrev aa35_0 : List Sh := [.val [(0, 0)] (.slice .str), .val [] (.int .i64)]
abbrev ab35_0 : List RSh := []
noncomputable def L35_0 : Option R :=
  onShape aa35_0 ab35_0 (fun v => f35_0 k (kt35 K) (N (sh jn35_0 [] [])) v.1.1 k v.1.2.1) (I35_0 k K ws rs N X) ws rs
noncomputable def L35 : Option R := bif id == 0 then L35_0 k K ws rs N X else none
theorem i35_0 (v0_0 : List ByteArray) (m : Nat) : ∀ (v0_1 : Int),
    iter (atHead an35 0 bd35_0) m (fun st N' => exec T an35 (modesOf F) 0 k 21 (S35 k) (E35 K) bd35_0 st N' (outX an35 0 0 N X)) (sh sp35_0 [.val [(0, 0)] (.slice .str) v0_0, .val [] (.int .i64) v0_1] []) = f35_0d k (kt35 K) (N (sh jn35_0 [] [])) v0_0 m v0_1 := by
  induction m with
  | zero => intros; rfl
  | succ m ih =>
    intro v0_1
    simp only [iter]
    rw [← execS_eq T an35 (modesOf F) 0 k 21 (S35 k) (L35 k K) bd35_0 (cuts_of _ _ _ _ _ _ _ _ bd35_0 (l := []) (by kernel_rfl) trivial)]
    have h := fx1 ih
    simp only [f35_0d]
    rw [← h]
    show _ = _
    kernel_rfl
theorem l35_0 : L35 k K 0 ws rs N X = I35_0 k K ws rs N X := by
  show L35_0 k K ws rs N X = _
  unfold L35_0
  rw [f35_0_def]
  exact onShape_eq (a := aa35_0) (b := ab35_0) (G := fun ws rs => I35_0 k K ws rs N X) (fun x y => Eq.trans (by kernel_rfl) (Eq.trans (i35_0 k K N X x.1 k x.2.1).symm (by kernel_rfl))) ws rs
theorem tu35 : tOk (R := R) 35 aa35 ab35 g35 := by
  intro k x y K
  unfold g35
  rw [f35_def]
  cases k with
  | zero => rfl
  | succ k => exact eS Try.f35 an35 0 21 (L35 k K) [(0, sp35_0, cd35_0)] (by kernel_rfl) (S35_eq k) (by kernel_rfl) ⟨l35_0 k K, trivial⟩ (by kernel_rfl)
noncomputable def s35 := onS (R := R) aa35 ab35 g35 (fun k => callC T F k 35)
theorem s35_eq : sOk (R := R) s35 35 := onS_eq (fun _ _ _ _ => rfl) tu35
noncomputable abbrev kt8 : Bool → Option R := (fun z0 => K [.val [] .bool z0] [])
abbrev aa8 : List Sh := [.agg [.val [] (.int .i64), .val [] (.int .i64), .val [] (.int .i64), .val [(0, 0)] (.slice (.int .u8)), .val [(0, 0)] (.slice (.int .i64)), .val [(0, 0)] (.slice (.int .i64))], .val [] .str]
abbrev ab8 : List RSh := []
noncomputable def g8 (k : Nat) (v : Sh.D.DL aa8 × RSh.DL ab8) (K : KT R) : Option R := f8 k v.1.1.1 v.1.1.2.1 v.1.1.2.2.1 v.1.1.2.2.2.1 v.1.1.2.2.2.2.1 v.1.1.2.2.2.2.2.1 v.1.2.1 (kt8 K)
noncomputable abbrev E8 := ending T Try.f8 an8 0 K
noncomputable def S8 := pickS (R := R) [(13, s13), (31, s31), (32, s32), (33, s33), (34, s34), (35, s35)]
theorem S8_eq : ∀ k, S8 (R := R) k = callC T F k := pickS_eq ⟨s13_eq, s31_eq, s32_eq, s33_eq, s34_eq, s35_eq, trivial⟩
noncomputable abbrev I8_0 : Option R := inner T an8 (modesOf F) 0 k 79 (S8 k) (E8 K) cd8_0 (sh sp8_0 ws rs) N X
abbrev aa8_0 : List Sh := [.val [] .str, .ptr 1 0, .rw 2, .rw 3, .val [] .bool, .val [] (.int .i64)]
abbrev ab8_0 : List RSh := [.vars [.val [] (.int .i64), .val [] (.int .i64), .val [] (.int .i64), .val [(0, 0)] (.slice (.int .u8)), .val [(0, 0)] (.slice (.int .i64)), .val [(0, 0)] (.slice (.int .i64))], .arr [] .str, .arr [] (.prod (.int .i64) (.prod (.int .i64) (.prod .bool (.prod .bool .unit))))]
noncomputable def L8_0 : Option R :=
  onShape aa8_0 ab8_0 (fun v => f8_0 k (fun y0_1 => N (sh jn8_0 [.val [] .str v.1.1, .ptr 1 0, .rw 2, .val [] .bool y0_1] [⟨0, .vars [.val [] (.int .i64) v.2.1.1, .val [] (.int .i64) v.2.1.2.1, .val [] (.int .i64) v.2.1.2.2.1, .val [(0, 0)] (.slice (.int .u8)) v.2.1.2.2.2.1, .val [(0, 0)] (.slice (.int .i64)) v.2.1.2.2.2.2.1, .val [(0, 0)] (.slice (.int .i64)) v.2.1.2.2.2.2.2.1]⟩, ⟨0, .arr [] .str v.2.2.1⟩])) v.1.1 v.1.2.2.2.2.1 v.2.1.1 v.2.1.2.1 v.2.1.2.2.1 v.2.1.2.2.2.1 v.2.1.2.2.2.2.1 v.2.1.2.2.2.2.2.1 v.2.2.1 v.2.2.2.1 k v.1.2.2.2.2.2.1) (I8_0 k K ws rs N X) ws rs
noncomputable def L8 : Option R := bif id == 0 then L8_0 k K ws rs N X else none
theorem i8_0 (v0_0 : ByteArray) (v0_1 : Bool) (v0_3 : Int) (v0_4 : Int) (v0_5 : Int) (v0_6 : List Int) (v0_7 : List Int) (v0_8 : List Int) (v0_9 : List ByteArray) (v0_10 : List (Int × (Int × (Bool × (Bool × Unit))))) (m : Nat) : ∀ (v0_2 : Int),
    iter (atHead an8 0 bd8_0) m (fun st N' => exec T an8 (modesOf F) 0 k 79 (S8 k) (E8 K) bd8_0 st N' (outX an8 0 0 N X)) (sh sp8_0 [.val [] .str v0_0, .ptr 1 0, .rw 2, .rw 3, .val [] .bool v0_1, .val [] (.int .i64) v0_2] [⟨0, .vars [.val [] (.int .i64) v0_3, .val [] (.int .i64) v0_4, .val [] (.int .i64) v0_5, .val [(0, 0)] (.slice (.int .u8)) v0_6, .val [(0, 0)] (.slice (.int .i64)) v0_7, .val [(0, 0)] (.slice (.int .i64)) v0_8]⟩, ⟨0, .arr [] .str v0_9⟩, ⟨0, .arr [] (.prod (.int .i64) (.prod (.int .i64) (.prod .bool (.prod .bool .unit)))) v0_10⟩]) = f8_0d k (fun y0_1 => N (sh jn8_0 [.val [] .str v0_0, .ptr 1 0, .rw 2, .val [] .bool y0_1] [⟨0, .vars [.val [] (.int .i64) v0_3, .val [] (.int .i64) v0_4, .val [] (.int .i64) v0_5, .val [(0, 0)] (.slice (.int .u8)) v0_6, .val [(0, 0)] (.slice (.int .i64)) v0_7, .val [(0, 0)] (.slice (.int .i64)) v0_8]⟩, ⟨0, .arr [] .str v0_9⟩])) v0_0 v0_1 v0_3 v0_4 v0_5 v0_6 v0_7 v0_8 v0_9 v0_10 m v0_2 := by
  induction m with
  | zero => intros; rfl
  | succ m ih =>
    intro v0_2
    simp only [iter]
    rw [← execS_eq T an8 (modesOf F) 0 k 79 (S8 k) (L8 k K) bd8_0 (cuts_of _ _ _ _ _ _ _ _ bd8_0 (l := []) (by kernel_rfl) trivial)]
    have h := fx1 ih
    simp only [f8_0d]
    rw [← h]
    show _ = _
    kernel_rfl
theorem l8_0 : L8 k K 0 ws rs N X = I8_0 k K ws rs N X := by
  show L8_0 k K ws rs N X = _
  unfold L8_0
  rw [f8_0_def]
  exact onShape_eq (a := aa8_0) (b := ab8_0) (G := fun ws rs => I8_0 k K ws rs N X) (fun x y => Eq.trans (by kernel_rfl) (Eq.trans (i8_0 k K N X x.1 x.2.2.2.2.1 y.1.1 y.1.2.1 y.1.2.2.1 y.1.2.2.2.1 y.1.2.2.2.2.1 y.1.2.2.2.2.2.1 y.2.1 y.2.2.1 k x.2.2.2.2.2.1).symm (by kernel_rfl))) ws rs
theorem e8 (k : Nat) (a0 : Int) (a1 : Int) (a2 : Int) (a3 : List Int) (a4 : List Int) (a5 : List Int) (a6 : ByteArray) (K : KT R) : callC T F k 8 [.agg [.val [] (.int .i64) a0, .val [] (.int .i64) a1, .val [] (.int .i64) a2, .val [(0, 0)] (.slice (.int .u8)) a3, .val [(0, 0)] (.slice (.int .i64)) a4, .val [(0, 0)] (.slice (.int .i64)) a5], .val [] .str a6] [] K = f8 k a0 a1 a2 a3 a4 a5 a6 (kt8 K) := by
  rw [f8_def]
  cases k with
  | zero => rfl
  | succ k => exact eS Try.f8 an8 0 79 (L8 k K) [(0, sp8_0, cd8_0)] (by kernel_rfl) (S8_eq k) (by kernel_rfl) ⟨l8_0 k K, trivial⟩ (by kernel_rfl)
end Go.Proofs.Ytecnlienmpdlaaa.PM
