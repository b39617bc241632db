import Derived.Test.YtecnlienmpdlaaaGreatPA0
set_option linter.unusedVariables false
set_option linter.unusedSimpArgs false
set_option maxRecDepth 100000
namespace Go.Proofs.YtecnlienmpdlaaaGreat.PM
open Go
abbrev KT (R : Type) := List PV → List RowS → Oq R
noncomputable def F : Nat → Option PFn := findN [(63, .code Tryz.f63 an63), (62, .code Tryz.f62 an62), (64, .code Tryz.f64 an64), (19, .code Tryz.f19 an19), (131, .code Tryz.f131 an131), (96, .code Tryz.f96 an96), (84, .code Tryz.f84 an84), (134, .code Tryz.f134 an134), (146, .code Tryz.f146 an146), (133, .code Tryz.f133 an133), (98, .code Tryz.f98 an98), (99, .code Tryz.f99 an99), (83, .ext [.lend (.int .u8)] (Q3k (.int .u8) 1)), (130, .code Tryz.f130 an130), (95, .code Tryz.f95 an95), (145, .code Tryz.f145 an145), (128, .code Tryz.f128 an128), (88, .code Tryz.f88 an88), (111, .code Tryz.f111 an111), (100, .code Tryz.f100 an100), (132, .code Tryz.f132 an132), (97, .code Tryz.f97 an97), (46, .code Tryz.f46 an46), (17, .code Tryz.f17 an17), (66, .code Tryz.f66 an66), (65, .code Tryz.f65 an65), (20, .code Tryz.f20 an20), (60, .code Tryz.f60 an60), (101, .code Tryz.f101 an101), (90, .code Tryz.f90 an90), (102, .code Tryz.f102 an102), (103, .code Tryz.f103 an103), (49, .code Tryz.f49 an49), (50, .code Tryz.f50 an50), (104, .code Tryz.f104 an104), (105, .code Tryz.f105 an105), (54, .code Tryz.f54 an54), (34, .code Tryz.f34 an34), (112, .code Tryz.f112 an112), (61, .code Tryz.f61 an61), (18, .code Tryz.f18 an18), (21, .code Tryz.f21 an21), (138, .code Tryz.f138 an138), (115, .code Tryz.f115 an115), (114, .code Tryz.f114 an114), (148, .code Tryz.f148 an148), (202, .code Tryz.f202 an202), (186, .code Tryz.f186 an186), (149, .code Tryz.f149 an149), (137, .code Tryz.f137 an137), (113, .code Tryz.f113 an113), (67, .code Tryz.f67 an67), (22, .code Tryz.f22 an22), (51, .code Tryz.f51 an51), (23, .code Tryz.f23 an23), (122, .ext [.any] ssSpec), (123, .code Tryz.f123 an123), (74, .code Tryz.f74 an74), (139, .code Tryz.f139 an139), (116, .code Tryz.f116 an116), (135, .ext [.any, .any] (skSpec zP0 136 keyIx)), (118, .code Tryz.f118 an118), (119, .ext [.any, .any] (skSpec zP2 120 keyGen)), (70, .code Tryz.f70 an70), (107, .code Tryz.f107 an107), (117, .ext [.any] Q3q), (68, .code Tryz.f68 an68), (24, .code Tryz.f24 an24), (72, .code Tryz.f72 an72), (76, .code Tryz.f76 an76), (108, .code Tryz.f108 an108), (110, .code Tryz.f110 an110), (109, .code Tryz.f109 an109), (71, .code Tryz.f71 an71), (77, .code Tryz.f77 an77), (69, .code Tryz.f69 an69), (25, .code Tryz.f25 an25), (59, .code Tryz.f59 an59), (16, .code Tryz.f16 an16), (4, .code Tryz.f4 an4)]
theorem fx1 {α β : Type} {f g : α → β} (h : ∀ a, f a = g a) : f = g := funext h
theorem fx2 {α0 α1 β : Type} {f g : α0 → α1 → β} (h : ∀ a0 a1, f a0 a1 = g a0 a1) : f = g := funext fun a0 => fx1 fun a1 => h a0 a1
theorem fx3 {α0 α1 α2 β : Type} {f g : α0 → α1 → α2 → β} (h : ∀ a0 a1 a2, f a0 a1 a2 = g a0 a1 a2) : f = g := funext fun a0 => fx2 fun a1 a2 => h a0 a1 a2
theorem fx4 {α0 α1 α2 α3 β : Type} {f g : α0 → α1 → α2 → α3 → β} (h : ∀ a0 a1 a2 a3, f a0 a1 a2 a3 = g a0 a1 a2 a3) : f = g := funext fun a0 => fx3 fun a1 a2 a3 => h a0 a1 a2 a3
theorem fx5 {α0 α1 α2 α3 α4 β : Type} {f g : α0 → α1 → α2 → α3 → α4 → β} (h : ∀ a0 a1 a2 a3 a4, f a0 a1 a2 a3 a4 = g a0 a1 a2 a3 a4) : f = g := funext fun a0 => fx4 fun a1 a2 a3 a4 => h a0 a1 a2 a3 a4
theorem fx6 {α0 α1 α2 α3 α4 α5 β : Type} {f g : α0 → α1 → α2 → α3 → α4 → α5 → β} (h : ∀ a0 a1 a2 a3 a4 a5, f a0 a1 a2 a3 a4 a5 = g a0 a1 a2 a3 a4 a5) : f = g := funext fun a0 => fx5 fun a1 a2 a3 a4 a5 => h a0 a1 a2 a3 a4 a5
theorem fx7 {α0 α1 α2 α3 α4 α5 α6 β : Type} {f g : α0 → α1 → α2 → α3 → α4 → α5 → α6 → β} (h : ∀ a0 a1 a2 a3 a4 a5 a6, f a0 a1 a2 a3 a4 a5 a6 = g a0 a1 a2 a3 a4 a5 a6) : f = g := funext fun a0 => fx6 fun a1 a2 a3 a4 a5 a6 => h a0 a1 a2 a3 a4 a5 a6
theorem fx8 {α0 α1 α2 α3 α4 α5 α6 α7 β : Type} {f g : α0 → α1 → α2 → α3 → α4 → α5 → α6 → α7 → β} (h : ∀ a0 a1 a2 a3 a4 a5 a6 a7, f a0 a1 a2 a3 a4 a5 a6 a7 = g a0 a1 a2 a3 a4 a5 a6 a7) : f = g := funext fun a0 => fx7 fun a1 a2 a3 a4 a5 a6 a7 => h a0 a1 a2 a3 a4 a5 a6 a7
theorem fx9 {α0 α1 α2 α3 α4 α5 α6 α7 α8 β : Type} {f g : α0 → α1 → α2 → α3 → α4 → α5 → α6 → α7 → α8 → β} (h : ∀ a0 a1 a2 a3 a4 a5 a6 a7 a8, f a0 a1 a2 a3 a4 a5 a6 a7 a8 = g a0 a1 a2 a3 a4 a5 a6 a7 a8) : f = g := funext fun a0 => fx8 fun a1 a2 a3 a4 a5 a6 a7 a8 => h a0 a1 a2 a3 a4 a5 a6 a7 a8
theorem fx10 {α0 α1 α2 α3 α4 α5 α6 α7 α8 α9 β : Type} {f g : α0 → α1 → α2 → α3 → α4 → α5 → α6 → α7 → α8 → α9 → β} (h : ∀ a0 a1 a2 a3 a4 a5 a6 a7 a8 a9, f a0 a1 a2 a3 a4 a5 a6 a7 a8 a9 = g a0 a1 a2 a3 a4 a5 a6 a7 a8 a9) : f = g := funext fun a0 => fx9 fun a1 a2 a3 a4 a5 a6 a7 a8 a9 => h a0 a1 a2 a3 a4 a5 a6 a7 a8 a9
theorem fx11 {α0 α1 α2 α3 α4 α5 α6 α7 α8 α9 α10 β : Type} {f g : α0 → α1 → α2 → α3 → α4 → α5 → α6 → α7 → α8 → α9 → α10 → β} (h : ∀ a0 a1 a2 a3 a4 a5 a6 a7 a8 a9 a10, f a0 a1 a2 a3 a4 a5 a6 a7 a8 a9 a10 = g a0 a1 a2 a3 a4 a5 a6 a7 a8 a9 a10) : f = g := funext fun a0 => fx10 fun a1 a2 a3 a4 a5 a6 a7 a8 a9 a10 => h a0 a1 a2 a3 a4 a5 a6 a7 a8 a9 a10
theorem fx12 {α0 α1 α2 α3 α4 α5 α6 α7 α8 α9 α10 α11 β : Type} {f g : α0 → α1 → α2 → α3 → α4 → α5 → α6 → α7 → α8 → α9 → α10 → α11 → β} (h : ∀ a0 a1 a2 a3 a4 a5 a6 a7 a8 a9 a10 a11, f a0 a1 a2 a3 a4 a5 a6 a7 a8 a9 a10 a11 = g a0 a1 a2 a3 a4 a5 a6 a7 a8 a9 a10 a11) : f = g := funext fun a0 => fx11 fun a1 a2 a3 a4 a5 a6 a7 a8 a9 a10 a11 => h a0 a1 a2 a3 a4 a5 a6 a7 a8 a9 a10 a11
section
variable {R : Type}
noncomputable def onS (a : List Sh) (b : List RSh) (g : Nat → Sh.D.DL a × RSh.DL b → KT R → Oq R) (o : Nat → List PV → List RowS → KT R → Oq R) (k : Nat) (ws : List PV) (rs : List RowS) (K : KT R) : Oq R := Q6 a b (fun v => g k v K) (o k ws rs K) ws rs
abbrev sOk (s : Nat → List PV → List RowS → KT R → Oq R) (f : Nat) : Prop := ∀ k ws rs K, s k ws rs K = callC T F k f ws rs K
abbrev tOk (f : Nat) (a : List Sh) (b : List RSh) (g : Nat → Sh.D.DL a × RSh.DL b → KT R → Oq R) : Prop := ∀ k x y K, callC T F k f (Sh.build.buildL a x) (RSh.buildL b y) K = g k (x, y) K
theorem Qc {a : List Sh} {b : List RSh} {g : Nat → Sh.D.DL a × RSh.DL b → KT R → Oq R} {o : Nat → List PV → List RowS → KT R → Oq R} {f : Nat} (ho : sOk o f) (h : tOk f a b g) : sOk (onS a b g o) f := by
 intro k ws rs K
 unfold onS
 rw [ho]
 exact Q4 (G := fun ws rs => callC T F k f ws rs K) (fun x y => (h k x y K).symm) ws rs
noncomputable def pickS (l : List (Nat × (Nat → List PV → List RowS → KT R → Oq R))) (k g : Nat) (ws : List PV) (rs : List RowS) (K : KT R) : Oq R := match l with
 | [] => callC T F k g ws rs K
 | (n, s) :: l => bif g == n then s k ws rs K else pickS l k g ws rs K
def pickOk : List (Nat × (Nat → List PV → List RowS → KT R → Oq R)) → Prop
 | [] => True
 | (n, s) :: l => sOk s n ∧ pickOk l
theorem Q5 : ∀ {l : List (Nat × (Nat → List PV → List RowS → KT R → Oq R))}, pickOk l → ∀ k, pickS l k = callC T F k
 | [], _, k => rfl
 | (n, s) :: l, h, k => by
   funext g ws rs K
   unfold pickS
   exact Q14c (fun e => by subst e; exact h.1 k ws rs K) (by rw [Q5 h.2 k])
theorem Q174 {l : List (Nat × (Nat → List PV → List RowS → KT R → Oq R))} {a : List Sh} {b : List RSh} {g : Nat → Sh.D.DL a × RSh.DL b → KT R → Oq R} {f k : Nat} (ih : ∀ x y K, callC T F k f (Sh.build.buildL a x) (RSh.buildL b y) K = g k (x, y) K) (h : pickOk l) : pickS ((f, onS a b g (fun k => callC T F k f)) :: l) k = callC T F k := by
 funext n ws rs K
 unfold pickS
 exact Q14c (fun e => by
  subst e
  unfold onS
  exact Q4 (G := fun ws rs => callC T F k n ws rs K) (fun x y => (ih x y K).symm) ws rs) (by rw [Q5 h k])
theorem eS (fn : Func) (an : Ann) (n nt : Nat) {f k : Nat} {ws : List PV} {rs : List RowS} {K : KT R} {S : Nat → List PV → List RowS → KT R → Oq R} (L : Nat → List PV → List RowS → (St → Oq R) → (Nat → St → Oq R) → Oq R) (l : List (Nat × List (Nat × Mode) × Code)) {q : Oq R}
  (h1 : callC T F (k + 1) f ws rs K = exec T an (Q0 F) n k nt (callC T F k) (ending T fn an n K) (bodyOf fn) ⟨argEnv 0 ws (fun _ => none), rowsOf rs⟩ (ending T fn an n K) (fun _ _ => none))
  (h2 : S = callC T F k) (h3 : Q12 an (bodyOf fn) = l) (h4 : Q4b T an (Q0 F) n k nt S L (ending T fn an n K) l)
  (h5 : execS T an (Q0 F) n k nt S L (ending T fn an n K) (bodyOf fn) ⟨argEnv 0 ws (fun _ => none), rowsOf rs⟩ (ending T fn an n K) (fun _ _ => none) = q) : callC T F (k + 1) f ws rs K = q := by
 rw [h1, ← h2, ← Q7 T an (Q0 F) n k nt S L (bodyOf fn) (Qb _ _ _ _ _ _ _ _ _ h3 h4)]
 exact h5
theorem lC {a : List Sh} {b : List RSh} {g : Sh.D.DL a × RSh.DL b → Oq R} {an : Ann} {n k nt : Nat} {S : Nat → List PV → List RowS → KT R → Oq R} (L : Nat → List PV → List RowS → (St → Oq R) → (Nat → St → Oq R) → Oq R) (l : List (Nat × List (Nat × Mode) × Code)) {Rt : St → Oq R} {cd : Code} {sp : List (Nat × Mode)} {ws : List PV} {rs : List RowS} {N : St → Oq R} {X : Nat → St → Oq R}
  (h3 : cutsIn an cd = l) (h4 : Q4b T an (Q0 F) n k nt S L Rt l) (h : ∀ x y, g (x, y) = innerS T an (Q0 F) n k nt S L Rt cd (sh sp (Sh.build.buildL a x) (RSh.buildL b y)) N X) :
  Q6 a b g (inner T an (Q0 F) n k nt S Rt cd (sh sp ws rs) N X) ws rs = inner T an (Q0 F) n k nt S Rt cd (sh sp ws rs) N X :=
 Q4 (G := fun ws rs => inner T an (Q0 F) n k nt S Rt cd (sh sp ws rs) N X) (fun x y => (h x y).trans (Q13i T an (Q0 F) n k nt S L cd h3 h4 _ N X)) ws rs
noncomputable abbrev L0 : Nat → List PV → List RowS → (St → Oq R) → (Nat → St → Oq R) → Oq R := fun _ _ _ _ _ => none
end
variable {R : Type} (k : Nat) (K : KT R) (id : Nat) (ws : List PV) (rs : List RowS) (N : St → Oq R) (X : Nat → St → Oq R)
noncomputable abbrev kt63 : Bool → Oq R := (fun z0 => K [.val [] .bool z0] [])
abbrev aa63 : List Sh := [zv, zv, zv]
abbrev ab63 : List RSh := []
noncomputable def g63 (k : Nat) (v : Sh.D.DL aa63 × RSh.DL ab63) (K : KT R) : Oq R := f63 k v.1.1 v.1.2.1 v.1.2.2.1 (kt63 K)
noncomputable def S63 := pickS (R := R) []
theorem Q1ep : ∀ k, S63 (R := R) k = callC T F k := Q5 trivial
theorem tu63 : tOk (R := R) 63 aa63 ab63 g63 := by
 intro k x y K
 unfold g63
 rw [Q11z]
 cases k with
 | zero => rfl
 | succ k => exact eS Tryz.f63 an63 0 15 L0 [] (by kernel_rfl) (Q1ep k) (by kernel_rfl) trivial (by kernel_rfl)
noncomputable def s63 := onS (R := R) aa63 ab63 g63 (fun k => callC T F k 63)
theorem Qsy : sOk (R := R) s63 63 := Qc (fun _ _ _ _ => rfl) tu63
noncomputable abbrev kt62 : Int → Oq R := (fun z0 => K [zi z0] [])
abbrev aa62 : List Sh := [.agg [zv, zv, zv, .val [(0, 0)] zT2, .val [(0, 0)] zP1, .val [(0, 0)] zP1]]
abbrev ab62 : List RSh := []
noncomputable def g62 (k : Nat) (v : Sh.D.DL aa62 × RSh.DL ab62) (K : KT R) : Oq R := f62 k v.1.1.1 v.1.1.2.1 v.1.1.2.2.1 v.1.1.2.2.2.1 v.1.1.2.2.2.2.1 v.1.1.2.2.2.2.2.1 (kt62 K)
noncomputable def S62 := pickS (R := R) [(63, s63)]
theorem Q1eo : ∀ k, S62 (R := R) k = callC T F k := Q5 ⟨Qsy, trivial⟩
theorem tu62 : tOk (R := R) 62 aa62 ab62 g62 := by
 intro k x y K
 unfold g62
 rw [Q11y]
 cases k with
 | zero => rfl
 | succ k => exact eS Tryz.f62 an62 0 30 L0 [] (by kernel_rfl) (Q1eo k) (by kernel_rfl) trivial (by kernel_rfl)
noncomputable def s62 := onS (R := R) aa62 ab62 g62 (fun k => callC T F k 62)
theorem Q1j1 : sOk (R := R) s62 62 := Qc (fun _ _ _ _ => rfl) tu62
noncomputable abbrev kt64 : Int → Oq R := (fun z0 => K [zi z0] [])
abbrev aa64 : List Sh := [.agg [zv, zv, zv, .val [(0, 0)] zT2, .val [(0, 0)] zP1, .val [(0, 0)] zP1]]
abbrev ab64 : List RSh := []
noncomputable def g64 (k : Nat) (v : Sh.D.DL aa64 × RSh.DL ab64) (K : KT R) : Oq R := f64 k v.1.1.1 v.1.1.2.1 v.1.1.2.2.1 v.1.1.2.2.2.1 v.1.1.2.2.2.2.1 v.1.1.2.2.2.2.2.1 (kt64 K)
noncomputable abbrev E64 := ending T Tryz.f64 an64 0 K
noncomputable def S64 := pickS (R := R) [(63, s63)]
theorem Q1eq : ∀ k, S64 (R := R) k = callC T F k := Q5 ⟨Qsy, trivial⟩
noncomputable abbrev I64_0 : Oq R := inner T an64 (Q0 F) 0 k 34 (S64 k) (E64 K) Q19c (sh Qdo ws rs) N X
abbrev Q17u : List Sh := [.ptr 1 0, .val [(0, 0)] zP1, zv, zv]
abbrev Q18k : List RSh := [zs0]
noncomputable def L64_0 : Oq R :=
 Q6 Q17u Q18k (fun v => f64_0 k (kt64 K) (N (sh Qg [] [])) v.1.2.1 v.1.2.2.1 v.2.1.1 v.2.1.2.1 v.2.1.2.2.1 v.2.1.2.2.2.1 v.2.1.2.2.2.2.1 v.2.1.2.2.2.2.2.1 k v.1.2.2.2.1) (I64_0 k K ws rs N X) ws rs
noncomputable def L64 : Oq R := bif id == 0 then L64_0 k K ws rs N X else none
theorem i64_0 (c0 : LI) (c1 c3 c4 c5 : Int) (c6 c7 c8 : LI) (m : Nat) : ∀ (c2 : Int),
  iter (atHead an64 0 Qpy) m (fun st N' => exec T an64 (Q0 F) 0 k 34 (S64 k) (E64 K) Qpy st N' (outX an64 0 0 N X)) (sh Qdo [.ptr 1 0, .val [(0, 0)] zP1 c0, zi c1, zi c2] [zr0 c3 c4 c5 c6 c7 c8]) = Qaa k (kt64 K) (N (sh Qg [] [])) c0 c1 c3 c4 c5 c6 c7 c8 m c2 := by
 induction m with
 | zero => intros; rfl
 | succ m ih =>
   intro c2
   simp only [iter]
   rw [← Q7 T an64 (Q0 F) 0 k 34 (S64 k) (L64 k K) Qpy (Qb _ _ _ _ _ _ _ _ Qpy (l := []) (by kernel_rfl) trivial)]
   have h := fx1 ih
   simp only [Qaa]
   rw [← h]
   show _ = _
   kernel_rfl
theorem l64_0 : L64 k K 0 ws rs N X = I64_0 k K ws rs N X := by
 show L64_0 k K ws rs N X = _
 unfold L64_0
 rw [Qks]
 exact Q4 (a := Q17u) (b := Q18k) (G := fun ws rs => I64_0 k K ws rs N X) (fun x y => Eq.trans (by kernel_rfl) (Eq.trans (i64_0 k K N X x.2.1 x.2.2.1 y.1.1 y.1.2.1 y.1.2.2.1 y.1.2.2.2.1 y.1.2.2.2.2.1 y.1.2.2.2.2.2.1 k x.2.2.2.1).symm (by kernel_rfl))) ws rs
theorem tu64 : tOk (R := R) 64 aa64 ab64 g64 := by
 intro k x y K
 unfold g64
 rw [Q121]
 cases k with
 | zero => rfl
 | succ k => exact eS Tryz.f64 an64 0 34 (L64 k K) [(0, Qdo, Q19c)] (by kernel_rfl) (Q1eq k) (by kernel_rfl) ⟨l64_0 k K, trivial⟩ (by kernel_rfl)
noncomputable def s64 := onS (R := R) aa64 ab64 g64 (fun k => callC T F k 64)
theorem Q1j2 : sOk (R := R) s64 64 := Qc (fun _ _ _ _ => rfl) tu64
noncomputable abbrev kt19 : Int → Oq R := (fun z0 => K [zi z0] [])
abbrev aa19 : List Sh := [.agg [zv, zv, zv, .val [(0, 0)] zT2, .val [(0, 0)] zP1, .val [(0, 0)] zP1]]
abbrev ab19 : List RSh := []
noncomputable def g19 (k : Nat) (v : Sh.D.DL aa19 × RSh.DL ab19) (K : KT R) : Oq R := f19 k v.1.1.1 v.1.1.2.1 v.1.1.2.2.1 v.1.1.2.2.2.1 v.1.1.2.2.2.2.1 v.1.1.2.2.2.2.2.1 (kt19 K)
noncomputable abbrev E19 := ending T Tryz.f19 an19 0 K
noncomputable def S19 := pickS (R := R) [(62, s62), (63, s63), (64, s64)]
theorem Q1e8 : ∀ k, S19 (R := R) k = callC T F k := Q5 ⟨Q1j1, Qsy, Q1j2, trivial⟩
noncomputable abbrev I19_0 : Oq R := inner T an19 (Q0 F) 0 k 44 (S19 k) (E19 K) Q192 (sh Qfv ws rs) N X
abbrev Q17m : List Sh := [.ptr 1 0, .val [(0, 0)] zP1, zv, zv]
abbrev Q18c : List RSh := [zs0]
noncomputable def L19_0 : Oq R :=
 Q6 Q17m Q18c (fun v => f19_0 k (kt19 K) (N (sh Qf8 [.ptr 1 0] [zr0 v.2.1.1 v.2.1.2.1 v.2.1.2.2.1 v.2.1.2.2.2.1 v.2.1.2.2.2.2.1 v.2.1.2.2.2.2.2.1])) v.1.2.1 v.1.2.2.1 v.2.1.1 v.2.1.2.1 v.2.1.2.2.1 v.2.1.2.2.2.1 v.2.1.2.2.2.2.1 v.2.1.2.2.2.2.2.1 k v.1.2.2.2.1) (I19_0 k K ws rs N X) ws rs
noncomputable def L19 : Oq R := bif id == 0 then L19_0 k K ws rs N X else none
theorem i19_0 (c0 : LI) (c1 c3 c4 c5 : Int) (c6 c7 c8 : LI) (m : Nat) : ∀ (c2 : Int),
  iter (atHead an19 0 Qpq) m (fun st N' => exec T an19 (Q0 F) 0 k 44 (S19 k) (E19 K) Qpq st N' (outX an19 0 0 N X)) (sh Qfv [.ptr 1 0, .val [(0, 0)] zP1 c0, zi c1, zi c2] [zr0 c3 c4 c5 c6 c7 c8]) = Qa3 k (kt19 K) (N (sh Qf8 [.ptr 1 0] [zr0 c3 c4 c5 c6 c7 c8])) c0 c1 c3 c4 c5 c6 c7 c8 m c2 := by
 induction m with
 | zero => intros; rfl
 | succ m ih =>
   intro c2
   simp only [iter]
   rw [← Q7 T an19 (Q0 F) 0 k 44 (S19 k) (L19 k K) Qpq (Qb _ _ _ _ _ _ _ _ Qpq (l := []) (by kernel_rfl) trivial)]
   have h := fx1 ih
   simp only [Qa3]
   rw [← h]
   show _ = _
   kernel_rfl
theorem l19_0 : L19 k K 0 ws rs N X = I19_0 k K ws rs N X := by
 show L19_0 k K ws rs N X = _
 unfold L19_0
 rw [Qkj]
 exact Q4 (a := Q17m) (b := Q18c) (G := fun ws rs => I19_0 k K ws rs N X) (fun x y => Eq.trans (by kernel_rfl) (Eq.trans (i19_0 k K N X x.2.1 x.2.2.1 y.1.1 y.1.2.1 y.1.2.2.1 y.1.2.2.2.1 y.1.2.2.2.2.1 y.1.2.2.2.2.2.1 k x.2.2.2.1).symm (by kernel_rfl))) ws rs
theorem tu19 : tOk (R := R) 19 aa19 ab19 g19 := by
 intro k x y K
 unfold g19
 rw [Q118]
 cases k with
 | zero => rfl
 | succ k => exact eS Tryz.f19 an19 0 44 (L19 k K) [(0, Qfv, Q192)] (by kernel_rfl) (Q1e8 k) (by kernel_rfl) ⟨l19_0 k K, trivial⟩ (by kernel_rfl)
noncomputable def s19 := onS (R := R) aa19 ab19 g19 (fun k => callC T F k 19)
theorem Qsv : sOk (R := R) s19 19 := Qc (fun _ _ _ _ => rfl) tu19
noncomputable abbrev kt131 : Int → Oq R := (fun z0 => K [zi z0] [])
abbrev aa131 : List Sh := [.val [(0, 0)] zP1, zv]
abbrev ab131 : List RSh := []
noncomputable def g131 (k : Nat) (v : Sh.D.DL aa131 × RSh.DL ab131) (K : KT R) : Oq R := f131 k v.1.1 v.1.2.1 (kt131 K)
noncomputable abbrev E131 := ending T Tryz.f131 an131 0 K
noncomputable def S131 := pickS (R := R) []
theorem Q1b3 : ∀ k, S131 (R := R) k = callC T F k := Q5 trivial
noncomputable abbrev Qum : Oq R := inner T an131 (Q0 F) 0 k 19 (S131 k) (E131 K) Qzi (sh Q2p ws rs) N X
abbrev Qww : List Sh := [.val [(0, 0)] zP1, zv, zv, zv]
abbrev Qy8 : List RSh := []
noncomputable def Qvr : Oq R :=
 Q6 Qww Qy8 (fun v => Q10s k (kt131 K) (N (sh Qg [] [])) v.1.1 v.1.2.1 v.1.2.2.1 k v.1.2.2.2.1) (Qum k K ws rs N X) ws rs
noncomputable def L131 : Oq R := bif id == 0 then Qvr k K ws rs N X else none
theorem Q1gy (c0 : LI) (c1 c2 : Int) (m : Nat) : ∀ (c3 : Int),
  iter (atHead an131 0 Qhc) m (fun st N' => exec T an131 (Q0 F) 0 k 19 (S131 k) (E131 K) Qhc st N' (outX an131 0 0 N X)) (sh Q2p [.val [(0, 0)] zP1 c0, zi c1, zi c2, zi c3] []) = Q56 k (kt131 K) (N (sh Qg [] [])) c0 c1 c2 m c3 := by
 induction m with
 | zero => intros; rfl
 | succ m ih =>
   intro c3
   simp only [iter]
   rw [← Q7 T an131 (Q0 F) 0 k 19 (S131 k) (L131 k K) Qhc (Qb _ _ _ _ _ _ _ _ Qhc (l := []) (by kernel_rfl) trivial)]
   have h := fx1 ih
   simp only [Q56]
   rw [← h]
   show _ = _
   kernel_rfl
theorem Q1i0 : L131 k K 0 ws rs N X = Qum k K ws rs N X := by
 show Qvr k K ws rs N X = _
 unfold Qvr
 rw [Qep]
 exact Q4 (a := Qww) (b := Qy8) (G := fun ws rs => Qum k K ws rs N X) (fun x y => Eq.trans (by kernel_rfl) (Eq.trans (Q1gy k K N X x.1 x.2.1 x.2.2.1 k x.2.2.2.1).symm (by kernel_rfl))) ws rs
theorem tu131 : tOk (R := R) 131 aa131 ab131 g131 := by
 intro k x y K
 unfold g131
 rw [Qrl]
 cases k with
 | zero => rfl
 | succ k => exact eS Tryz.f131 an131 0 19 (L131 k K) [(0, Q2p, Qzi)] (by kernel_rfl) (Q1b3 k) (by kernel_rfl) ⟨Q1i0 k K, trivial⟩ (by kernel_rfl)
noncomputable def s131 := onS (R := R) aa131 ab131 g131 (fun k => callC T F k 131)
theorem Q1dj : sOk (R := R) s131 131 := Qc (fun _ _ _ _ => rfl) tu131
noncomputable abbrev kt96 : Bool → Oq R := (fun z0 => K [.val [] .bool z0] [])
abbrev aa96 : List Sh := [.val [(0, 0)] zP1, zv]
abbrev ab96 : List RSh := []
noncomputable def g96 (k : Nat) (v : Sh.D.DL aa96 × RSh.DL ab96) (K : KT R) : Oq R := f96 k v.1.1 v.1.2.1 (kt96 K)
noncomputable def S96 := pickS (R := R) [(131, s131)]
theorem Q1f6 : ∀ k, S96 (R := R) k = callC T F k := Q5 ⟨Q1dj, trivial⟩
theorem tu96 : tOk (R := R) 96 aa96 ab96 g96 := by
 intro k x y K
 unfold g96
 rw [Q130]
 cases k with
 | zero => rfl
 | succ k => exact eS Tryz.f96 an96 0 9 L0 [] (by kernel_rfl) (Q1f6 k) (by kernel_rfl) trivial (by kernel_rfl)
noncomputable def s96 := onS (R := R) aa96 ab96 g96 (fun k => callC T F k 96)
theorem Q1jg : sOk (R := R) s96 96 := Qc (fun _ _ _ _ => rfl) tu96
noncomputable abbrev kt84 : LI → Oq R := (fun z0 => K [.val [(0, 0)] zT2 z0] [])
abbrev aa84 : List Sh := [.agg [zv, zv, zv, .val [(0, 0)] zT2, .val [(0, 0)] zP1, .val [(0, 0)] zP1], zv]
abbrev ab84 : List RSh := []
noncomputable def g84 (k : Nat) (v : Sh.D.DL aa84 × RSh.DL ab84) (K : KT R) : Oq R := f84 k v.1.1.1 v.1.1.2.1 v.1.1.2.2.1 v.1.1.2.2.2.1 v.1.1.2.2.2.2.1 v.1.1.2.2.2.2.2.1 v.1.2.1 (kt84 K)
noncomputable def S84 := pickS (R := R) []
theorem Q1f2 : ∀ k, S84 (R := R) k = callC T F k := Q5 trivial
theorem tu84 : tOk (R := R) 84 aa84 ab84 g84 := by
 intro k x y K
 unfold g84
 rw [Q12w]
 cases k with
 | zero => rfl
 | succ k => exact eS Tryz.f84 an84 0 17 L0 [] (by kernel_rfl) (Q1f2 k) (by kernel_rfl) trivial (by kernel_rfl)
noncomputable def s84 := onS (R := R) aa84 ab84 g84 (fun k => callC T F k 84)
theorem Q1jd : sOk (R := R) s84 84 := Qc (fun _ _ _ _ => rfl) tu84
noncomputable abbrev kt134 : Bool → Oq R := (fun z0 => K [.val [] .bool z0] [])
abbrev aa134 : List Sh := [.val [] (.int .u8)]
abbrev ab134 : List RSh := []
noncomputable def g134 (k : Nat) (v : Sh.D.DL aa134 × RSh.DL ab134) (K : KT R) : Oq R := f134 k v.1.1 (kt134 K)
noncomputable def S134 := pickS (R := R) []
theorem Q1b6 : ∀ k, S134 (R := R) k = callC T F k := Q5 trivial
theorem tu134 : tOk (R := R) 134 aa134 ab134 g134 := by
 intro k x y K
 unfold g134
 rw [Qro]
 cases k with
 | zero => rfl
 | succ k => exact eS Tryz.f134 an134 0 5 L0 [] (by kernel_rfl) (Q1b6 k) (by kernel_rfl) trivial (by kernel_rfl)
noncomputable def s134 := onS (R := R) aa134 ab134 g134 (fun k => callC T F k 134)
theorem Q1dm : sOk (R := R) s134 134 := Qc (fun _ _ _ _ => rfl) tu134
noncomputable abbrev kt146 : Int → Oq R := (fun z0 => K [zi z0] [])
abbrev aa146 : List Sh := [.val [(0, 0)] zT2, .fn 134 []]
abbrev ab146 : List RSh := []
noncomputable def g146 (k : Nat) (v : Sh.D.DL aa146 × RSh.DL ab146) (K : KT R) : Oq R := f146 k v.1.1 (kt146 K)
noncomputable abbrev E146 := ending T Tryz.f146 an146 0 K
noncomputable def S146 := pickS (R := R) [(134, s134)]
theorem Q1bb : ∀ k, S146 (R := R) k = callC T F k := Q5 ⟨Q1dm, trivial⟩
noncomputable abbrev Qur : Oq R := inner T an146 (Q0 F) 0 k 19 (S146 k) (E146 K) Qzn (sh Q2p ws rs) N X
abbrev Qx2 : List Sh := [.val [(0, 0)] zT2, .fn 134 [], zv, zv]
abbrev Qye : List RSh := []
noncomputable def Qvw : Oq R :=
 Q6 Qx2 Qye (fun v => Q10y k (kt146 K) (N (sh Qg [] [])) v.1.1 v.1.2.2.1 k v.1.2.2.2.1) (Qur k K ws rs N X) ws rs
noncomputable def L146 : Oq R := bif id == 0 then Qvw k K ws rs N X else none
theorem Q1h3 (c0 : LI) (c1 : Int) (m : Nat) : ∀ (c2 : Int),
  iter (atHead an146 0 Qhh) m (fun st N' => exec T an146 (Q0 F) 0 k 19 (S146 k) (E146 K) Qhh st N' (outX an146 0 0 N X)) (sh Q2p [.val [(0, 0)] zT2 c0, .fn 134 [], zi c1, zi c2] []) = Q5a k (kt146 K) (N (sh Qg [] [])) c0 c1 m c2 := by
 induction m with
 | zero => intros; rfl
 | succ m ih =>
   intro c2
   simp only [iter]
   rw [← Q7 T an146 (Q0 F) 0 k 19 (S146 k) (L146 k K) Qhh (Qb _ _ _ _ _ _ _ _ Qhh (l := []) (by kernel_rfl) trivial)]
   have h := fx1 ih
   simp only [Q5a]
   rw [← h]
   show _ = _
   kernel_rfl
theorem Q1i5 : L146 k K 0 ws rs N X = Qur k K ws rs N X := by
 show Qvw k K ws rs N X = _
 unfold Qvw
 rw [Qeu]
 exact Q4 (a := Qx2) (b := Qye) (G := fun ws rs => Qur k K ws rs N X) (fun x y => Eq.trans (by kernel_rfl) (Eq.trans (Q1h3 k K N X x.1 x.2.2.1 k x.2.2.2.1).symm (by kernel_rfl))) ws rs
theorem tu146 : tOk (R := R) 146 aa146 ab146 g146 := by
 intro k x y K
 unfold g146
 rw [Qru]
 cases k with
 | zero => rfl
 | succ k => exact eS Tryz.f146 an146 0 19 (L146 k K) [(0, Q2p, Qzn)] (by kernel_rfl) (Q1bb k) (by kernel_rfl) ⟨Q1i5 k K, trivial⟩ (by kernel_rfl)
noncomputable def s146 := onS (R := R) aa146 ab146 g146 (fun k => callC T F k 146)
theorem Q1dr : sOk (R := R) s146 146 := Qc (fun _ _ _ _ => rfl) tu146
noncomputable abbrev kt133 : Bool → Oq R := (fun z0 => K [.val [] .bool z0] [])
abbrev aa133 : List Sh := [.val [(0, 0)] zT2, .fn 134 []]
abbrev ab133 : List RSh := []
noncomputable def g133 (k : Nat) (v : Sh.D.DL aa133 × RSh.DL ab133) (K : KT R) : Oq R := f133 k v.1.1 (kt133 K)
noncomputable def S133 := pickS (R := R) [(146, s146)]
theorem Q1b5 : ∀ k, S133 (R := R) k = callC T F k := Q5 ⟨Q1dr, trivial⟩
theorem tu133 : tOk (R := R) 133 aa133 ab133 g133 := by
 intro k x y K
 unfold g133
 rw [Qrn]
 cases k with
 | zero => rfl
 | succ k => exact eS Tryz.f133 an133 0 9 L0 [] (by kernel_rfl) (Q1b5 k) (by kernel_rfl) trivial (by kernel_rfl)
noncomputable def s133 := onS (R := R) aa133 ab133 g133 (fun k => callC T F k 133)
theorem Q1dl : sOk (R := R) s133 133 := Qc (fun _ _ _ _ => rfl) tu133
noncomputable abbrev kt98 : Bool → Oq R := (fun z0 => K [.val [] .bool z0] [])
abbrev aa98 : List Sh := [.val [(0, 0)] zT2]
abbrev ab98 : List RSh := []
noncomputable def g98 (k : Nat) (v : Sh.D.DL aa98 × RSh.DL ab98) (K : KT R) : Oq R := f98 k v.1.1 (kt98 K)
noncomputable def S98 := pickS (R := R) [(133, s133)]
theorem Q1f8 : ∀ k, S98 (R := R) k = callC T F k := Q5 ⟨Q1dl, trivial⟩
theorem tu98 : tOk (R := R) 98 aa98 ab98 g98 := by
 intro k x y K
 unfold g98
 rw [Q132]
 cases k with
 | zero => rfl
 | succ k => exact eS Tryz.f98 an98 0 6 L0 [] (by kernel_rfl) (Q1f8 k) (by kernel_rfl) trivial (by kernel_rfl)
noncomputable def s98 := onS (R := R) aa98 ab98 g98 (fun k => callC T F k 98)
theorem Q1ag : sOk (R := R) s98 98 := Qc (fun _ _ _ _ => rfl) tu98
noncomputable abbrev kt99 : Int → Oq R := (fun z0 => K [zi z0] [])
abbrev aa99 : List Sh := [.val [(0, 0)] zT2]
abbrev ab99 : List RSh := []
noncomputable def g99 (k : Nat) (v : Sh.D.DL aa99 × RSh.DL ab99) (K : KT R) : Oq R := f99 k v.1.1 (kt99 K)
noncomputable def S99 := pickS (R := R) []
theorem Q1f9 : ∀ k, S99 (R := R) k = callC T F k := Q5 trivial
theorem tu99 : tOk (R := R) 99 aa99 ab99 g99 := by
 intro k x y K
 unfold g99
 rw [Q133]
 cases k with
 | zero => rfl
 | succ k => exact eS Tryz.f99 an99 0 25 L0 [] (by kernel_rfl) (Q1f9 k) (by kernel_rfl) trivial (by kernel_rfl)
noncomputable def s99 := onS (R := R) aa99 ab99 g99 (fun k => callC T F k 99)
theorem Q1ah : sOk (R := R) s99 99 := Qc (fun _ _ _ _ => rfl) tu99
noncomputable abbrev kt83 : LI → Oq R := (fun z0 => K [.rw 1] [zr1 z0])
abbrev aa83 : List Sh := [.val [(0, 0)] zT2]
abbrev ab83 : List RSh := []
noncomputable def g83 (k : Nat) (v : Sh.D.DL aa83 × RSh.DL ab83) (K : KT R) : Oq R := f83 k v.1.1 (kt83 K)
theorem e83 (k : Nat) (a0 : LI) (K : KT R) : callC T F k 83 [.val [(0, 0)] zT2 a0] [] K = f83 k a0 (kt83 K) := by
 rw [Q12v]
 cases k with
 | zero => rfl
 | succ k => exact Qta (m := [.lend (.int .u8)]) (ty := (.int .u8)) (bytes := 1) (by kernel_rfl) a0 K
theorem tu83 : tOk (R := R) 83 aa83 ab83 g83 := fun k x y K => e83 k x.1 K
noncomputable def s83 := onS (R := R) aa83 ab83 g83 (fun k => callC T F k 83)
theorem Q1jc : sOk (R := R) s83 83 := Qc (fun _ _ _ _ => rfl) tu83
noncomputable abbrev kt130 : Bool → Oq R := (fun z0 => K [.val [] .bool z0] [])
abbrev aa130 : List Sh := [.val [] .str]
abbrev ab130 : List RSh := []
noncomputable def g130 (k : Nat) (v : Sh.D.DL aa130 × RSh.DL ab130) (K : KT R) : Oq R := f130 k v.1.1 (kt130 K)
noncomputable abbrev E130 := ending T Tryz.f130 an130 0 K
noncomputable def S130 := pickS (R := R) []
theorem Q1b2 : ∀ k, S130 (R := R) k = callC T F k := Q5 trivial
noncomputable abbrev Qul : Oq R := inner T an130 (Q0 F) 0 k 27 (S130 k) (E130 K) Qzh (sh Q9f ws rs) N X
abbrev Qwv : List Sh := [.val [] .str, zv, zv]
abbrev Qy7 : List RSh := []
noncomputable def Qvq : Oq R :=
 Q6 Qwv Qy7 (fun v => Q10r k (kt130 K) (N (sh Qg [] [])) v.1.1 v.1.2.1 k v.1.2.2.1) (Qul k K ws rs N X) ws rs
noncomputable def L130 : Oq R := bif id == 0 then Qvq k K ws rs N X else none
theorem Q1gx (c0 : BA) (c1 : Int) (m : Nat) : ∀ (c2 : Int),
  iter (atHead an130 0 Qhb) m (fun st N' => exec T an130 (Q0 F) 0 k 27 (S130 k) (E130 K) Qhb st N' (outX an130 0 0 N X)) (sh Q9f [.val [] .str c0, zi c1, zi c2] []) = Q55 k (kt130 K) (N (sh Qg [] [])) c0 c1 m c2 := by
 induction m with
 | zero => intros; rfl
 | succ m ih =>
   intro c2
   simp only [iter]
   rw [← Q7 T an130 (Q0 F) 0 k 27 (S130 k) (L130 k K) Qhb (Qb _ _ _ _ _ _ _ _ Qhb (l := []) (by kernel_rfl) trivial)]
   have h := fx1 ih
   simp only [Q55]
   rw [← h]
   show _ = _
   kernel_rfl
theorem Q1hz : L130 k K 0 ws rs N X = Qul k K ws rs N X := by
 show Qvq k K ws rs N X = _
 unfold Qvq
 rw [Qeo]
 exact Q4 (a := Qwv) (b := Qy7) (G := fun ws rs => Qul k K ws rs N X) (fun x y => Eq.trans (by kernel_rfl) (Eq.trans (Q1gx k K N X x.1 x.2.1 k x.2.2.1).symm (by kernel_rfl))) ws rs
theorem tu130 : tOk (R := R) 130 aa130 ab130 g130 := by
 intro k x y K
 unfold g130
 rw [Qrk]
 cases k with
 | zero => rfl
 | succ k => exact eS Tryz.f130 an130 0 27 (L130 k K) [(0, Q9f, Qzh)] (by kernel_rfl) (Q1b2 k) (by kernel_rfl) ⟨Q1hz k K, trivial⟩ (by kernel_rfl)
noncomputable def s130 := onS (R := R) aa130 ab130 g130 (fun k => callC T F k 130)
theorem Q1di : sOk (R := R) s130 130 := Qc (fun _ _ _ _ => rfl) tu130
noncomputable abbrev kt95 : Bool → Oq R := (fun z0 => K [.val [] .bool z0] [])
abbrev aa95 : List Sh := [.val [] .str]
abbrev ab95 : List RSh := []
noncomputable def g95 (k : Nat) (v : Sh.D.DL aa95 × RSh.DL ab95) (K : KT R) : Oq R := f95 k v.1.1 (kt95 K)
noncomputable def S95 := pickS (R := R) [(130, s130)]
theorem Q1f5 : ∀ k, S95 (R := R) k = callC T F k := Q5 ⟨Q1di, trivial⟩
theorem tu95 : tOk (R := R) 95 aa95 ab95 g95 := by
 intro k x y K
 unfold g95
 rw [Q12z]
 cases k with
 | zero => rfl
 | succ k => exact eS Tryz.f95 an95 0 10 L0 [] (by kernel_rfl) (Q1f5 k) (by kernel_rfl) trivial (by kernel_rfl)
noncomputable def s95 := onS (R := R) aa95 ab95 g95 (fun k => callC T F k 95)
theorem Q1jf : sOk (R := R) s95 95 := Qc (fun _ _ _ _ => rfl) tu95
noncomputable abbrev kt145 : Int → Int → Oq R := (fun z0 z1 => K [.val [] (.int .u64) z0, .val [] (.int .u64) z1] [])
abbrev aa145 : List Sh := [.val [] (.int .u64), .val [] (.int .u64)]
abbrev ab145 : List RSh := []
noncomputable def g145 (k : Nat) (v : Sh.D.DL aa145 × RSh.DL ab145) (K : KT R) : Oq R := f145 k v.1.1 v.1.2.1 (kt145 K)
noncomputable def S145 := pickS (R := R) []
theorem Q1ba : ∀ k, S145 (R := R) k = callC T F k := Q5 trivial
theorem tu145 : tOk (R := R) 145 aa145 ab145 g145 := by
 intro k x y K
 unfold g145
 rw [Qrt]
 cases k with
 | zero => rfl
 | succ k => exact eS Tryz.f145 an145 0 51 L0 [] (by kernel_rfl) (Q1ba k) (by kernel_rfl) trivial (by kernel_rfl)
noncomputable def s145 := onS (R := R) aa145 ab145 g145 (fun k => callC T F k 145)
theorem Q1dq : sOk (R := R) s145 145 := Qc (fun _ _ _ _ => rfl) tu145
noncomputable abbrev kt128 : Int → Int → Oq R := (fun z0 z1 => K [.val [] (.int .u64) z0, .val [] (.int .u64) z1] [])
abbrev aa128 : List Sh := [.val [] (.int .u64), .val [] (.int .u64)]
abbrev ab128 : List RSh := []
noncomputable def g128 (k : Nat) (v : Sh.D.DL aa128 × RSh.DL ab128) (K : KT R) : Oq R := f128 k v.1.1 v.1.2.1 (kt128 K)
noncomputable def S128 := pickS (R := R) [(145, s145)]
theorem Q1b1 : ∀ k, S128 (R := R) k = callC T F k := Q5 ⟨Q1dq, trivial⟩
theorem tu128 : tOk (R := R) 128 aa128 ab128 g128 := by
 intro k x y K
 unfold g128
 rw [Qrj]
 cases k with
 | zero => rfl
 | succ k => exact eS Tryz.f128 an128 0 30 L0 [] (by kernel_rfl) (Q1b1 k) (by kernel_rfl) trivial (by kernel_rfl)
noncomputable def s128 := onS (R := R) aa128 ab128 g128 (fun k => callC T F k 128)
theorem Q1dh : sOk (R := R) s128 128 := Qc (fun _ _ _ _ => rfl) tu128
noncomputable abbrev kt88 : LI → Oq R := (fun z0 => K [.rw 1] [zr1 z0])
abbrev aa88 : List Sh := [.val [(0, 0)] zT2, zv]
abbrev ab88 : List RSh := []
noncomputable def g88 (k : Nat) (v : Sh.D.DL aa88 × RSh.DL ab88) (K : KT R) : Oq R := f88 k v.1.1 v.1.2.1 (kt88 K)
noncomputable abbrev E88 := ending T Tryz.f88 an88 0 K
noncomputable def S88 := pickS (R := R) [(128, s128)]
theorem Q1f3 : ∀ k, S88 (R := R) k = callC T F k := Q5 ⟨Q1dh, trivial⟩
noncomputable abbrev Qv8 : Oq R := inner T an88 (Q0 F) 0 k 48 (S88 k) (E88 K) Qqo (sh Q6s ws rs) N X
abbrev Q15h : List Sh := [.val [(0, 0)] zT2, zv, .val [] .bool]
abbrev Q15q : List RSh := []
noncomputable def Qna : Oq R :=
 Q6 Q15h Q15q (fun v => Qog k (N (sh Q1a5 [.val [(0, 0)] zT2 v.1.1, zi v.1.2.1] [])) v.1.2.2.1) (Qv8 k K ws rs N X) ws rs
noncomputable abbrev Qv9 : Oq R := inner T an88 (Q0 F) 0 k 48 (S88 k) (E88 K) Qqp (sh Qje ws rs) N X
abbrev Q15i : List Sh := [.val [(0, 0)] zT2, .val [] (.int .u64), .val [] .bool]
abbrev Q15r : List RSh := []
noncomputable def Qnb : Oq R :=
 Q6 Q15i Q15r (fun v => Qin k (N (sh Q1a6 [.val [(0, 0)] zT2 v.1.1, .val [] (.int .u64) v.1.2.1] [])) v.1.2.2.1) (Qv9 k K ws rs N X) ws rs
noncomputable abbrev I88_0 : Oq R := inner T an88 (Q0 F) 0 k 48 (S88 k) (E88 K) Q19x (sh Qg2 ws rs) N X
abbrev Q18a : List Sh := [.rw 1, zv]
abbrev Q190 : List RSh := [.arr [] (.int .u8)]
noncomputable def L88_0 : Oq R :=
 Q6 Q18a Q190 (fun v => f88_0 k (fun p0 => N (sh Qfa [.rw 1] [zr1 p0])) k v.1.2.1 v.2.1) (I88_0 k K ws rs N X) ws rs
noncomputable def L88 : Oq R := bif id == 1000002 then Qna k K ws rs N X else bif id == 1000005 then Qnb k K ws rs N X else bif id == 0 then L88_0 k K ws rs N X else none
theorem Q1co : L88 k K 1000002 ws rs N X = Qv8 k K ws rs N X := by
 show Qna k K ws rs N X = _
 unfold Qna
 rw [Qc6]
 exact lC (L88 k K) [] (by kernel_rfl) trivial fun x y => by kernel_rfl
theorem Q1cp : L88 k K 1000005 ws rs N X = Qv9 k K ws rs N X := by
 show Qnb k K ws rs N X = _
 unfold Qnb
 rw [Qc7]
 exact lC (L88 k K) [] (by kernel_rfl) trivial fun x y => by kernel_rfl
theorem i88_0 (m : Nat) : ∀ (c0 : Int) (c1 : LI),
  iter (atHead an88 0 Qqe) m (fun st N' => exec T an88 (Q0 F) 0 k 48 (S88 k) (E88 K) Qqe st N' (outX an88 0 0 N X)) (sh Qg2 [.rw 1, zi c0] [zr1 c1]) = Q88 k (fun p0 => N (sh Qfa [.rw 1] [zr1 p0])) m c0 c1 := by
 induction m with
 | zero => intros; rfl
 | succ m ih =>
   intro c0 c1
   simp only [iter]
   rw [← Q7 T an88 (Q0 F) 0 k 48 (S88 k) (L88 k K) Qqe (Qb _ _ _ _ _ _ _ _ Qqe (l := []) (by kernel_rfl) trivial)]
   have h := fx2 ih
   simp only [Q88]
   rw [← h]
   show _ = _
   kernel_rfl
theorem l88_0 : L88 k K 0 ws rs N X = I88_0 k K ws rs N X := by
 show L88_0 k K ws rs N X = _
 unfold L88_0
 rw [Qlb]
 exact Q4 (a := Q18a) (b := Q190) (G := fun ws rs => I88_0 k K ws rs N X) (fun x y => Eq.trans (by kernel_rfl) (Eq.trans (i88_0 k K N X k x.2.1 y.1).symm (by kernel_rfl))) ws rs
theorem tu88 : tOk (R := R) 88 aa88 ab88 g88 := by
 intro k x y K
 unfold g88
 rw [Q12x]
 cases k with
 | zero => rfl
 | succ k => exact eS Tryz.f88 an88 0 48 (L88 k K) [(1000002, Q6s, Qqo), (1000005, Qje, Qqp), (0, Qg2, Q19x)] (by kernel_rfl) (Q1f3 k) (by kernel_rfl) ⟨Q1co k K, Q1cp k K, l88_0 k K, trivial⟩ (by kernel_rfl)
noncomputable def s88 := onS (R := R) aa88 ab88 g88 (fun k => callC T F k 88)
theorem Q1je : sOk (R := R) s88 88 := Qc (fun _ _ _ _ => rfl) tu88
noncomputable abbrev kt111 : Int → Oq R := (fun z0 => K [zi z0] [])
abbrev aa111 : List Sh := [.val [(0, 0)] zT2]
abbrev ab111 : List RSh := []
noncomputable def g111 (k : Nat) (v : Sh.D.DL aa111 × RSh.DL ab111) (K : KT R) : Oq R := f111 k v.1.1 (kt111 K)
noncomputable abbrev E111 := ending T Tryz.f111 an111 0 K
noncomputable def S111 := pickS (R := R) []
theorem Q1at : ∀ k, S111 (R := R) k = callC T F k := Q5 trivial
noncomputable abbrev Qpa : Oq R := inner T an111 (Q0 F) 0 k 31 (S111 k) (E111 K) Qjw (sh Qdc ws rs) N X
abbrev Qwn : List Sh := [zv, .val [(0, 0)] zT2, zv, zv, zv, .val [] .bool]
abbrev Qxz : List RSh := []
noncomputable def Qgh : Oq R :=
 Q6 Qwn Qxz (fun v => Qi0 k (fun p0 => N (sh Q5w [zi p0, .val [(0, 0)] zT2 v.1.2.1, zi v.1.2.2.1, zi v.1.2.2.2.1, zi v.1.2.2.2.2.1] [])) v.1.1 v.1.2.2.2.2.2.1) (Qpa k K ws rs N X) ws rs
noncomputable abbrev Qug : Oq R := inner T an111 (Q0 F) 0 k 31 (S111 k) (E111 K) Qzc (sh Q5w ws rs) N X
abbrev Qwm : List Sh := [zv, .val [(0, 0)] zT2, zv, zv, zv]
abbrev Qxy : List RSh := []
noncomputable def Qvl : Oq R :=
 Q6 Qwm Qxy (fun v => Q10l k (fun p0 => N (sh Q3h [zi p0, .val [(0, 0)] zT2 v.1.2.1, zi v.1.2.2.1, zi v.1.2.2.2.1] [])) v.1.2.1 v.1.2.2.1 v.1.2.2.2.1 k v.1.1 v.1.2.2.2.2.1) (Qug k K ws rs N X) ws rs
noncomputable abbrev Quf : Oq R := inner T an111 (Q0 F) 0 k 31 (S111 k) (E111 K) Qzb (sh Q3h ws rs) N X
abbrev Qwl : List Sh := [zv, .val [(0, 0)] zT2, zv, zv]
abbrev Qxx : List RSh := []
noncomputable def Qvk : Oq R :=
 Q6 Qwl Qxx (fun v => Q10k k (fun p0 => N (sh Qz [zi p0] [])) v.1.2.1 v.1.2.2.1 k v.1.1 v.1.2.2.2.1) (Quf k K ws rs N X) ws rs
noncomputable def L111 : Oq R := bif id == 1000011 then Qgh k K ws rs N X else bif id == 2 then Qvl k K ws rs N X else bif id == 0 then Qvk k K ws rs N X else none
theorem Q169 : L111 k K 1000011 ws rs N X = Qpa k K ws rs N X := by
 show Qgh k K ws rs N X = _
 unfold Qgh
 rw [Q9t]
 exact lC (L111 k K) [] (by kernel_rfl) trivial fun x y => by kernel_rfl
theorem Q1gs (c1 : LI) (c2 c3 : Int) (m : Nat) : ∀ (c0 c4 : Int),
  iter (atHead an111 0 Qh6) m (fun st N' => exec T an111 (Q0 F) 0 k 31 (S111 k) (E111 K) Qh6 st N' (outX an111 0 2 N X)) (sh Q5w [zi c0, .val [(0, 0)] zT2 c1, zi c2, zi c3, zi c4] []) = Q4y k (fun p0 => N (sh Q3h [zi p0, .val [(0, 0)] zT2 c1, zi c2, zi c3] [])) c1 c2 c3 m c0 c4 := by
 induction m with
 | zero => intros; rfl
 | succ m ih =>
   intro c0 c4
   simp only [iter]
   rw [← Q7 T an111 (Q0 F) 0 k 31 (S111 k) (L111 k K) Qh6 (Qb _ _ _ _ _ _ _ _ Qh6 (l := [(1000011, Qdc, Qjw)]) (by kernel_rfl) ⟨Q169 k K, trivial⟩)]
   have h := fx2 ih
   simp only [Q4y]
   rw [← h]
   show _ = _
   kernel_rfl
theorem Q1hu : L111 k K 2 ws rs N X = Qug k K ws rs N X := by
 show Qvl k K ws rs N X = _
 unfold Qvl
 rw [Qej]
 exact Q4 (a := Qwm) (b := Qxy) (G := fun ws rs => Qug k K ws rs N X) (fun x y => Eq.trans (by kernel_rfl) (Eq.trans (Q1gs k K N X x.2.1 x.2.2.1 x.2.2.2.1 k x.1 x.2.2.2.2.1).symm (by kernel_rfl))) ws rs
theorem Q1gr (c1 : LI) (c2 : Int) (m : Nat) : ∀ (c0 c3 : Int),
  iter (atHead an111 0 Qh5) m (fun st N' => exec T an111 (Q0 F) 0 k 31 (S111 k) (E111 K) Qh5 st N' (outX an111 0 0 N X)) (sh Q3h [zi c0, .val [(0, 0)] zT2 c1, zi c2, zi c3] []) = Q4x k (fun p0 => N (sh Qz [zi p0] [])) c1 c2 m c0 c3 := by
 induction m with
 | zero => intros; rfl
 | succ m ih =>
   intro c0 c3
   simp only [iter]
   rw [← Q7 T an111 (Q0 F) 0 k 31 (S111 k) (L111 k K) Qh5 (Qb _ _ _ _ _ _ _ _ Qh5 (l := [(2, Q5w, Qzc)]) (by kernel_rfl) ⟨Q1hu k K, trivial⟩)]
   have h := fx2 ih
   simp only [Q4x]
   rw [← h]
   show _ = _
   kernel_rfl
theorem Q1ht : L111 k K 0 ws rs N X = Quf k K ws rs N X := by
 show Qvk k K ws rs N X = _
 unfold Qvk
 rw [Qei]
 exact Q4 (a := Qwl) (b := Qxx) (G := fun ws rs => Quf k K ws rs N X) (fun x y => Eq.trans (by kernel_rfl) (Eq.trans (Q1gr k K N X x.2.1 x.2.2.1 k x.1 x.2.2.2.1).symm (by kernel_rfl))) ws rs
theorem tu111 : tOk (R := R) 111 aa111 ab111 g111 := by
 intro k x y K
 unfold g111
 rw [Qr7]
 cases k with
 | zero => rfl
 | succ k => exact eS Tryz.f111 an111 0 31 (L111 k K) [(0, Q3h, Qzb)] (by kernel_rfl) (Q1at k) (by kernel_rfl) ⟨Q1ht k K, trivial⟩ (by kernel_rfl)
noncomputable def s111 := onS (R := R) aa111 ab111 g111 (fun k => callC T F k 111)
theorem Q14k : sOk (R := R) s111 111 := Qc (fun _ _ _ _ => rfl) tu111
noncomputable abbrev kt100 : Int → LI → Oq R := (fun z0 z1 => K [.rw 1, zi z0] [zr1 z1])
abbrev aa100 : List Sh := [zv, .agg [zv, .val [] .bool, .val [] .str, zv, .val [] .bool, .val [(0, 0)] zT2]]
abbrev ab100 : List RSh := []
noncomputable def g100 (k : Nat) (v : Sh.D.DL aa100 × RSh.DL ab100) (K : KT R) : Oq R := f100 k v.1.1 v.1.2.1.1 v.1.2.1.2.1 v.1.2.1.2.2.1 v.1.2.1.2.2.2.1 v.1.2.1.2.2.2.2.1 v.1.2.1.2.2.2.2.2.1 (kt100 K)
noncomputable abbrev E100 := ending T Tryz.f100 an100 0 K
noncomputable def S100 := pickS (R := R) [(63, s63), (88, s88), (95, s95), (111, s111)]
theorem Q1aj : ∀ k, S100 (R := R) k = callC T F k := Q5 ⟨Qsy, Q1je, Q1jf, Q14k, trivial⟩
noncomputable abbrev Qp5 : Oq R := inner T an100 (Q0 F) 0 k 128 (S100 k) (E100 K) Qjr (sh Qd7 ws rs) N X
abbrev Qw6 : List Sh := [zv, .ptr 1 0, .val [] (.int .u8), .val [] (.int .u8), .val [] .bool]
abbrev Qxi : List RSh := [zs1]
noncomputable def Qgc : Oq R :=
 Q6 Qw6 Qxi (fun v => Qaw k (fun p1 => N (sh Q3a [zi v.1.1, .ptr 1 0, .val [] (.int .u8) p1, .val [] (.int .u8) v.1.2.2.2.1] [zr2 v.2.1.1 v.2.1.2.1 v.2.1.2.2.1 v.2.1.2.2.2.1 v.2.1.2.2.2.2.1 v.2.1.2.2.2.2.2.1])) v.1.2.2.1 v.1.2.2.2.2.1) (Qp5 k K ws rs N X) ws rs
noncomputable abbrev Qp6 : Oq R := inner T an100 (Q0 F) 0 k 128 (S100 k) (E100 K) Qjs (sh Qd8 ws rs) N X
abbrev Qw7 : List Sh := [zv, .ptr 1 0, .val [] (.int .u8), .val [] (.int .u8), .val [] .bool]
abbrev Qxj : List RSh := [zs1]
noncomputable def Qgd : Oq R :=
 Q6 Qw7 Qxj (fun v => Qax k (fun p2 => N (sh Q3a [zi v.1.1, .ptr 1 0, .val [] (.int .u8) v.1.2.2.1, .val [] (.int .u8) p2] [zr2 v.2.1.1 v.2.1.2.1 v.2.1.2.2.1 v.2.1.2.2.2.1 v.2.1.2.2.2.2.1 v.2.1.2.2.2.2.2.1])) v.1.2.2.2.1 v.1.2.2.2.2.1) (Qp6 k K ws rs N X) ws rs
noncomputable def L100 : Oq R := bif id == 1000013 then Qgc k K ws rs N X else bif id == 1000015 then Qgd k K ws rs N X else none
theorem Q164 : L100 k K 1000013 ws rs N X = Qp5 k K ws rs N X := by
 show Qgc k K ws rs N X = _
 unfold Qgc
 rw [Q4l]
 exact lC (L100 k K) [] (by kernel_rfl) trivial fun x y => by kernel_rfl
theorem Q165 : L100 k K 1000015 ws rs N X = Qp6 k K ws rs N X := by
 show Qgd k K ws rs N X = _
 unfold Qgd
 rw [Q4m]
 exact lC (L100 k K) [] (by kernel_rfl) trivial fun x y => by kernel_rfl
theorem tu100 : tOk (R := R) 100 aa100 ab100 g100 := by
 intro k x y K
 unfold g100
 rw [Qqx]
 cases k with
 | zero => rfl
 | succ k => exact eS Tryz.f100 an100 0 128 (L100 k K) [(1000013, Qd7, Qjr), (1000015, Qd8, Qjs)] (by kernel_rfl) (Q1aj k) (by kernel_rfl) ⟨Q164 k K, Q165 k K, trivial⟩ (by kernel_rfl)
noncomputable def s100 := onS (R := R) aa100 ab100 g100 (fun k => callC T F k 100)
theorem Q1d3 : sOk (R := R) s100 100 := Qc (fun _ _ _ _ => rfl) tu100
noncomputable abbrev kt132 : Bool → Oq R := (fun z0 => K [.val [] .bool z0] [])
abbrev aa132 : List Sh := [.val [(0, 0)] zT2, .val [(0, 0)] zT2]
abbrev ab132 : List RSh := []
noncomputable def g132 (k : Nat) (v : Sh.D.DL aa132 × RSh.DL ab132) (K : KT R) : Oq R := f132 k v.1.1 v.1.2.1 (kt132 K)
noncomputable abbrev E132 := ending T Tryz.f132 an132 0 K
noncomputable def S132 := pickS (R := R) []
theorem Q1b4 : ∀ k, S132 (R := R) k = callC T F k := Q5 trivial
noncomputable abbrev Qun : Oq R := inner T an132 (Q0 F) 0 k 26 (S132 k) (E132 K) Qzj (sh Q2q ws rs) N X
abbrev Qwx : List Sh := [.val [(0, 0)] zT2, .val [(0, 0)] zT2, zv, zv]
abbrev Qy9 : List RSh := []
noncomputable def Qvs : Oq R :=
 Q6 Qwx Qy9 (fun v => Q10t k (kt132 K) (N (sh Qg [] [])) v.1.1 v.1.2.1 v.1.2.2.1 k v.1.2.2.2.1) (Qun k K ws rs N X) ws rs
noncomputable def L132 : Oq R := bif id == 0 then Qvs k K ws rs N X else none
theorem Q1gz (c0 c1 : LI) (c2 : Int) (m : Nat) : ∀ (c3 : Int),
  iter (atHead an132 0 Qhd) m (fun st N' => exec T an132 (Q0 F) 0 k 26 (S132 k) (E132 K) Qhd st N' (outX an132 0 0 N X)) (sh Q2q [.val [(0, 0)] zT2 c0, .val [(0, 0)] zT2 c1, zi c2, zi c3] []) = Q57 k (kt132 K) (N (sh Qg [] [])) c0 c1 c2 m c3 := by
 induction m with
 | zero => intros; rfl
 | succ m ih =>
   intro c3
   simp only [iter]
   rw [← Q7 T an132 (Q0 F) 0 k 26 (S132 k) (L132 k K) Qhd (Qb _ _ _ _ _ _ _ _ Qhd (l := []) (by kernel_rfl) trivial)]
   have h := fx1 ih
   simp only [Q57]
   rw [← h]
   show _ = _
   kernel_rfl
theorem Q1i1 : L132 k K 0 ws rs N X = Qun k K ws rs N X := by
 show Qvs k K ws rs N X = _
 unfold Qvs
 rw [Qeq]
 exact Q4 (a := Qwx) (b := Qy9) (G := fun ws rs => Qun k K ws rs N X) (fun x y => Eq.trans (by kernel_rfl) (Eq.trans (Q1gz k K N X x.1 x.2.1 x.2.2.1 k x.2.2.2.1).symm (by kernel_rfl))) ws rs
theorem tu132 : tOk (R := R) 132 aa132 ab132 g132 := by
 intro k x y K
 unfold g132
 rw [Qrm]
 cases k with
 | zero => rfl
 | succ k => exact eS Tryz.f132 an132 0 26 (L132 k K) [(0, Q2q, Qzj)] (by kernel_rfl) (Q1b4 k) (by kernel_rfl) ⟨Q1i1 k K, trivial⟩ (by kernel_rfl)
noncomputable def s132 := onS (R := R) aa132 ab132 g132 (fun k => callC T F k 132)
theorem Q1dk : sOk (R := R) s132 132 := Qc (fun _ _ _ _ => rfl) tu132
noncomputable abbrev kt97 : zK0 R := (fun z0 z1 z2 z3 z4 z5 z6 => K [zi z0, .agg [zi z1, .val [] .bool z2, .val [] .str z3, zi z4, .val [] .bool z5, .rw 1]] [zr1 z6])
abbrev aa97 : List Sh := [.val [(0, 0)] zT2]
abbrev ab97 : List RSh := []
noncomputable def g97 (k : Nat) (v : Sh.D.DL aa97 × RSh.DL ab97) (K : KT R) : Oq R := f97 k v.1.1 (kt97 K)
noncomputable def S97 := pickS (R := R) [(83, s83), (98, s98), (99, s99), (100, s100), (132, s132)]
theorem Q1f7 : ∀ k, S97 (R := R) k = callC T F k := Q5 ⟨Q1jc, Q1ag, Q1ah, Q1d3, Q1dk, trivial⟩
theorem tu97 : tOk (R := R) 97 aa97 ab97 g97 := by
 intro k x y K
 unfold g97
 rw [Q131]
 cases k with
 | zero => rfl
 | succ k => exact eS Tryz.f97 an97 0 99 L0 [] (by kernel_rfl) (Q1f7 k) (by kernel_rfl) trivial (by kernel_rfl)
noncomputable def s97 := onS (R := R) aa97 ab97 g97 (fun k => callC T F k 97)
theorem Q1jh : sOk (R := R) s97 97 := Qc (fun _ _ _ _ => rfl) tu97
noncomputable abbrev kt46 : zK1 R := (fun z0 z1 z2 z3 z4 z5 z6 z7 z8 => K [.agg [zi z0, zi z1, zi z2, .val [(0, 0)] zT2 z3, .val [(0, 0)] zP1 z4, .val [(0, 0)] zP1 z5, .rw 1, .rw 2, zi z6]] [zr3 z7, zr4 z8])
abbrev aa46 : List Sh := [.agg [zv, zv, zv, .val [(0, 0)] zT2, .val [(0, 0)] zP1, .val [(0, 0)] zP1]]
abbrev ab46 : List RSh := []
noncomputable def g46 (k : Nat) (v : Sh.D.DL aa46 × RSh.DL ab46) (K : KT R) : Oq R := f46 k v.1.1.1 v.1.1.2.1 v.1.1.2.2.1 v.1.1.2.2.2.1 v.1.1.2.2.2.2.1 v.1.1.2.2.2.2.2.1 (kt46 K)
noncomputable abbrev E46 := ending T Tryz.f46 an46 0 K
noncomputable def S46 := pickS (R := R) [(84, s84), (96, s96), (97, s97), (98, s98), (99, s99)]
theorem Q1eg : ∀ k, S46 (R := R) k = callC T F k := Q5 ⟨Q1jd, Q1jg, Q1jh, Q1ag, Q1ah, trivial⟩
noncomputable abbrev Qv1 : Oq R := inner T an46 (Q0 F) 0 k 83 (S46 k) (E46 K) Qqh (sh Qj7 ws rs) N X
abbrev Q15a : List Sh := [.ptr 1 0, .ptr 2 0, .ptr 3 0, .rw 6, zv, .val [(0, 0)] zT2, zv, .ptr 7 0, zv, zv, .val [] .bool]
abbrev Q15j : List RSh := [zs0, zs2, zs3, .arr [] (.int .i64), .arr [] zP0, .mp 0 [] zP4 .bool false, .vars [zv, .val [] .bool, .val [] .str, zv, .val [] .bool, .rw 8], .arr [] (.int .u8)]
noncomputable def Qn3 : Oq R :=
 Q6 Q15a Q15j (fun v => let u0 := v.1.2.2.2.2.2.2.2; let u1 := v.2.2.1.2.2.2.2.2.2.2; let u2 := v.2.2.2.1.2.2.2.2.2.2.2; let u3 := v.2.2.2.2.2.2.2; Qif k (fun p20 => N (sh Q134 [.ptr 1 0, .ptr 2 0, .ptr 3 0, .rw 6, zi v.1.2.2.2.2.1, zi v.1.2.2.2.2.2.2.1, .ptr 7 0, zi u0.2.1, zi u0.2.2.1] [zr0 v.2.1.1 v.2.1.2.1 v.2.1.2.2.1 v.2.1.2.2.2.1 v.2.1.2.2.2.2.1 v.2.1.2.2.2.2.2.1, zr5 v.2.2.1.1 v.2.2.1.2.1 v.2.2.1.2.2.1 u1.2.1, zr6 v.2.2.2.1.1 v.2.2.2.1.2.1 v.2.2.2.1.2.2.1 v.2.2.2.1.2.2.2.1 v.2.2.2.1.2.2.2.2.1 v.2.2.2.1.2.2.2.2.2.1 p20, zr3 v.2.2.2.2.1, zr4 v.2.2.2.2.2.1, ⟨0, .mp 0 [] zP4 .bool false v.2.2.2.2.2.2.1 none⟩, ⟨0, .vars [zi u3.1.1, .val [] .bool u3.1.2.1, .val [] .str u3.1.2.2.1, zi u3.1.2.2.2.1, .val [] .bool u3.1.2.2.2.2.1, .rw 8]⟩, zr1 u3.2.1])) v.1.2.2.2.2.2.1 u0.2.2.2.1 u2.2.1) (Qv1 k K ws rs N X) ws rs
noncomputable abbrev Qv2 : Oq R := inner T an46 (Q0 F) 0 k 83 (S46 k) (E46 K) Qqi (sh Qj8 ws rs) N X
abbrev Q15b : List Sh := [.ptr 1 0, .ptr 2 0, .ptr 3 0, .rw 6, zv, .ptr 7 0, .ptr 9 0, zv, zv, .val [] .bool]
abbrev Q15k : List RSh := [zs0, zs2, zs3, .arr [] (.int .i64), .arr [] zP0, .mp 0 [] zP4 .bool false, .vars [zv, .val [] .bool, .val [] .str, zv, .val [] .bool, .rw 8], .arr [] (.int .u8), .vars [zv, .val [] .str]]
noncomputable def Qn4 : Oq R :=
 Q6 Q15b Q15k (fun v => let u0 := v.1.2.2.2.2.2.2.2; let u1 := v.2.2.1.2.2.2.2.2.2.2; let u2 := v.2.2.2.1.2.2.2.2.2.2.2; let u3 := v.2.2.2.2.2.2.2; Qig k (fun p20 p21 => N (sh Qsj [.ptr 1 0, .ptr 2 0, .ptr 3 0, .rw 6, zi v.1.2.2.2.2.2.2.2.1, zi u0.2.1] [zr0 v.2.1.1 v.2.1.2.1 v.2.1.2.2.1 v.2.1.2.2.2.1 v.2.1.2.2.2.2.1 v.2.1.2.2.2.2.2.1, zr5 v.2.2.1.1 v.2.2.1.2.1 v.2.2.1.2.2.1 u1.2.1, zr6 v.2.2.2.1.1 v.2.2.2.1.2.1 v.2.2.2.1.2.2.1 v.2.2.2.1.2.2.2.1 v.2.2.2.1.2.2.2.2.1 v.2.2.2.1.2.2.2.2.2.1 u2.2.1, zr3 v.2.2.2.2.1, zr4 p20, ⟨0, .mp 0 [] zP4 .bool false p21 none⟩])) v.1.2.2.2.2.1 u0.2.2.1 v.2.2.2.2.2.1 v.2.2.2.2.2.2.1 u3.1.1 u3.1.2.1 u3.1.2.2.1 u3.1.2.2.2.1 u3.1.2.2.2.2.1 u3.2.1 u3.2.2.1.1 u3.2.2.1.2.1) (Qv2 k K ws rs N X) ws rs
noncomputable abbrev I46_1 : Oq R := inner T an46 (Q0 F) 0 k 83 (S46 k) (E46 K) Q197 (sh Q14u ws rs) N X
abbrev Q1fa : List Sh := [.ptr 1 0, .ptr 2 0, .ptr 3 0, .rw 6, zv, zv]
abbrev Q1fh : List RSh := [zs0, zs2, zs3, .arr [] (.int .i64), .arr [] zP0, .mp 0 [] zP4 .bool false]
noncomputable def L46_1 : Oq R :=
 Q6 Q1fa Q1fh (fun v => let u0 := v.2.2.1.2.2.2.2.2.2.2; let u1 := v.2.2.2.1.2.2.2.2.2.2.2; f46_1 k (fun p18 p19 p20 p21 => N (sh Qsj [.ptr 1 0, .ptr 2 0, .ptr 3 0, .rw 6, zi v.1.2.2.2.2.1, zi v.1.2.2.2.2.2.1] [zr0 v.2.1.1 v.2.1.2.1 v.2.1.2.2.1 v.2.1.2.2.2.1 v.2.1.2.2.2.2.1 v.2.1.2.2.2.2.2.1, zr5 v.2.2.1.1 v.2.2.1.2.1 v.2.2.1.2.2.1 u0.2.1, zr6 v.2.2.2.1.1 v.2.2.2.1.2.1 v.2.2.2.1.2.2.1 v.2.2.2.1.2.2.2.1 v.2.2.2.1.2.2.2.2.1 v.2.2.2.1.2.2.2.2.2.1 p18, zr3 p19, zr4 p20, ⟨0, .mp 0 [] zP4 .bool false p21 none⟩])) v.1.2.2.2.2.2.1 v.2.1.1 v.2.1.2.1 v.2.1.2.2.1 v.2.1.2.2.2.1 v.2.1.2.2.2.2.1 v.2.1.2.2.2.2.2.1 u1.2.1 v.2.2.2.2.1 v.2.2.2.2.2.1 v.2.2.2.2.2.2.1) (I46_1 k K ws rs N X) ws rs
noncomputable abbrev I46_0 : Oq R := inner T an46 (Q0 F) 0 k 83 (S46 k) (E46 K) Q196 (sh Qmm ws rs) N X
abbrev Q17q : List Sh := [.ptr 1 0, .ptr 2 0, .ptr 3 0, .rw 6, zv, zv]
abbrev Q18g : List RSh := [zs0, zs2, zs3, .arr [] (.int .i64), .arr [] zP0, .mp 0 [] zP4 .bool false]
noncomputable def L46_0 : Oq R :=
 Q6 Q17q Q18g (fun v => let u0 := v.2.2.1.2.2.2.2.2.2.2; let u1 := v.2.2.2.1.2.2.2.2.2.2.2; f46_0 k (fun p10 p11 p12 => N (sh Q13l [.ptr 1 0, .ptr 2 0] [zr5 v.2.2.1.1 v.2.2.1.2.1 v.2.2.1.2.2.1 u0.2.1, ⟨0, .vars [zi v.2.2.2.1.1, zi v.2.2.2.1.2.1, zi v.2.2.2.1.2.2.1, .val [(0, 0)] zT2 v.2.2.2.1.2.2.2.1, .val [(0, 0)] zP1 v.2.2.2.1.2.2.2.2.1, .val [(0, 0)] zP1 v.2.2.2.1.2.2.2.2.2.1, .rw 3, .rw 4, zi p10]⟩, zr3 p11, zr4 p12])) v.1.2.2.2.2.1 v.2.1.1 v.2.1.2.1 v.2.1.2.2.1 v.2.1.2.2.2.1 v.2.1.2.2.2.2.1 v.2.1.2.2.2.2.2.1 v.2.2.1.1 v.2.2.1.2.1 v.2.2.1.2.2.1 u0.2.1 v.2.2.2.1.1 v.2.2.2.1.2.1 v.2.2.2.1.2.2.1 v.2.2.2.1.2.2.2.1 v.2.2.2.1.2.2.2.2.1 v.2.2.2.1.2.2.2.2.2.1 k v.1.2.2.2.2.2.1 u1.2.1 v.2.2.2.2.1 v.2.2.2.2.2.1 v.2.2.2.2.2.2.1) (I46_0 k K ws rs N X) ws rs
noncomputable def L46 : Oq R := bif id == 1000012 then Qn3 k K ws rs N X else bif id == 1000015 then Qn4 k K ws rs N X else bif id == 1 then L46_1 k K ws rs N X else bif id == 0 then L46_0 k K ws rs N X else none
theorem Q1ch : L46 k K 1000012 ws rs N X = Qv1 k K ws rs N X := by
 show Qn3 k K ws rs N X = _
 unfold Qn3
 rw [Qbx]
 exact lC (L46 k K) [] (by kernel_rfl) trivial fun x y => by kernel_rfl
theorem Q1ci : L46 k K 1000015 ws rs N X = Qv2 k K ws rs N X := by
 show Qn4 k K ws rs N X = _
 unfold Qn4
 rw [Qby]
 exact lC (L46 k K) [] (by kernel_rfl) trivial fun x y => by kernel_rfl
theorem l46_1 : L46 k K 1 ws rs N X = I46_1 k K ws rs N X := by
 show L46_1 k K ws rs N X = _
 unfold L46_1
 rw [Qbw]
 exact lC (L46 k K) [(1000012, Qj7, Qqh), (1000015, Qj8, Qqi)] (by kernel_rfl) ⟨Q1ch k K, Q1ci k K, trivial⟩ fun x y => by kernel_rfl
theorem i46_0 (c0 c2 c3 c4 : Int) (c5 c6 c7 : LI) (c8 c9 c10 c11 c12 c13 c14 : Int) (c15 c16 c17 : LI) (m : Nat) : ∀ (c1 c18 : Int) (c19 : LI) (c20 : zL2) (c21 : List ((Int × (BA × Unit)) × Bool)),
  iter (atHead an46 0 Qpu) m (fun st N' => exec T an46 (Q0 F) 0 k 83 (S46 k) (E46 K) Qpu st N' (outX an46 0 0 N X)) (sh Qmm [.ptr 1 0, .ptr 2 0, .ptr 3 0, .rw 6, zi c0, zi c1] [zr0 c2 c3 c4 c5 c6 c7, zr5 c8 c9 c10 c11, zr6 c12 c13 c14 c15 c16 c17 c18, zr3 c19, zr4 c20, ⟨0, .mp 0 [] zP4 .bool false c21 none⟩]) = Qa7 k (fun p10 p11 p12 => N (sh Q13l [.ptr 1 0, .ptr 2 0] [zr5 c8 c9 c10 c11, ⟨0, .vars [zi c12, zi c13, zi c14, .val [(0, 0)] zT2 c15, .val [(0, 0)] zP1 c16, .val [(0, 0)] zP1 c17, .rw 3, .rw 4, zi p10]⟩, zr3 p11, zr4 p12])) c0 c2 c3 c4 c5 c6 c7 c8 c9 c10 c11 c12 c13 c14 c15 c16 c17 m c1 c18 c19 c20 c21 := by
 induction m with
 | zero => intros; rfl
 | succ m ih =>
   intro c1 c18 c19 c20 c21
   simp only [iter]
   rw [← Q7 T an46 (Q0 F) 0 k 83 (S46 k) (L46 k K) Qpu (Qb _ _ _ _ _ _ _ _ Qpu (l := [(1, Q14u, Q197)]) (by kernel_rfl) ⟨l46_1 k K, trivial⟩)]
   have h := fx5 ih
   simp only [Qa7]
   rw [← h]
   show _ = _
   kernel_rfl
theorem l46_0 : L46 k K 0 ws rs N X = I46_0 k K ws rs N X := by
 show L46_0 k K ws rs N X = _
 unfold L46_0
 rw [Qkn]
 exact Q4 (a := Q17q) (b := Q18g) (G := fun ws rs => I46_0 k K ws rs N X) (fun x y => Eq.trans (by kernel_rfl) (Eq.trans (i46_0 k K N X x.2.2.2.2.1 y.1.1 y.1.2.1 y.1.2.2.1 y.1.2.2.2.1 y.1.2.2.2.2.1 y.1.2.2.2.2.2.1 y.2.1.1 y.2.1.2.1 y.2.1.2.2.1 y.2.1.2.2.2.2.2.2.2.2.1 y.2.2.1.1 y.2.2.1.2.1 y.2.2.1.2.2.1 y.2.2.1.2.2.2.1 y.2.2.1.2.2.2.2.1 y.2.2.1.2.2.2.2.2.1 k x.2.2.2.2.2.1 y.2.2.1.2.2.2.2.2.2.2.2.1 y.2.2.2.1 y.2.2.2.2.1 y.2.2.2.2.2.1).symm (by kernel_rfl))) ws rs
theorem tu46 : tOk (R := R) 46 aa46 ab46 g46 := by
 intro k x y K
 unfold g46
 rw [Q11l]
 cases k with
 | zero => rfl
 | succ k => exact eS Tryz.f46 an46 0 83 (L46 k K) [(0, Qmm, Q196)] (by kernel_rfl) (Q1eg k) (by kernel_rfl) ⟨l46_0 k K, trivial⟩ (by kernel_rfl)
noncomputable def s46 := onS (R := R) aa46 ab46 g46 (fun k => callC T F k 46)
theorem Q14p : sOk (R := R) s46 46 := Qc (fun _ _ _ _ => rfl) tu46
noncomputable abbrev kt17 : Int → LI → Oq R := (fun z0 z1 => K [.rw 1, zi z0] [zr3 z1])
abbrev aa17 : List Sh := [.agg [zv, zv, zv, .val [(0, 0)] zT2, .val [(0, 0)] zP1, .val [(0, 0)] zP1]]
abbrev ab17 : List RSh := []
noncomputable def g17 (k : Nat) (v : Sh.D.DL aa17 × RSh.DL ab17) (K : KT R) : Oq R := f17 k v.1.1.1 v.1.1.2.1 v.1.1.2.2.1 v.1.1.2.2.2.1 v.1.1.2.2.2.2.1 v.1.1.2.2.2.2.2.1 (kt17 K)
noncomputable def S17 := pickS (R := R) [(19, s19), (46, s46)]
theorem Q1e6 : ∀ k, S17 (R := R) k = callC T F k := Q5 ⟨Qsv, Q14p, trivial⟩
theorem tu17 : tOk (R := R) 17 aa17 ab17 g17 := by
 intro k x y K
 unfold g17
 rw [Q113]
 cases k with
 | zero => rfl
 | succ k => exact eS Tryz.f17 an17 0 13 L0 [] (by kernel_rfl) (Q1e6 k) (by kernel_rfl) trivial (by kernel_rfl)
noncomputable def s17 := onS (R := R) aa17 ab17 g17 (fun k => callC T F k 17)
theorem Q1io : sOk (R := R) s17 17 := Qc (fun _ _ _ _ => rfl) tu17
noncomputable abbrev kt66 : Bool → Oq R := (fun z0 => K [.val [] .bool z0] [])
abbrev aa66 : List Sh := [zv, zv, zv]
abbrev ab66 : List RSh := []
noncomputable def g66 (k : Nat) (v : Sh.D.DL aa66 × RSh.DL ab66) (K : KT R) : Oq R := f66 k v.1.1 v.1.2.1 v.1.2.2.1 (kt66 K)
noncomputable def S66 := pickS (R := R) []
theorem Q1es : ∀ k, S66 (R := R) k = callC T F k := Q5 trivial
theorem tu66 : tOk (R := R) 66 aa66 ab66 g66 := by
 intro k x y K
 unfold g66
 rw [Q123]
 cases k with
 | zero => rfl
 | succ k => exact eS Tryz.f66 an66 0 15 L0 [] (by kernel_rfl) (Q1es k) (by kernel_rfl) trivial (by kernel_rfl)
noncomputable def s66 := onS (R := R) aa66 ab66 g66 (fun k => callC T F k 66)
theorem Qsz : sOk (R := R) s66 66 := Qc (fun _ _ _ _ => rfl) tu66
noncomputable abbrev kt65 : Int → Oq R := (fun z0 => K [zi z0] [])
abbrev aa65 : List Sh := [.agg [zv, zv, zv, .val [(0, 0)] zT2, .val [(0, 0)] zP1, .val [(0, 0)] zP1]]
abbrev ab65 : List RSh := []
noncomputable def g65 (k : Nat) (v : Sh.D.DL aa65 × RSh.DL ab65) (K : KT R) : Oq R := f65 k v.1.1.1 v.1.1.2.1 v.1.1.2.2.1 v.1.1.2.2.2.1 v.1.1.2.2.2.2.1 v.1.1.2.2.2.2.2.1 (kt65 K)
noncomputable def S65 := pickS (R := R) [(66, s66)]
theorem Q1er : ∀ k, S65 (R := R) k = callC T F k := Q5 ⟨Qsz, trivial⟩
theorem tu65 : tOk (R := R) 65 aa65 ab65 g65 := by
 intro k x y K
 unfold g65
 rw [Q122]
 cases k with
 | zero => rfl
 | succ k => exact eS Tryz.f65 an65 0 28 L0 [] (by kernel_rfl) (Q1er k) (by kernel_rfl) trivial (by kernel_rfl)
noncomputable def s65 := onS (R := R) aa65 ab65 g65 (fun k => callC T F k 65)
theorem Q1j3 : sOk (R := R) s65 65 := Qc (fun _ _ _ _ => rfl) tu65
noncomputable abbrev kt20 : Int → Oq R := (fun z0 => K [zi z0] [])
abbrev aa20 : List Sh := [.agg [zv, zv, zv, .val [(0, 0)] zT2, .val [(0, 0)] zP1, .val [(0, 0)] zP1]]
abbrev ab20 : List RSh := []
noncomputable def g20 (k : Nat) (v : Sh.D.DL aa20 × RSh.DL ab20) (K : KT R) : Oq R := f20 k v.1.1.1 v.1.1.2.1 v.1.1.2.2.1 v.1.1.2.2.2.1 v.1.1.2.2.2.2.1 v.1.1.2.2.2.2.2.1 (kt20 K)
noncomputable abbrev E20 := ending T Tryz.f20 an20 0 K
noncomputable def S20 := pickS (R := R) [(65, s65), (66, s66)]
theorem Q1e9 : ∀ k, S20 (R := R) k = callC T F k := Q5 ⟨Q1j3, Qsz, trivial⟩
noncomputable abbrev I20_0 : Oq R := inner T an20 (Q0 F) 0 k 78 (S20 k) (E20 K) Q193 (sh Qfw ws rs) N X
abbrev Q17n : List Sh := [.ptr 1 0, zv]
abbrev Q18d : List RSh := [zs0]
noncomputable def L20_0 : Oq R :=
 Q6 Q17n Q18d (fun v => f20_0 k (kt20 K) (N (sh Qf8 [.ptr 1 0] [zr0 v.2.1.1 v.2.1.2.1 v.2.1.2.2.1 v.2.1.2.2.2.1 v.2.1.2.2.2.2.1 v.2.1.2.2.2.2.2.1])) v.2.1.1 v.2.1.2.1 v.2.1.2.2.1 v.2.1.2.2.2.1 v.2.1.2.2.2.2.1 v.2.1.2.2.2.2.2.1 k v.1.2.1) (I20_0 k K ws rs N X) ws rs
noncomputable abbrev I20_2 : Oq R := inner T an20 (Q0 F) 0 k 78 (S20 k) (E20 K) Q194 (sh Qfx ws rs) N X
abbrev Q17o : List Sh := [.ptr 1 0, zv]
abbrev Q18e : List RSh := [zs0]
noncomputable def L20_2 : Oq R :=
 Q6 Q17o Q18e (fun v => f20_2 k (kt20 K) (N (sh Qg [] [])) v.2.1.1 v.2.1.2.1 v.2.1.2.2.1 v.2.1.2.2.2.1 v.2.1.2.2.2.2.1 v.2.1.2.2.2.2.2.1 k v.1.2.1) (I20_2 k K ws rs N X) ws rs
noncomputable def L20 : Oq R := bif id == 0 then L20_0 k K ws rs N X else bif id == 2 then L20_2 k K ws rs N X else none
theorem i20_0 (c1 c2 c3 : Int) (c4 c5 c6 : LI) (m : Nat) : ∀ (c0 : Int),
  iter (atHead an20 0 Qpr) m (fun st N' => exec T an20 (Q0 F) 0 k 78 (S20 k) (E20 K) Qpr st N' (outX an20 0 0 N X)) (sh Qfw [.ptr 1 0, zi c0] [zr0 c1 c2 c3 c4 c5 c6]) = Qa4 k (kt20 K) (N (sh Qf8 [.ptr 1 0] [zr0 c1 c2 c3 c4 c5 c6])) c1 c2 c3 c4 c5 c6 m c0 := by
 induction m with
 | zero => intros; rfl
 | succ m ih =>
   intro c0
   simp only [iter]
   rw [← Q7 T an20 (Q0 F) 0 k 78 (S20 k) (L20 k K) Qpr (Qb _ _ _ _ _ _ _ _ Qpr (l := []) (by kernel_rfl) trivial)]
   have h := fx1 ih
   simp only [Qa4]
   rw [← h]
   show _ = _
   kernel_rfl
theorem l20_0 : L20 k K 0 ws rs N X = I20_0 k K ws rs N X := by
 show L20_0 k K ws rs N X = _
 unfold L20_0
 rw [Qkk]
 exact Q4 (a := Q17n) (b := Q18d) (G := fun ws rs => I20_0 k K ws rs N X) (fun x y => Eq.trans (by kernel_rfl) (Eq.trans (i20_0 k K N X y.1.1 y.1.2.1 y.1.2.2.1 y.1.2.2.2.1 y.1.2.2.2.2.1 y.1.2.2.2.2.2.1 k x.2.1).symm (by kernel_rfl))) ws rs
theorem i20_2 (c1 c2 c3 : Int) (c4 c5 c6 : LI) (m : Nat) : ∀ (c0 : Int),
  iter (atHead an20 0 Qps) m (fun st N' => exec T an20 (Q0 F) 0 k 78 (S20 k) (E20 K) Qps st N' (outX an20 0 2 N X)) (sh Qfx [.ptr 1 0, zi c0] [zr0 c1 c2 c3 c4 c5 c6]) = Qa5 k (kt20 K) (N (sh Qg [] [])) c1 c2 c3 c4 c5 c6 m c0 := by
 induction m with
 | zero => intros; rfl
 | succ m ih =>
   intro c0
   simp only [iter]
   rw [← Q7 T an20 (Q0 F) 0 k 78 (S20 k) (L20 k K) Qps (Qb _ _ _ _ _ _ _ _ Qps (l := []) (by kernel_rfl) trivial)]
   have h := fx1 ih
   simp only [Qa5]
   rw [← h]
   show _ = _
   kernel_rfl
theorem l20_2 : L20 k K 2 ws rs N X = I20_2 k K ws rs N X := by
 show L20_2 k K ws rs N X = _
 unfold L20_2
 rw [Qkl]
 exact Q4 (a := Q17o) (b := Q18e) (G := fun ws rs => I20_2 k K ws rs N X) (fun x y => Eq.trans (by kernel_rfl) (Eq.trans (i20_2 k K N X y.1.1 y.1.2.1 y.1.2.2.1 y.1.2.2.2.1 y.1.2.2.2.2.1 y.1.2.2.2.2.2.1 k x.2.1).symm (by kernel_rfl))) ws rs
theorem tu20 : tOk (R := R) 20 aa20 ab20 g20 := by
 intro k x y K
 unfold g20
 rw [Q11c]
 cases k with
 | zero => rfl
 | succ k => exact eS Tryz.f20 an20 0 78 (L20 k K) [(0, Qfw, Q193), (2, Qfx, Q194)] (by kernel_rfl) (Q1e9 k) (by kernel_rfl) ⟨l20_0 k K, l20_2 k K, trivial⟩ (by kernel_rfl)
noncomputable def s20 := onS (R := R) aa20 ab20 g20 (fun k => callC T F k 20)
theorem Qsw : sOk (R := R) s20 20 := Qc (fun _ _ _ _ => rfl) tu20
noncomputable abbrev kt60 : Int → Oq R := (fun z0 => K [zi z0] [])
abbrev aa60 : List Sh := [.agg [zv, zv, zv, .val [(0, 0)] zT2, .val [(0, 0)] zP1, .val [(0, 0)] zP1]]
abbrev ab60 : List RSh := []
noncomputable def g60 (k : Nat) (v : Sh.D.DL aa60 × RSh.DL ab60) (K : KT R) : Oq R := f60 k v.1.1.1 v.1.1.2.1 v.1.1.2.2.1 v.1.1.2.2.2.1 v.1.1.2.2.2.2.1 v.1.1.2.2.2.2.2.1 (kt60 K)
noncomputable def S60 := pickS (R := R) []
theorem Q1em : ∀ k, S60 (R := R) k = callC T F k := Q5 trivial
theorem tu60 : tOk (R := R) 60 aa60 ab60 g60 := by
 intro k x y K
 unfold g60
 rw [Q11w]
 cases k with
 | zero => rfl
 | succ k => exact eS Tryz.f60 an60 0 8 L0 [] (by kernel_rfl) (Q1em k) (by kernel_rfl) trivial (by kernel_rfl)
noncomputable def s60 := onS (R := R) aa60 ab60 g60 (fun k => callC T F k 60)
theorem Qsx : sOk (R := R) s60 60 := Qc (fun _ _ _ _ => rfl) tu60
noncomputable abbrev kt101 : Bool → Oq R := (fun z0 => K [.val [] .bool z0] [])
abbrev aa101 : List Sh := [.agg [zv, zv, zv, .val [(0, 0)] zT2, .val [(0, 0)] zP1, .val [(0, 0)] zP1], zv]
abbrev ab101 : List RSh := []
noncomputable def g101 (k : Nat) (v : Sh.D.DL aa101 × RSh.DL ab101) (K : KT R) : Oq R := f101 k v.1.1.1 v.1.1.2.1 v.1.1.2.2.1 v.1.1.2.2.2.1 v.1.1.2.2.2.2.1 v.1.1.2.2.2.2.2.1 v.1.2.1 (kt101 K)
noncomputable abbrev E101 := ending T Tryz.f101 an101 0 K
noncomputable def S101 := pickS (R := R) []
theorem Q1ak : ∀ k, S101 (R := R) k = callC T F k := Q5 trivial
noncomputable abbrev Qu5 : Oq R := inner T an101 (Q0 F) 0 k 20 (S101 k) (E101 K) Qz1 (sh Q9b ws rs) N X
abbrev Qw8 : List Sh := [zv, .ptr 1 0, zv]
abbrev Qxk : List RSh := [zs0]
noncomputable def Qva : Oq R :=
 Q6 Qw8 Qxk (fun v => Q106 k (kt101 K) (N (sh Qg [] [])) v.1.1 v.2.1.1 v.2.1.2.1 v.2.1.2.2.1 v.2.1.2.2.2.1 v.2.1.2.2.2.2.1 v.2.1.2.2.2.2.2.1 k v.1.2.2.1) (Qu5 k K ws rs N X) ws rs
noncomputable def L101 : Oq R := bif id == 0 then Qva k K ws rs N X else none
theorem Q1gh (c0 c2 c3 c4 : Int) (c5 c6 c7 : LI) (m : Nat) : ∀ (c1 : Int),
  iter (atHead an101 0 Qgv) m (fun st N' => exec T an101 (Q0 F) 0 k 20 (S101 k) (E101 K) Qgv st N' (outX an101 0 0 N X)) (sh Q9b [zi c0, .ptr 1 0, zi c1] [zr0 c2 c3 c4 c5 c6 c7]) = Q4n k (kt101 K) (N (sh Qg [] [])) c0 c2 c3 c4 c5 c6 c7 m c1 := by
 induction m with
 | zero => intros; rfl
 | succ m ih =>
   intro c1
   simp only [iter]
   rw [← Q7 T an101 (Q0 F) 0 k 20 (S101 k) (L101 k K) Qgv (Qb _ _ _ _ _ _ _ _ Qgv (l := []) (by kernel_rfl) trivial)]
   have h := fx1 ih
   simp only [Q4n]
   rw [← h]
   show _ = _
   kernel_rfl
theorem Q1hj : L101 k K 0 ws rs N X = Qu5 k K ws rs N X := by
 show Qva k K ws rs N X = _
 unfold Qva
 rw [Qe8]
 exact Q4 (a := Qw8) (b := Qxk) (G := fun ws rs => Qu5 k K ws rs N X) (fun x y => Eq.trans (by kernel_rfl) (Eq.trans (Q1gh k K N X x.1 y.1.1 y.1.2.1 y.1.2.2.1 y.1.2.2.2.1 y.1.2.2.2.2.1 y.1.2.2.2.2.2.1 k x.2.2.1).symm (by kernel_rfl))) ws rs
theorem tu101 : tOk (R := R) 101 aa101 ab101 g101 := by
 intro k x y K
 unfold g101
 rw [Qqy]
 cases k with
 | zero => rfl
 | succ k => exact eS Tryz.f101 an101 0 20 (L101 k K) [(0, Q9b, Qz1)] (by kernel_rfl) (Q1ak k) (by kernel_rfl) ⟨Q1hj k K, trivial⟩ (by kernel_rfl)
noncomputable def s101 := onS (R := R) aa101 ab101 g101 (fun k => callC T F k 101)
theorem Q14h : sOk (R := R) s101 101 := Qc (fun _ _ _ _ => rfl) tu101
noncomputable abbrev kt90 : LI → Oq R := (fun z0 => K [.val [(0, 0)] zT2 z0] [])
abbrev aa90 : List Sh := [.agg [zv, zv, zv, .val [(0, 0)] zT2, .val [(0, 0)] zP1, .val [(0, 0)] zP1], zv]
abbrev ab90 : List RSh := []
noncomputable def g90 (k : Nat) (v : Sh.D.DL aa90 × RSh.DL ab90) (K : KT R) : Oq R := f90 k v.1.1.1 v.1.1.2.1 v.1.1.2.2.1 v.1.1.2.2.2.1 v.1.1.2.2.2.2.1 v.1.1.2.2.2.2.2.1 v.1.2.1 (kt90 K)
noncomputable def S90 := pickS (R := R) []
theorem Q1f4 : ∀ k, S90 (R := R) k = callC T F k := Q5 trivial
theorem tu90 : tOk (R := R) 90 aa90 ab90 g90 := by
 intro k x y K
 unfold g90
 rw [Q12y]
 cases k with
 | zero => rfl
 | succ k => exact eS Tryz.f90 an90 0 17 L0 [] (by kernel_rfl) (Q1f4 k) (by kernel_rfl) trivial (by kernel_rfl)
noncomputable def s90 := onS (R := R) aa90 ab90 g90 (fun k => callC T F k 90)
theorem Q1af : sOk (R := R) s90 90 := Qc (fun _ _ _ _ => rfl) tu90
noncomputable abbrev kt102 : Bool → Oq R := (fun z0 => K [.val [] .bool z0] [])
abbrev aa102 : List Sh := [.val [(0, 0)] zT2]
abbrev ab102 : List RSh := []
noncomputable def g102 (k : Nat) (v : Sh.D.DL aa102 × RSh.DL ab102) (K : KT R) : Oq R := f102 k v.1.1 (kt102 K)
noncomputable abbrev E102 := ending T Tryz.f102 an102 0 K
noncomputable def S102 := pickS (R := R) []
theorem Q1al : ∀ k, S102 (R := R) k = callC T F k := Q5 trivial
noncomputable abbrev Qu6 : Oq R := inner T an102 (Q0 F) 0 k 15 (S102 k) (E102 K) Qz2 (sh Qr ws rs) N X
abbrev Qw9 : List Sh := [.val [(0, 0)] zT2, zv]
abbrev Qxl : List RSh := []
noncomputable def Qvb : Oq R :=
 Q6 Qw9 Qxl (fun v => Q108 k (kt102 K) (N (sh Qg [] [])) v.1.1 k v.1.2.1) (Qu6 k K ws rs N X) ws rs
noncomputable def L102 : Oq R := bif id == 0 then Qvb k K ws rs N X else none
theorem Q1gi (c0 : LI) (m : Nat) : ∀ (c1 : Int),
  iter (atHead an102 0 Qgw) m (fun st N' => exec T an102 (Q0 F) 0 k 15 (S102 k) (E102 K) Qgw st N' (outX an102 0 0 N X)) (sh Qr [.val [(0, 0)] zT2 c0, zi c1] []) = Q4o k (kt102 K) (N (sh Qg [] [])) c0 m c1 := by
 induction m with
 | zero => intros; rfl
 | succ m ih =>
   intro c1
   simp only [iter]
   rw [← Q7 T an102 (Q0 F) 0 k 15 (S102 k) (L102 k K) Qgw (Qb _ _ _ _ _ _ _ _ Qgw (l := []) (by kernel_rfl) trivial)]
   have h := fx1 ih
   simp only [Q4o]
   rw [← h]
   show _ = _
   kernel_rfl
theorem Q1hk : L102 k K 0 ws rs N X = Qu6 k K ws rs N X := by
 show Qvb k K ws rs N X = _
 unfold Qvb
 rw [Qe9]
 exact Q4 (a := Qw9) (b := Qxl) (G := fun ws rs => Qu6 k K ws rs N X) (fun x y => Eq.trans (by kernel_rfl) (Eq.trans (Q1gi k K N X x.1 k x.2.1).symm (by kernel_rfl))) ws rs
theorem tu102 : tOk (R := R) 102 aa102 ab102 g102 := by
 intro k x y K
 unfold g102
 rw [Qqz]
 cases k with
 | zero => rfl
 | succ k => exact eS Tryz.f102 an102 0 15 (L102 k K) [(0, Qr, Qz2)] (by kernel_rfl) (Q1al k) (by kernel_rfl) ⟨Q1hk k K, trivial⟩ (by kernel_rfl)
noncomputable def s102 := onS (R := R) aa102 ab102 g102 (fun k => callC T F k 102)
theorem Q1d4 : sOk (R := R) s102 102 := Qc (fun _ _ _ _ => rfl) tu102
noncomputable abbrev kt103 : Int → Oq R := (fun z0 => K [zi z0] [])
abbrev aa103 : List Sh := [.val [(0, 0)] zT2, zv]
abbrev ab103 : List RSh := []
noncomputable def g103 (k : Nat) (v : Sh.D.DL aa103 × RSh.DL ab103) (K : KT R) : Oq R := f103 k v.1.1 v.1.2.1 (kt103 K)
noncomputable def S103 := pickS (R := R) []
theorem Q1am : ∀ k, S103 (R := R) k = callC T F k := Q5 trivial
theorem tu103 : tOk (R := R) 103 aa103 ab103 g103 := by
 intro k x y K
 unfold g103
 rw [Qr0]
 cases k with
 | zero => rfl
 | succ k => exact eS Tryz.f103 an103 0 18 L0 [] (by kernel_rfl) (Q1am k) (by kernel_rfl) trivial (by kernel_rfl)
noncomputable def s103 := onS (R := R) aa103 ab103 g103 (fun k => callC T F k 103)
theorem Q1d5 : sOk (R := R) s103 103 := Qc (fun _ _ _ _ => rfl) tu103
noncomputable abbrev kt49 : Bool → Oq R := (fun z0 => K [.val [] .bool z0] [])
abbrev aa49 : List Sh := [.val [] .str]
abbrev ab49 : List RSh := []
noncomputable def g49 (k : Nat) (v : Sh.D.DL aa49 × RSh.DL ab49) (K : KT R) : Oq R := f49 k v.1.1 (kt49 K)
noncomputable abbrev E49 := ending T Tryz.f49 an49 0 K
noncomputable def S49 := pickS (R := R) [(66, s66)]
theorem Q1eh : ∀ k, S49 (R := R) k = callC T F k := Q5 ⟨Qsz, trivial⟩
noncomputable abbrev I49_0 : Oq R := inner T an49 (Q0 F) 0 k 23 (S49 k) (E49 K) Q198 (sh Qr ws rs) N X
abbrev Q17r : List Sh := [.val [] .str, zv]
abbrev Q18h : List RSh := []
noncomputable def L49_0 : Oq R :=
 Q6 Q17r Q18h (fun v => f49_0 k (kt49 K) (N (sh Qf9 [.val [] .str v.1.1] [])) v.1.1 k v.1.2.1) (I49_0 k K ws rs N X) ws rs
noncomputable def L49 : Oq R := bif id == 0 then L49_0 k K ws rs N X else none
theorem i49_0 (c0 : BA) (m : Nat) : ∀ (c1 : Int),
  iter (atHead an49 0 Qpv) m (fun st N' => exec T an49 (Q0 F) 0 k 23 (S49 k) (E49 K) Qpv st N' (outX an49 0 0 N X)) (sh Qr [.val [] .str c0, zi c1] []) = Qa8 k (kt49 K) (N (sh Qf9 [.val [] .str c0] [])) c0 m c1 := by
 induction m with
 | zero => intros; rfl
 | succ m ih =>
   intro c1
   simp only [iter]
   rw [← Q7 T an49 (Q0 F) 0 k 23 (S49 k) (L49 k K) Qpv (Qb _ _ _ _ _ _ _ _ Qpv (l := []) (by kernel_rfl) trivial)]
   have h := fx1 ih
   simp only [Qa8]
   rw [← h]
   show _ = _
   kernel_rfl
theorem l49_0 : L49 k K 0 ws rs N X = I49_0 k K ws rs N X := by
 show L49_0 k K ws rs N X = _
 unfold L49_0
 rw [Qko]
 exact Q4 (a := Q17r) (b := Q18h) (G := fun ws rs => I49_0 k K ws rs N X) (fun x y => Eq.trans (by kernel_rfl) (Eq.trans (i49_0 k K N X x.1 k x.2.1).symm (by kernel_rfl))) ws rs
theorem tu49 : tOk (R := R) 49 aa49 ab49 g49 := by
 intro k x y K
 unfold g49
 rw [Q11o]
 cases k with
 | zero => rfl
 | succ k => exact eS Tryz.f49 an49 0 23 (L49 k K) [(0, Qr, Q198)] (by kernel_rfl) (Q1eh k) (by kernel_rfl) ⟨l49_0 k K, trivial⟩ (by kernel_rfl)
noncomputable def s49 := onS (R := R) aa49 ab49 g49 (fun k => callC T F k 49)
theorem Q1iw : sOk (R := R) s49 49 := Qc (fun _ _ _ _ => rfl) tu49
noncomputable abbrev kt50 : Int → Oq R := (fun z0 => K [zi z0] [])
abbrev aa50 : List Sh := [zv, .val [] .str]
abbrev ab50 : List RSh := []
noncomputable def g50 (k : Nat) (v : Sh.D.DL aa50 × RSh.DL ab50) (K : KT R) : Oq R := f50 k v.1.1 v.1.2.1 (kt50 K)
noncomputable def S50 := pickS (R := R) []
theorem Q1ei : ∀ k, S50 (R := R) k = callC T F k := Q5 trivial
theorem tu50 : tOk (R := R) 50 aa50 ab50 g50 := by
 intro k x y K
 unfold g50
 rw [Q11p]
 cases k with
 | zero => rfl
 | succ k => exact eS Tryz.f50 an50 0 10 L0 [] (by kernel_rfl) (Q1ei k) (by kernel_rfl) trivial (by kernel_rfl)
noncomputable def s50 := onS (R := R) aa50 ab50 g50 (fun k => callC T F k 50)
theorem Q1ix : sOk (R := R) s50 50 := Qc (fun _ _ _ _ => rfl) tu50
noncomputable abbrev kt104 : LI → Oq R := (fun z0 => K [.rw 1] [zr1 z0])
abbrev aa104 : List Sh := [zv]
abbrev ab104 : List RSh := []
noncomputable def g104 (k : Nat) (v : Sh.D.DL aa104 × RSh.DL ab104) (K : KT R) : Oq R := f104 k v.1.1 (kt104 K)
noncomputable abbrev E104 := ending T Tryz.f104 an104 0 K
noncomputable def S104 := pickS (R := R) []
theorem Q1an : ∀ k, S104 (R := R) k = callC T F k := Q5 trivial
noncomputable abbrev Qu7 : Oq R := inner T an104 (Q0 F) 0 k 16 (S104 k) (E104 K) Qz3 (sh Qm ws rs) N X
abbrev Qwa : List Sh := [zv, .rw 1, zv]
abbrev Qxm : List RSh := [.arr [] (.int .u8)]
noncomputable def Qvc : Oq R :=
 Q6 Qwa Qxm (fun v => Q109 k (fun p0 => N (sh Qz [.rw 1] [zr1 p0])) v.1.1 k v.1.2.2.1 v.2.1) (Qu7 k K ws rs N X) ws rs
noncomputable def L104 : Oq R := bif id == 0 then Qvc k K ws rs N X else none
theorem Q1gj (c0 : Int) (m : Nat) : ∀ (c1 : Int) (c2 : LI),
  iter (atHead an104 0 Qgx) m (fun st N' => exec T an104 (Q0 F) 0 k 16 (S104 k) (E104 K) Qgx st N' (outX an104 0 0 N X)) (sh Qm [zi c0, .rw 1, zi c1] [zr1 c2]) = Q4p k (fun p0 => N (sh Qz [.rw 1] [zr1 p0])) c0 m c1 c2 := by
 induction m with
 | zero => intros; rfl
 | succ m ih =>
   intro c1 c2
   simp only [iter]
   rw [← Q7 T an104 (Q0 F) 0 k 16 (S104 k) (L104 k K) Qgx (Qb _ _ _ _ _ _ _ _ Qgx (l := []) (by kernel_rfl) trivial)]
   have h := fx2 ih
   simp only [Q4p]
   rw [← h]
   show _ = _
   kernel_rfl
theorem Q1hl : L104 k K 0 ws rs N X = Qu7 k K ws rs N X := by
 show Qvc k K ws rs N X = _
 unfold Qvc
 rw [Qea]
 exact Q4 (a := Qwa) (b := Qxm) (G := fun ws rs => Qu7 k K ws rs N X) (fun x y => Eq.trans (by kernel_rfl) (Eq.trans (Q1gj k K N X x.1 k x.2.2.1 y.1).symm (by kernel_rfl))) ws rs
theorem tu104 : tOk (R := R) 104 aa104 ab104 g104 := by
 intro k x y K
 unfold g104
 rw [Qr1]
 cases k with
 | zero => rfl
 | succ k => exact eS Tryz.f104 an104 0 16 (L104 k K) [(0, Qm, Qz3)] (by kernel_rfl) (Q1an k) (by kernel_rfl) ⟨Q1hl k K, trivial⟩ (by kernel_rfl)
noncomputable def s104 := onS (R := R) aa104 ab104 g104 (fun k => callC T F k 104)
theorem Q1d6 : sOk (R := R) s104 104 := Qc (fun _ _ _ _ => rfl) tu104
noncomputable abbrev kt105 : Int → Oq R := (fun z0 => K [zi z0] [])
abbrev aa105 : List Sh := [.val [(0, 0)] zT2]
abbrev ab105 : List RSh := []
noncomputable def g105 (k : Nat) (v : Sh.D.DL aa105 × RSh.DL ab105) (K : KT R) : Oq R := f105 k v.1.1 (kt105 K)
noncomputable abbrev E105 := ending T Tryz.f105 an105 0 K
noncomputable def S105 := pickS (R := R) []
theorem Q1ao : ∀ k, S105 (R := R) k = callC T F k := Q5 trivial
noncomputable abbrev Qp7 : Oq R := inner T an105 (Q0 F) 0 k 32 (S105 k) (E105 K) Qjt (sh Qd9 ws rs) N X
abbrev Qwd : List Sh := [.val [(0, 0)] zT2, zv, zv, zv, .val [] .bool]
abbrev Qxp : List RSh := []
noncomputable def Qge : Oq R :=
 Q6 Qwd Qxp (fun v => Qhy k (fun p1 => N (sh Q5v [.val [(0, 0)] zT2 v.1.1, zi p1, zi v.1.2.2.1, zi v.1.2.2.2.1] [])) v.1.2.1 v.1.2.2.2.2.1) (Qp7 k K ws rs N X) ws rs
noncomputable abbrev Qu9 : Oq R := inner T an105 (Q0 F) 0 k 32 (S105 k) (E105 K) Qz5 (sh Q5v ws rs) N X
abbrev Qwc : List Sh := [.val [(0, 0)] zT2, zv, zv, zv]
abbrev Qxo : List RSh := []
noncomputable def Qve : Oq R :=
 Q6 Qwc Qxo (fun v => Q10b k (fun p1 => N (sh Qm [.val [(0, 0)] zT2 v.1.1, zi p1, zi v.1.2.2.1] [])) v.1.1 v.1.2.2.1 k v.1.2.1 v.1.2.2.2.1) (Qu9 k K ws rs N X) ws rs
noncomputable abbrev Qu8 : Oq R := inner T an105 (Q0 F) 0 k 32 (S105 k) (E105 K) Qz4 (sh Qm ws rs) N X
abbrev Qwb : List Sh := [.val [(0, 0)] zT2, zv, zv]
abbrev Qxn : List RSh := []
noncomputable def Qvd : Oq R :=
 Q6 Qwb Qxn (fun v => Q10a k (fun p0 => N (sh Qz [zi p0] [])) v.1.1 k v.1.2.1 v.1.2.2.1) (Qu8 k K ws rs N X) ws rs
noncomputable def L105 : Oq R := bif id == 1000011 then Qge k K ws rs N X else bif id == 2 then Qve k K ws rs N X else bif id == 0 then Qvd k K ws rs N X else none
theorem Q166 : L105 k K 1000011 ws rs N X = Qp7 k K ws rs N X := by
 show Qge k K ws rs N X = _
 unfold Qge
 rw [Q9q]
 exact lC (L105 k K) [] (by kernel_rfl) trivial fun x y => by kernel_rfl
theorem Q1gl (c0 : LI) (c2 : Int) (m : Nat) : ∀ (c1 c3 : Int),
  iter (atHead an105 0 Qgz) m (fun st N' => exec T an105 (Q0 F) 0 k 32 (S105 k) (E105 K) Qgz st N' (outX an105 0 2 N X)) (sh Q5v [.val [(0, 0)] zT2 c0, zi c1, zi c2, zi c3] []) = Q4r k (fun p1 => N (sh Qm [.val [(0, 0)] zT2 c0, zi p1, zi c2] [])) c0 c2 m c1 c3 := by
 induction m with
 | zero => intros; rfl
 | succ m ih =>
   intro c1 c3
   simp only [iter]
   rw [← Q7 T an105 (Q0 F) 0 k 32 (S105 k) (L105 k K) Qgz (Qb _ _ _ _ _ _ _ _ Qgz (l := [(1000011, Qd9, Qjt)]) (by kernel_rfl) ⟨Q166 k K, trivial⟩)]
   have h := fx2 ih
   simp only [Q4r]
   rw [← h]
   show _ = _
   kernel_rfl
theorem Q1hn : L105 k K 2 ws rs N X = Qu9 k K ws rs N X := by
 show Qve k K ws rs N X = _
 unfold Qve
 rw [Qec]
 exact Q4 (a := Qwc) (b := Qxo) (G := fun ws rs => Qu9 k K ws rs N X) (fun x y => Eq.trans (by kernel_rfl) (Eq.trans (Q1gl k K N X x.1 x.2.2.1 k x.2.1 x.2.2.2.1).symm (by kernel_rfl))) ws rs
theorem Q1gk (c0 : LI) (m : Nat) : ∀ (c1 c2 : Int),
  iter (atHead an105 0 Qgy) m (fun st N' => exec T an105 (Q0 F) 0 k 32 (S105 k) (E105 K) Qgy st N' (outX an105 0 0 N X)) (sh Qm [.val [(0, 0)] zT2 c0, zi c1, zi c2] []) = Q4q k (fun p0 => N (sh Qz [zi p0] [])) c0 m c1 c2 := by
 induction m with
 | zero => intros; rfl
 | succ m ih =>
   intro c1 c2
   simp only [iter]
   rw [← Q7 T an105 (Q0 F) 0 k 32 (S105 k) (L105 k K) Qgy (Qb _ _ _ _ _ _ _ _ Qgy (l := [(2, Q5v, Qz5)]) (by kernel_rfl) ⟨Q1hn k K, trivial⟩)]
   have h := fx2 ih
   simp only [Q4q]
   rw [← h]
   show _ = _
   kernel_rfl
theorem Q1hm : L105 k K 0 ws rs N X = Qu8 k K ws rs N X := by
 show Qvd k K ws rs N X = _
 unfold Qvd
 rw [Qeb]
 exact Q4 (a := Qwb) (b := Qxn) (G := fun ws rs => Qu8 k K ws rs N X) (fun x y => Eq.trans (by kernel_rfl) (Eq.trans (Q1gk k K N X x.1 k x.2.1 x.2.2.1).symm (by kernel_rfl))) ws rs
theorem tu105 : tOk (R := R) 105 aa105 ab105 g105 := by
 intro k x y K
 unfold g105
 rw [Qr2]
 cases k with
 | zero => rfl
 | succ k => exact eS Tryz.f105 an105 0 32 (L105 k K) [(0, Qm, Qz4)] (by kernel_rfl) (Q1ao k) (by kernel_rfl) ⟨Q1hm k K, trivial⟩ (by kernel_rfl)
noncomputable def s105 := onS (R := R) aa105 ab105 g105 (fun k => callC T F k 105)
theorem Q1d7 : sOk (R := R) s105 105 := Qc (fun _ _ _ _ => rfl) tu105
noncomputable abbrev kt54 : Int → LI → Oq R := (fun z0 z1 => K [.rw 1, zi z0] [zr1 z1])
abbrev aa54 : List Sh := [zv, .agg [zv, .val [] .bool, .val [] .str, zv, .val [] .bool, .val [(0, 0)] zT2]]
abbrev ab54 : List RSh := []
noncomputable def g54 (k : Nat) (v : Sh.D.DL aa54 × RSh.DL ab54) (K : KT R) : Oq R := f54 k v.1.1 v.1.2.1.1 v.1.2.1.2.1 v.1.2.1.2.2.1 v.1.2.1.2.2.2.1 v.1.2.1.2.2.2.2.1 v.1.2.1.2.2.2.2.2.1 (kt54 K)
noncomputable abbrev E54 := ending T Tryz.f54 an54 0 K
noncomputable def S54 := pickS (R := R) [(49, s49), (50, s50), (66, s66), (104, s104), (105, s105)]
theorem Q1ek : ∀ k, S54 (R := R) k = callC T F k := Q5 ⟨Q1iw, Q1ix, Qsz, Q1d6, Q1d7, trivial⟩
noncomputable abbrev Qv3 : Oq R := inner T an54 (Q0 F) 0 k 122 (S54 k) (E54 K) Qqj (sh Qj9 ws rs) N X
abbrev Q15c : List Sh := [zv, .ptr 1 0, .val [] (.int .u8), .val [] (.int .u8), .val [] .bool]
abbrev Q15l : List RSh := [zs1]
noncomputable def Qn5 : Oq R :=
 Q6 Q15c Q15l (fun v => Qii k (fun p1 => N (sh Q3a [zi v.1.1, .ptr 1 0, .val [] (.int .u8) p1, .val [] (.int .u8) v.1.2.2.2.1] [zr2 v.2.1.1 v.2.1.2.1 v.2.1.2.2.1 v.2.1.2.2.2.1 v.2.1.2.2.2.2.1 v.2.1.2.2.2.2.2.1])) v.1.2.2.1 v.1.2.2.2.2.1) (Qv3 k K ws rs N X) ws rs
noncomputable abbrev Qv4 : Oq R := inner T an54 (Q0 F) 0 k 122 (S54 k) (E54 K) Qqk (sh Qja ws rs) N X
abbrev Q15d : List Sh := [zv, .ptr 1 0, .val [] (.int .u8), .val [] (.int .u8), .val [] .bool]
abbrev Q15m : List RSh := [zs1]
noncomputable def Qn6 : Oq R :=
 Q6 Q15d Q15m (fun v => Qij k (fun p2 => N (sh Q3a [zi v.1.1, .ptr 1 0, .val [] (.int .u8) v.1.2.2.1, .val [] (.int .u8) p2] [zr2 v.2.1.1 v.2.1.2.1 v.2.1.2.2.1 v.2.1.2.2.2.1 v.2.1.2.2.2.2.1 v.2.1.2.2.2.2.2.1])) v.1.2.2.2.1 v.1.2.2.2.2.1) (Qv4 k K ws rs N X) ws rs
noncomputable def L54 : Oq R := bif id == 1000013 then Qn5 k K ws rs N X else bif id == 1000015 then Qn6 k K ws rs N X else none
theorem Q1cj : L54 k K 1000013 ws rs N X = Qv3 k K ws rs N X := by
 show Qn5 k K ws rs N X = _
 unfold Qn5
 rw [Q74]
 exact lC (L54 k K) [] (by kernel_rfl) trivial fun x y => by kernel_rfl
theorem Q1ck : L54 k K 1000015 ws rs N X = Qv4 k K ws rs N X := by
 show Qn6 k K ws rs N X = _
 unfold Qn6
 rw [Q75]
 exact lC (L54 k K) [] (by kernel_rfl) trivial fun x y => by kernel_rfl
theorem tu54 : tOk (R := R) 54 aa54 ab54 g54 := by
 intro k x y K
 unfold g54
 rw [Q11u]
 cases k with
 | zero => rfl
 | succ k => exact eS Tryz.f54 an54 0 122 (L54 k K) [(1000013, Qj9, Qqj), (1000015, Qja, Qqk)] (by kernel_rfl) (Q1ek k) (by kernel_rfl) ⟨Q1cj k K, Q1ck k K, trivial⟩ (by kernel_rfl)
noncomputable def s54 := onS (R := R) aa54 ab54 g54 (fun k => callC T F k 54)
theorem Q1iz : sOk (R := R) s54 54 := Qc (fun _ _ _ _ => rfl) tu54
noncomputable abbrev kt34 : Bool → Oq R := (fun z0 => K [.val [] .bool z0] [])
abbrev aa34 : List Sh := [.val [(0, 0)] zT2, .val [(0, 0)] zT2]
abbrev ab34 : List RSh := []
noncomputable def g34 (k : Nat) (v : Sh.D.DL aa34 × RSh.DL ab34) (K : KT R) : Oq R := f34 k v.1.1 v.1.2.1 (kt34 K)
noncomputable def S34 := pickS (R := R) []
theorem Q1ef : ∀ k, S34 (R := R) k = callC T F k := Q5 trivial
theorem tu34 : tOk (R := R) 34 aa34 ab34 g34 := by
 intro k x y K
 unfold g34
 rw [Q11j]
 cases k with
 | zero => rfl
 | succ k => exact eS Tryz.f34 an34 0 10 L0 [] (by kernel_rfl) (Q1ef k) (by kernel_rfl) trivial (by kernel_rfl)
noncomputable def s34 := onS (R := R) aa34 ab34 g34 (fun k => callC T F k 34)
theorem Q1iv : sOk (R := R) s34 34 := Qc (fun _ _ _ _ => rfl) tu34
noncomputable abbrev kt112 : zK0 R := (fun z0 z1 z2 z3 z4 z5 z6 => K [zi z0, .agg [zi z1, .val [] .bool z2, .val [] .str z3, zi z4, .val [] .bool z5, .rw 1]] [zr1 z6])
abbrev aa112 : List Sh := [.val [(0, 0)] zT2]
abbrev ab112 : List RSh := []
noncomputable def g112 (k : Nat) (v : Sh.D.DL aa112 × RSh.DL ab112) (K : KT R) : Oq R := f112 k v.1.1 (kt112 K)
noncomputable def S112 := pickS (R := R) [(34, s34), (54, s54), (102, s102), (103, s103)]
theorem Q1au : ∀ k, S112 (R := R) k = callC T F k := Q5 ⟨Q1iv, Q1iz, Q1d4, Q1d5, trivial⟩
theorem tu112 : tOk (R := R) 112 aa112 ab112 g112 := by
 intro k x y K
 unfold g112
 rw [Qr8]
 cases k with
 | zero => rfl
 | succ k => exact eS Tryz.f112 an112 0 86 L0 [] (by kernel_rfl) (Q1au k) (by kernel_rfl) trivial (by kernel_rfl)
noncomputable def s112 := onS (R := R) aa112 ab112 g112 (fun k => callC T F k 112)
theorem Q14l : sOk (R := R) s112 112 := Qc (fun _ _ _ _ => rfl) tu112
noncomputable abbrev kt61 : Int → Oq R := (fun z0 => K [zi z0] [])
abbrev aa61 : List Sh := [.agg [zv, zv, zv, .val [(0, 0)] zT2, .val [(0, 0)] zP1, .val [(0, 0)] zP1], zv]
abbrev ab61 : List RSh := []
noncomputable def g61 (k : Nat) (v : Sh.D.DL aa61 × RSh.DL ab61) (K : KT R) : Oq R := f61 k v.1.1.1 v.1.1.2.1 v.1.1.2.2.1 v.1.1.2.2.2.1 v.1.1.2.2.2.2.1 v.1.1.2.2.2.2.2.1 v.1.2.1 (kt61 K)
noncomputable def S61 := pickS (R := R) [(90, s90), (101, s101), (112, s112)]
theorem Q1en : ∀ k, S61 (R := R) k = callC T F k := Q5 ⟨Q1af, Q14h, Q14l, trivial⟩
theorem tu61 : tOk (R := R) 61 aa61 ab61 g61 := by
 intro k x y K
 unfold g61
 rw [Q11x]
 cases k with
 | zero => rfl
 | succ k => exact eS Tryz.f61 an61 0 21 L0 [] (by kernel_rfl) (Q1en k) (by kernel_rfl) trivial (by kernel_rfl)
noncomputable def s61 := onS (R := R) aa61 ab61 g61 (fun k => callC T F k 61)
theorem Q1ad : sOk (R := R) s61 61 := Qc (fun _ _ _ _ => rfl) tu61
noncomputable abbrev kt18 : Int → LI → Oq R := (fun z0 z1 => K [.rw 1, zi z0] [zr3 z1])
abbrev aa18 : List Sh := [.agg [zv, zv, zv, .val [(0, 0)] zT2, .val [(0, 0)] zP1, .val [(0, 0)] zP1]]
abbrev ab18 : List RSh := []
noncomputable def g18 (k : Nat) (v : Sh.D.DL aa18 × RSh.DL ab18) (K : KT R) : Oq R := f18 k v.1.1.1 v.1.1.2.1 v.1.1.2.2.1 v.1.1.2.2.2.1 v.1.1.2.2.2.2.1 v.1.1.2.2.2.2.2.1 (kt18 K)
noncomputable abbrev E18 := ending T Tryz.f18 an18 0 K
noncomputable def S18 := pickS (R := R) [(20, s20), (60, s60), (61, s61)]
theorem Q1e7 : ∀ k, S18 (R := R) k = callC T F k := Q5 ⟨Qsw, Qsx, Q1ad, trivial⟩
noncomputable abbrev I18_0 : Oq R := inner T an18 (Q0 F) 0 k 25 (S18 k) (E18 K) Q191 (sh Qml ws rs) N X
abbrev Q17l : List Sh := [.ptr 1 0, .rw 2, zv]
abbrev Q18b : List RSh := [zs0, .arr [] (.int .i64)]
noncomputable def L18_0 : Oq R :=
 Q6 Q17l Q18b (fun v => f18_0 k (fun p0 => N (sh Q28 [.rw 1] [zr3 p0])) v.2.1.1 v.2.1.2.1 v.2.1.2.2.1 v.2.1.2.2.2.1 v.2.1.2.2.2.2.1 v.2.1.2.2.2.2.2.1 k v.1.2.2.1 v.2.2.1) (I18_0 k K ws rs N X) ws rs
noncomputable def L18 : Oq R := bif id == 0 then L18_0 k K ws rs N X else none
theorem i18_0 (c1 c2 c3 : Int) (c4 c5 c6 : LI) (m : Nat) : ∀ (c0 : Int) (c7 : LI),
  iter (atHead an18 0 Qpp) m (fun st N' => exec T an18 (Q0 F) 0 k 25 (S18 k) (E18 K) Qpp st N' (outX an18 0 0 N X)) (sh Qml [.ptr 1 0, .rw 2, zi c0] [zr0 c1 c2 c3 c4 c5 c6, zr3 c7]) = Qa2 k (fun p0 => N (sh Q28 [.rw 1] [zr3 p0])) c1 c2 c3 c4 c5 c6 m c0 c7 := by
 induction m with
 | zero => intros; rfl
 | succ m ih =>
   intro c0 c7
   simp only [iter]
   rw [← Q7 T an18 (Q0 F) 0 k 25 (S18 k) (L18 k K) Qpp (Qb _ _ _ _ _ _ _ _ Qpp (l := []) (by kernel_rfl) trivial)]
   have h := fx2 ih
   simp only [Qa2]
   rw [← h]
   show _ = _
   kernel_rfl
theorem l18_0 : L18 k K 0 ws rs N X = I18_0 k K ws rs N X := by
 show L18_0 k K ws rs N X = _
 unfold L18_0
 rw [Qki]
 exact Q4 (a := Q17l) (b := Q18b) (G := fun ws rs => I18_0 k K ws rs N X) (fun x y => Eq.trans (by kernel_rfl) (Eq.trans (i18_0 k K N X y.1.1 y.1.2.1 y.1.2.2.1 y.1.2.2.2.1 y.1.2.2.2.2.1 y.1.2.2.2.2.2.1 k x.2.2.1 y.2.1).symm (by kernel_rfl))) ws rs
theorem tu18 : tOk (R := R) 18 aa18 ab18 g18 := by
 intro k x y K
 unfold g18
 rw [Q116]
 cases k with
 | zero => rfl
 | succ k => exact eS Tryz.f18 an18 0 25 (L18 k K) [(0, Qml, Q191)] (by kernel_rfl) (Q1e7 k) (by kernel_rfl) ⟨l18_0 k K, trivial⟩ (by kernel_rfl)
noncomputable def s18 := onS (R := R) aa18 ab18 g18 (fun k => callC T F k 18)
theorem Q1ip : sOk (R := R) s18 18 := Qc (fun _ _ _ _ => rfl) tu18
noncomputable abbrev kt21 : Bool → Oq R := (fun z0 => K [.val [] .bool z0] [])
abbrev aa21 : List Sh := [.val [(0, 0)] zP1, .val [(0, 0)] zP1]
abbrev ab21 : List RSh := []
noncomputable def g21 (k : Nat) (v : Sh.D.DL aa21 × RSh.DL ab21) (K : KT R) : Oq R := f21 k v.1.1 v.1.2.1 (kt21 K)
noncomputable abbrev E21 := ending T Tryz.f21 an21 0 K
noncomputable def S21 := pickS (R := R) []
theorem Q1ea : ∀ k, S21 (R := R) k = callC T F k := Q5 trivial
noncomputable abbrev I21_0 : Oq R := inner T an21 (Q0 F) 0 k 26 (S21 k) (E21 K) Q195 (sh Q2q ws rs) N X
abbrev Q17p : List Sh := [.val [(0, 0)] zP1, .val [(0, 0)] zP1, zv, zv]
abbrev Q18f : List RSh := []
noncomputable def L21_0 : Oq R :=
 Q6 Q17p Q18f (fun v => f21_0 k (kt21 K) (N (sh Qg [] [])) v.1.1 v.1.2.1 v.1.2.2.1 k v.1.2.2.2.1) (I21_0 k K ws rs N X) ws rs
noncomputable def L21 : Oq R := bif id == 0 then L21_0 k K ws rs N X else none
theorem i21_0 (c0 c1 : LI) (c2 : Int) (m : Nat) : ∀ (c3 : Int),
  iter (atHead an21 0 Qpt) m (fun st N' => exec T an21 (Q0 F) 0 k 26 (S21 k) (E21 K) Qpt st N' (outX an21 0 0 N X)) (sh Q2q [.val [(0, 0)] zP1 c0, .val [(0, 0)] zP1 c1, zi c2, zi c3] []) = Qa6 k (kt21 K) (N (sh Qg [] [])) c0 c1 c2 m c3 := by
 induction m with
 | zero => intros; rfl
 | succ m ih =>
   intro c3
   simp only [iter]
   rw [← Q7 T an21 (Q0 F) 0 k 26 (S21 k) (L21 k K) Qpt (Qb _ _ _ _ _ _ _ _ Qpt (l := []) (by kernel_rfl) trivial)]
   have h := fx1 ih
   simp only [Qa6]
   rw [← h]
   show _ = _
   kernel_rfl
theorem l21_0 : L21 k K 0 ws rs N X = I21_0 k K ws rs N X := by
 show L21_0 k K ws rs N X = _
 unfold L21_0
 rw [Qkm]
 exact Q4 (a := Q17p) (b := Q18f) (G := fun ws rs => I21_0 k K ws rs N X) (fun x y => Eq.trans (by kernel_rfl) (Eq.trans (i21_0 k K N X x.1 x.2.1 x.2.2.1 k x.2.2.2.1).symm (by kernel_rfl))) ws rs
theorem tu21 : tOk (R := R) 21 aa21 ab21 g21 := by
 intro k x y K
 unfold g21
 rw [Q11e]
 cases k with
 | zero => rfl
 | succ k => exact eS Tryz.f21 an21 0 26 (L21 k K) [(0, Q2q, Q195)] (by kernel_rfl) (Q1ea k) (by kernel_rfl) ⟨l21_0 k K, trivial⟩ (by kernel_rfl)
noncomputable def s21 := onS (R := R) aa21 ab21 g21 (fun k => callC T F k 21)
theorem Q1iq : sOk (R := R) s21 21 := Qc (fun _ _ _ _ => rfl) tu21
noncomputable abbrev kt138 : Bool → Oq R := (fun z0 => K [.val [] .bool z0] [])
abbrev aa138 : List Sh := [zv]
abbrev ab138 : List RSh := []
noncomputable def g138 (k : Nat) (v : Sh.D.DL aa138 × RSh.DL ab138) (K : KT R) : Oq R := f138 k v.1.1 (kt138 K)
noncomputable def S138 := pickS (R := R) []
theorem Q1b8 : ∀ k, S138 (R := R) k = callC T F k := Q5 trivial
theorem tu138 : tOk (R := R) 138 aa138 ab138 g138 := by
 intro k x y K
 unfold g138
 rw [Qrr]
 cases k with
 | zero => rfl
 | succ k => exact eS Tryz.f138 an138 0 6 L0 [] (by kernel_rfl) (Q1b8 k) (by kernel_rfl) trivial (by kernel_rfl)
noncomputable def s138 := onS (R := R) aa138 ab138 g138 (fun k => callC T F k 138)
theorem Q1do : sOk (R := R) s138 138 := Qc (fun _ _ _ _ => rfl) tu138
noncomputable abbrev kt115 : Int → Oq R := (fun z0 => K [zi z0] [])
abbrev aa115 : List Sh := [zv, zv]
abbrev ab115 : List RSh := []
noncomputable def g115 (k : Nat) (v : Sh.D.DL aa115 × RSh.DL ab115) (K : KT R) : Oq R := f115 k v.1.1 v.1.2.1 (kt115 K)
noncomputable def S115 := pickS (R := R) [(138, s138)]
theorem Q1ax : ∀ k, S115 (R := R) k = callC T F k := Q5 ⟨Q1do, trivial⟩
theorem tu115 : tOk (R := R) 115 aa115 ab115 g115 := by
 intro k x y K
 unfold g115
 rw [Qrb]
 cases k with
 | zero => rfl
 | succ k => exact eS Tryz.f115 an115 0 20 L0 [] (by kernel_rfl) (Q1ax k) (by kernel_rfl) trivial (by kernel_rfl)
noncomputable def s115 := onS (R := R) aa115 ab115 g115 (fun k => callC T F k 115)
theorem Q1db : sOk (R := R) s115 115 := Qc (fun _ _ _ _ => rfl) tu115
noncomputable abbrev kt114 : zK2 R := (fun z0 z1 z2 z3 z4 z5 z6 z7 z8 z9 => K [zi z0] [zr7 z1 z2 z3 z4 z5 z6 z7 z8 z9])
abbrev aa114 : List Sh := [zv, zv, .ptr 1 0]
abbrev ab114 : List RSh := [zs4]
noncomputable def g114 (k : Nat) (v : Sh.D.DL aa114 × RSh.DL ab114) (K : KT R) : Oq R := let u0 := v.2.1.2.2.2.2.2.2.2; f114 k v.1.1 v.1.2.1 v.2.1.1 v.2.1.2.1 v.2.1.2.2.1 v.2.1.2.2.2.1 v.2.1.2.2.2.2.1 v.2.1.2.2.2.2.2.1 v.2.1.2.2.2.2.2.2.1 v.2.1.2.2.2.2.2.2.2.1 u0.2.1 (kt114 K)
noncomputable def S114 := pickS (R := R) [(115, s115)]
theorem Q1aw : ∀ k, S114 (R := R) k = callC T F k := Q5 ⟨Q1db, trivial⟩
theorem tu114 : tOk (R := R) 114 aa114 ab114 g114 := by
 intro k x y K
 unfold g114
 rw [Qra]
 cases k with
 | zero => rfl
 | succ k => exact eS Tryz.f114 an114 1 27 L0 [] (by kernel_rfl) (Q1aw k) (by kernel_rfl) trivial (by kernel_rfl)
noncomputable def s114 := onS (R := R) aa114 ab114 g114 (fun k => callC T F k 114)
theorem Q14m : sOk (R := R) s114 114 := Qc (fun _ _ _ _ => rfl) tu114
noncomputable abbrev kt148 : zK4 R := (fun z0 z1 z2 z3 z4 z5 z6 z7 z8 z9 => K [] [zr3 z0, zr7 z1 z2 z3 z4 z5 z6 z7 z8 z9])
abbrev aa148 : List Sh := [.rw 1, zv, zv, .fn 114 [.ptr 2 0]]
abbrev ab148 : List RSh := [.arr [] (.int .i64), zs4]
noncomputable def g148 (k : Nat) (v : Sh.D.DL aa148 × RSh.DL ab148) (K : KT R) : Oq R := let u0 := v.2.2.1.2.2.2.2.2.2.2; f148 k v.1.2.1 v.1.2.2.1 v.2.1 v.2.2.1.1 v.2.2.1.2.1 v.2.2.1.2.2.1 v.2.2.1.2.2.2.1 v.2.2.1.2.2.2.2.1 v.2.2.1.2.2.2.2.2.1 v.2.2.1.2.2.2.2.2.2.1 v.2.2.1.2.2.2.2.2.2.2.1 u0.2.1 (kt148 K)
noncomputable abbrev E148 := ending T Tryz.f148 an148 2 K
noncomputable def S148 := pickS (R := R) [(114, s114)]
theorem Q1bc : ∀ k, S148 (R := R) k = callC T F k := Q5 ⟨Q14m, trivial⟩
noncomputable abbrev Qut : Oq R := inner T an148 (Q0 F) 2 k 53 (S148 k) (E148 K) Qzp (sh Q9g ws rs) N X
abbrev Qx4 : List Sh := [.rw 1, zv, zv, .fn 114 [.ptr 2 0], zv, zv]
abbrev Qyg : List RSh := [.arr [] (.int .i64), zs4]
noncomputable def Qvy : Oq R :=
 Q6 Qx4 Qyg (fun v => let u0 := v.2.2.1.2.2.2.2.2.2.2; Q110 k (fun p3 p4 p5 p6 p7 p8 p9 p10 p11 p12 => N (sh Q49 [.rw 1, zi v.1.2.1, zi v.1.2.2.1, .fn 114 [.ptr 2 0], zi v.1.2.2.2.2.1] [zr3 p3, zr7 p4 p5 p6 p7 p8 p9 p10 p11 p12])) v.1.2.1 v.1.2.2.1 v.1.2.2.2.2.1 k v.1.2.2.2.2.2.1 v.2.1 v.2.2.1.1 v.2.2.1.2.1 v.2.2.1.2.2.1 v.2.2.1.2.2.2.1 v.2.2.1.2.2.2.2.1 v.2.2.1.2.2.2.2.2.1 v.2.2.1.2.2.2.2.2.2.1 v.2.2.1.2.2.2.2.2.2.2.1 u0.2.1) (Qut k K ws rs N X) ws rs
noncomputable abbrev Qus : Oq R := inner T an148 (Q0 F) 2 k 53 (S148 k) (E148 K) Qzo (sh Q49 ws rs) N X
abbrev Qx3 : List Sh := [.rw 1, zv, zv, .fn 114 [.ptr 2 0], zv]
abbrev Qyf : List RSh := [.arr [] (.int .i64), zs4]
noncomputable def Qvx : Oq R :=
 Q6 Qx3 Qyf (fun v => let u0 := v.2.2.1.2.2.2.2.2.2.2; Q10z k (fun p0 p1 p2 p3 p4 p5 p6 p7 p8 p9 => N (sh Qg [] [zr3 p0, zr7 p1 p2 p3 p4 p5 p6 p7 p8 p9])) v.1.2.1 v.1.2.2.1 k v.1.2.2.2.2.1 v.2.1 v.2.2.1.1 v.2.2.1.2.1 v.2.2.1.2.2.1 v.2.2.1.2.2.2.1 v.2.2.1.2.2.2.2.1 v.2.2.1.2.2.2.2.2.1 v.2.2.1.2.2.2.2.2.2.1 v.2.2.1.2.2.2.2.2.2.2.1 u0.2.1) (Qus k K ws rs N X) ws rs
noncomputable def L148 : Oq R := bif id == 2 then Qvy k K ws rs N X else bif id == 0 then Qvx k K ws rs N X else none
theorem Q1h5 (c0 c1 c2 : Int) (m : Nat) : ∀ (c3 : Int) (c4 : LI) (c5 c6 c7 : Int) (c8 c9 c10 c11 : LI) (c12 : zL1) (c13 : Int),
  iter (atHead an148 2 Qhj) m (fun st N' => exec T an148 (Q0 F) 2 k 53 (S148 k) (E148 K) Qhj st N' (outX an148 2 2 N X)) (sh Q9g [.rw 1, zi c0, zi c1, .fn 114 [.ptr 2 0], zi c2, zi c3] [zr3 c4, zr7 c5 c6 c7 c8 c9 c10 c11 c12 c13]) = Q5b k (fun p3 p4 p5 p6 p7 p8 p9 p10 p11 p12 => N (sh Q49 [.rw 1, zi c0, zi c1, .fn 114 [.ptr 2 0], zi c2] [zr3 p3, zr7 p4 p5 p6 p7 p8 p9 p10 p11 p12])) c0 c1 c2 m c3 c4 c5 c6 c7 c8 c9 c10 c11 c12 c13 := by
 induction m with
 | zero => intros; rfl
 | succ m ih =>
   intro c3 c4 c5 c6 c7 c8 c9 c10 c11 c12 c13
   simp only [iter]
   rw [← Q7 T an148 (Q0 F) 2 k 53 (S148 k) (L148 k K) Qhj (Qb _ _ _ _ _ _ _ _ Qhj (l := []) (by kernel_rfl) trivial)]
   have h := fx11 ih
   simp only [Q5b]
   rw [← h]
   show _ = _
   kernel_rfl
theorem Q1i7 : L148 k K 2 ws rs N X = Qut k K ws rs N X := by
 show Qvy k K ws rs N X = _
 unfold Qvy
 rw [Qew]
 exact Q4 (a := Qx4) (b := Qyg) (G := fun ws rs => Qut k K ws rs N X) (fun x y => Eq.trans (by kernel_rfl) (Eq.trans (Q1h5 k K N X x.2.1 x.2.2.1 x.2.2.2.2.1 k x.2.2.2.2.2.1 y.1 y.2.1.1 y.2.1.2.1 y.2.1.2.2.1 y.2.1.2.2.2.1 y.2.1.2.2.2.2.1 y.2.1.2.2.2.2.2.1 y.2.1.2.2.2.2.2.2.1 y.2.1.2.2.2.2.2.2.2.1 y.2.1.2.2.2.2.2.2.2.2.1).symm (by kernel_rfl))) ws rs
theorem Q1h4 (c0 c1 : Int) (m : Nat) : ∀ (c2 : Int) (c3 : LI) (c4 c5 c6 : Int) (c7 c8 c9 c10 : LI) (c11 : zL1) (c12 : Int),
  iter (atHead an148 2 Qhi) m (fun st N' => exec T an148 (Q0 F) 2 k 53 (S148 k) (E148 K) Qhi st N' (outX an148 2 0 N X)) (sh Q49 [.rw 1, zi c0, zi c1, .fn 114 [.ptr 2 0], zi c2] [zr3 c3, zr7 c4 c5 c6 c7 c8 c9 c10 c11 c12]) = Q3d k (fun p0 p1 p2 p3 p4 p5 p6 p7 p8 p9 => N (sh Qg [] [zr3 p0, zr7 p1 p2 p3 p4 p5 p6 p7 p8 p9])) c0 c1 m c2 c3 c4 c5 c6 c7 c8 c9 c10 c11 c12 := by
 induction m with
 | zero => intros; rfl
 | succ m ih =>
   intro c2 c3 c4 c5 c6 c7 c8 c9 c10 c11 c12
   simp only [iter]
   rw [← Q7 T an148 (Q0 F) 2 k 53 (S148 k) (L148 k K) Qhi (Qb _ _ _ _ _ _ _ _ Qhi (l := [(2, Q9g, Qzp)]) (by kernel_rfl) ⟨Q1i7 k K, trivial⟩)]
   have h := fx11 ih
   simp only [Q3d]
   rw [← h]
   show _ = _
   kernel_rfl
theorem Q1i6 : L148 k K 0 ws rs N X = Qus k K ws rs N X := by
 show Qvx k K ws rs N X = _
 unfold Qvx
 rw [Qev]
 exact Q4 (a := Qx3) (b := Qyf) (G := fun ws rs => Qus k K ws rs N X) (fun x y => Eq.trans (by kernel_rfl) (Eq.trans (Q1h4 k K N X x.2.1 x.2.2.1 k x.2.2.2.2.1 y.1 y.2.1.1 y.2.1.2.1 y.2.1.2.2.1 y.2.1.2.2.2.1 y.2.1.2.2.2.2.1 y.2.1.2.2.2.2.2.1 y.2.1.2.2.2.2.2.2.1 y.2.1.2.2.2.2.2.2.2.1 y.2.1.2.2.2.2.2.2.2.2.1).symm (by kernel_rfl))) ws rs
theorem tu148 : tOk (R := R) 148 aa148 ab148 g148 := by
 intro k x y K
 unfold g148
 rw [Qrv]
 cases k with
 | zero => rfl
 | succ k => exact eS Tryz.f148 an148 2 53 (L148 k K) [(0, Q49, Qzo)] (by kernel_rfl) (Q1bc k) (by kernel_rfl) ⟨Q1i6 k K, trivial⟩ (by kernel_rfl)
noncomputable def s148 := onS (R := R) aa148 ab148 g148 (fun k => callC T F k 148)
theorem Q1ds : sOk (R := R) s148 148 := Qc (fun _ _ _ _ => rfl) tu148
noncomputable abbrev kt202 : zK4 R := (fun z0 z1 z2 z3 z4 z5 z6 z7 z8 z9 => K [] [zr3 z0, zr7 z1 z2 z3 z4 z5 z6 z7 z8 z9])
abbrev aa202 : List Sh := [.rw 1, zv, zv, zv, .fn 114 [.ptr 2 0]]
abbrev ab202 : List RSh := [.arr [] (.int .i64), zs4]
noncomputable def g202 (k : Nat) (v : Sh.D.DL aa202 × RSh.DL ab202) (K : KT R) : Oq R := let u0 := v.2.2.1.2.2.2.2.2.2.2; f202 k v.1.2.1 v.1.2.2.1 v.1.2.2.2.1 v.2.1 v.2.2.1.1 v.2.2.1.2.1 v.2.2.1.2.2.1 v.2.2.1.2.2.2.1 v.2.2.1.2.2.2.2.1 v.2.2.1.2.2.2.2.2.1 v.2.2.1.2.2.2.2.2.2.1 v.2.2.1.2.2.2.2.2.2.2.1 u0.2.1 (kt202 K)
noncomputable abbrev E202 := ending T Tryz.f202 an202 2 K
noncomputable def S202 := pickS (R := R) []
theorem Q1bf : ∀ k, S202 (R := R) k = callC T F k := Q5 trivial
noncomputable abbrev Qv0 : Oq R := inner T an202 (Q0 F) 2 k 38 (S202 k) (E202 K) Qzw (sh Q9j ws rs) N X
abbrev Qxh : List Sh := [.rw 1, zv, zv, zv, zv]
abbrev Qyt : List RSh := [.arr [] (.int .i64), zs4]
noncomputable def Qw5 : Oq R :=
 Q6 Qxh Qyt (fun v => let u0 := v.2.2.1.2.2.2.2.2.2.2; Q119 k (fun p0 => N (sh Qg [] [zr3 p0, zr7 v.2.2.1.1 v.2.2.1.2.1 v.2.2.1.2.2.1 v.2.2.1.2.2.2.1 v.2.2.1.2.2.2.2.1 v.2.2.1.2.2.2.2.2.1 v.2.2.1.2.2.2.2.2.2.1 v.2.2.1.2.2.2.2.2.2.2.1 u0.2.1])) v.1.2.1 v.1.2.2.1 v.1.2.2.2.1 v.2.2.1.1 v.2.2.1.2.1 v.2.2.1.2.2.1 v.2.2.1.2.2.2.1 v.2.2.1.2.2.2.2.1 v.2.2.1.2.2.2.2.2.1 v.2.2.1.2.2.2.2.2.2.1 v.2.2.1.2.2.2.2.2.2.2.1 u0.2.1 k v.1.2.2.2.2.1 v.2.1) (Qv0 k K ws rs N X) ws rs
noncomputable def L202 : Oq R := bif id == 0 then Qw5 k K ws rs N X else none
theorem Q1hc (c0 c1 c2 c5 c6 c7 : Int) (c8 c9 c10 c11 : LI) (c12 : zL1) (c13 : Int) (m : Nat) : ∀ (c3 : Int) (c4 : LI),
  iter (atHead an202 2 Qhq) m (fun st N' => exec T an202 (Q0 F) 2 k 38 (S202 k) (E202 K) Qhq st N' (outX an202 2 0 N X)) (sh Q9j [.rw 1, zi c0, zi c1, zi c2, zi c3] [zr3 c4, zr7 c5 c6 c7 c8 c9 c10 c11 c12 c13]) = Q5g k (fun p0 => N (sh Qg [] [zr3 p0, zr7 c5 c6 c7 c8 c9 c10 c11 c12 c13])) c0 c1 c2 c5 c6 c7 c8 c9 c10 c11 c12 c13 m c3 c4 := by
 induction m with
 | zero => intros; rfl
 | succ m ih =>
   intro c3 c4
   simp only [iter]
   rw [← Q7 T an202 (Q0 F) 2 k 38 (S202 k) (L202 k K) Qhq (Qb _ _ _ _ _ _ _ _ Qhq (l := []) (by kernel_rfl) trivial)]
   have h := fx2 ih
   simp only [Q5g]
   rw [← h]
   show _ = _
   kernel_rfl
theorem Q1ie : L202 k K 0 ws rs N X = Qv0 k K ws rs N X := by
 show Qw5 k K ws rs N X = _
 unfold Qw5
 rw [Qf3]
 exact Q4 (a := Qxh) (b := Qyt) (G := fun ws rs => Qv0 k K ws rs N X) (fun x y => Eq.trans (by kernel_rfl) (Eq.trans (Q1hc k K N X x.2.1 x.2.2.1 x.2.2.2.1 y.2.1.1 y.2.1.2.1 y.2.1.2.2.1 y.2.1.2.2.2.1 y.2.1.2.2.2.2.1 y.2.1.2.2.2.2.2.1 y.2.1.2.2.2.2.2.2.1 y.2.1.2.2.2.2.2.2.2.1 y.2.1.2.2.2.2.2.2.2.2.1 k x.2.2.2.2.1 y.1).symm (by kernel_rfl))) ws rs
theorem tu202 : tOk (R := R) 202 aa202 ab202 g202 := by
 intro k x y K
 unfold g202
 rw [Qs4]
 cases k with
 | zero => rfl
 | succ k => exact eS Tryz.f202 an202 2 38 (L202 k K) [(0, Q9j, Qzw)] (by kernel_rfl) (Q1bf k) (by kernel_rfl) ⟨Q1ie k K, trivial⟩ (by kernel_rfl)
noncomputable def s202 := onS (R := R) aa202 ab202 g202 (fun k => callC T F k 202)
theorem Q1dv : sOk (R := R) s202 202 := Qc (fun _ _ _ _ => rfl) tu202
noncomputable abbrev kt186 : zK4 R := (fun z0 z1 z2 z3 z4 z5 z6 z7 z8 z9 => K [] [zr3 z0, zr7 z1 z2 z3 z4 z5 z6 z7 z8 z9])
abbrev aa186 : List Sh := [.rw 1, zv, zv, zv, .fn 114 [.ptr 2 0]]
abbrev ab186 : List RSh := [.arr [] (.int .i64), zs4]
noncomputable def g186 (k : Nat) (v : Sh.D.DL aa186 × RSh.DL ab186) (K : KT R) : Oq R := let u0 := v.2.2.1.2.2.2.2.2.2.2; f186 k v.1.2.1 v.1.2.2.1 v.1.2.2.2.1 v.2.1 v.2.2.1.1 v.2.2.1.2.1 v.2.2.1.2.2.1 v.2.2.1.2.2.2.1 v.2.2.1.2.2.2.2.1 v.2.2.1.2.2.2.2.2.1 v.2.2.1.2.2.2.2.2.2.1 v.2.2.1.2.2.2.2.2.2.2.1 u0.2.1 (kt186 K)
noncomputable abbrev E186 := ending T Tryz.f186 an186 2 K
noncomputable def S186 := pickS (R := R) [(202, s202)]
theorem Q1be : ∀ k, S186 (R := R) k = callC T F k := Q5 ⟨Q1dv, trivial⟩
noncomputable abbrev Qpk : Oq R := inner T an186 (Q0 F) 2 k 58 (S186 k) (E186 K) Qk6 (sh Qdm ws rs) N X
abbrev Qxg : List Sh := [.rw 1, zv, .fn 114 [.ptr 2 0], zv, zv, .val [] .bool]
abbrev Qys : List RSh := [.arr [] (.int .i64), zs4]
noncomputable def Qgr : Oq R :=
 Q6 Qxg Qys (fun v => let u0 := v.2.2.1.2.2.2.2.2.2.2; Qie k (fun p1 p2 p3 p4 p5 p6 p7 p8 p9 p10 p11 p12 => N (sh Q63 [.rw 1, zi v.1.2.1, .fn 114 [.ptr 2 0], zi p1, zi p2] [zr3 p3, zr7 p4 p5 p6 p7 p8 p9 p10 p11 p12])) v.1.2.1 v.1.2.2.2.1 v.1.2.2.2.2.1 v.1.2.2.2.2.2.1 v.2.1 v.2.2.1.1 v.2.2.1.2.1 v.2.2.1.2.2.1 v.2.2.1.2.2.2.1 v.2.2.1.2.2.2.2.1 v.2.2.1.2.2.2.2.2.1 v.2.2.1.2.2.2.2.2.2.1 v.2.2.1.2.2.2.2.2.2.2.1 u0.2.1) (Qpk k K ws rs N X) ws rs
noncomputable abbrev Quz : Oq R := inner T an186 (Q0 F) 2 k 58 (S186 k) (E186 K) Qzv (sh Q63 ws rs) N X
abbrev Qxf : List Sh := [.rw 1, zv, .fn 114 [.ptr 2 0], zv, zv]
abbrev Qyr : List RSh := [.arr [] (.int .i64), zs4]
noncomputable def Qw4 : Oq R :=
 Q6 Qxf Qyr (fun v => let u0 := v.2.2.1.2.2.2.2.2.2.2; Q114 k (fun p1 p2 p3 p4 p5 p6 p7 p8 p9 p10 p11 => N (sh Qoo [.rw 1, zi v.1.2.1, .fn 114 [.ptr 2 0], zi p1] [zr3 p2, zr7 p3 p4 p5 p6 p7 p8 p9 p10 p11])) v.1.2.1 k v.1.2.2.2.1 v.1.2.2.2.2.1 v.2.1 v.2.2.1.1 v.2.2.1.2.1 v.2.2.1.2.2.1 v.2.2.1.2.2.2.1 v.2.2.1.2.2.2.2.1 v.2.2.1.2.2.2.2.2.1 v.2.2.1.2.2.2.2.2.2.1 v.2.2.1.2.2.2.2.2.2.2.1 u0.2.1) (Quz k K ws rs N X) ws rs
noncomputable def L186 : Oq R := bif id == 1000004 then Qgr k K ws rs N X else bif id == 0 then Qw4 k K ws rs N X else none
theorem Q16j : L186 k K 1000004 ws rs N X = Qpk k K ws rs N X := by
 show Qgr k K ws rs N X = _
 unfold Qgr
 rw [Q5f]
 exact lC (L186 k K) [] (by kernel_rfl) trivial fun x y => by kernel_rfl
theorem Q1hb (c0 : Int) (m : Nat) : ∀ (c1 c2 : Int) (c3 : LI) (c4 c5 c6 : Int) (c7 c8 c9 c10 : LI) (c11 : zL1) (c12 : Int),
  iter (atHead an186 2 Qhp) m (fun st N' => exec T an186 (Q0 F) 2 k 58 (S186 k) (E186 K) Qhp st N' (outX an186 2 0 N X)) (sh Q63 [.rw 1, zi c0, .fn 114 [.ptr 2 0], zi c1, zi c2] [zr3 c3, zr7 c4 c5 c6 c7 c8 c9 c10 c11 c12]) = Q41 k (fun p1 p2 p3 p4 p5 p6 p7 p8 p9 p10 p11 => N (sh Qoo [.rw 1, zi c0, .fn 114 [.ptr 2 0], zi p1] [zr3 p2, zr7 p3 p4 p5 p6 p7 p8 p9 p10 p11])) c0 m c1 c2 c3 c4 c5 c6 c7 c8 c9 c10 c11 c12 := by
 induction m with
 | zero => intros; rfl
 | succ m ih =>
   intro c1 c2 c3 c4 c5 c6 c7 c8 c9 c10 c11 c12
   simp only [iter]
   rw [← Q7 T an186 (Q0 F) 2 k 58 (S186 k) (L186 k K) Qhp (Qb _ _ _ _ _ _ _ _ Qhp (l := [(1000004, Qdm, Qk6)]) (by kernel_rfl) ⟨Q16j k K, trivial⟩)]
   have h := fx12 ih
   simp only [Q41]
   rw [← h]
   show _ = _
   kernel_rfl
theorem Q1id : L186 k K 0 ws rs N X = Quz k K ws rs N X := by
 show Qw4 k K ws rs N X = _
 unfold Qw4
 rw [Qf2]
 exact Q4 (a := Qxf) (b := Qyr) (G := fun ws rs => Quz k K ws rs N X) (fun x y => Eq.trans (by kernel_rfl) (Eq.trans (Q1hb k K N X x.2.1 k x.2.2.2.1 x.2.2.2.2.1 y.1 y.2.1.1 y.2.1.2.1 y.2.1.2.2.1 y.2.1.2.2.2.1 y.2.1.2.2.2.2.1 y.2.1.2.2.2.2.2.1 y.2.1.2.2.2.2.2.2.1 y.2.1.2.2.2.2.2.2.2.1 y.2.1.2.2.2.2.2.2.2.2.1).symm (by kernel_rfl))) ws rs
theorem tu186 : tOk (R := R) 186 aa186 ab186 g186 := by
 intro k x y K
 unfold g186
 rw [Qs2]
 cases k with
 | zero => rfl
 | succ k => exact eS Tryz.f186 an186 2 58 (L186 k K) [(0, Q63, Qzv)] (by kernel_rfl) (Q1be k) (by kernel_rfl) ⟨Q1id k K, trivial⟩ (by kernel_rfl)
noncomputable def s186 := onS (R := R) aa186 ab186 g186 (fun k => callC T F k 186)
theorem Q1du : sOk (R := R) s186 186 := Qc (fun _ _ _ _ => rfl) tu186
end Go.Proofs.YtecnlienmpdlaaaGreat.PM
