import Derived.Test.YtahdmfboidjkoaaPmE
import Derived.Test.YtahdmfboidjkoaaProg
import Derived.KernelRfl
set_option maxRecDepth 100000
set_option linter.unusedVariables false
namespace Go.Proofs.Ytahdmfboidjkoaa.PM
open Go
noncomputable def T : TT := [(3, ⟨.int .i64, 1, 8, [.int .i64 0], some (.int .i64)⟩), (4, ⟨.bool, 1, 1, [.bool false], some .bool⟩), (5, ⟨.int .u8, 1, 1, [.int .u8 0], some (.int .u8)⟩), (22, ⟨.slice 5, 1, 24, [.slice none 0 0], some (.slice (.int .u8))⟩)]
noncomputable def sel : Code → List Nat → Code
  | c, [] => c
  | .seq a _, 0 :: l => sel a l
  | .seq _ b, _ :: l => sel b l
  | .cond _ a _, 0 :: l => sel a l
  | .cond _ _ b, _ :: l => sel b l
  | .block _ b, _ :: l => sel b l
  | .loop b, _ :: l => sel b l
  | c, _ => c
noncomputable def bodyOf (f : Func) : Code := match f.body with | some c => c | none => .skip
noncomputable def f19_2b {R : Type} (k : Nat) (rec : Int → Int → Option R) (x2 : Int → Option R) (v2_1 : List Int) (v2_2 : Int) (v2_3 : Int) (v2_0 : Int) (v2_4 : Int) : Option R :=
  (bif decide (v2_4 < (8 : Int)) then (bif (bits .and .i64 (IntKind.i64.wrap (v2_0 * 2 ^ 1)) (65536 : Int) != (0 : Int)) then (rec (bits .xor .i64 (IntKind.i64.wrap (v2_0 * 2 ^ 1)) (69665 : Int)) (IntKind.i64.wrap (v2_4 + (1 : Int)))) else (rec (IntKind.i64.wrap (v2_0 * 2 ^ 1)) (IntKind.i64.wrap (v2_4 + (1 : Int))))) else (x2 v2_0))
noncomputable def f19_2 {R : Type} (k : Nat) (x2 : Int → Option R) (v2_1 : List Int) (v2_2 : Int) (v2_3 : Int) : Nat → Int → Int → Option R
  | 0, _, _ => none
  | m + 1, v2_0, v2_4 => f19_2b k (f19_2 k x2 v2_1 v2_2 v2_3 m) x2 v2_1 v2_2 v2_3 v2_0 v2_4
noncomputable def f19_0b {R : Type} (k : Nat) (rec : Int → Int → Option R) (x0 : Int → Option R) (v0_1 : List Int) (v0_2 : Int) (v0_0 : Int) (v0_3 : Int) : Option R :=
  (bif decide (v0_3 < v0_2) then (bif (decide ((0 : Int) ≤ v0_3) && decide (v0_3 < (v0_1.length : Int))) then (f19_2 k (fun y2_0 => (rec y2_0 (IntKind.i64.wrap (v0_3 + (1 : Int))))) v0_1 v0_2 v0_3 k (bits .xor .i64 v0_0 (IntKind.i64.wrap ((IntKind.i64.wrap (v0_1.getD (Int.toNat v0_3) (0 : Int))) * 2 ^ 8))) (0 : Int)) else none) else (x0 v0_0))
noncomputable def f19_0 {R : Type} (k : Nat) (x0 : Int → Option R) (v0_1 : List Int) (v0_2 : Int) : Nat → Int → Int → Option R
  | 0, _, _ => none
  | m + 1, v0_0, v0_3 => f19_0b k (f19_0 k x0 v0_1 v0_2 m) x0 v0_1 v0_2 v0_0 v0_3
noncomputable def f19 {R : Type} (k : Nat) (a0 : List Int) (K : Int → Option R) : Option R := match k with
  | 0 => none
  | k + 1 => (f19_0 k (fun y0_0 => (K y0_0)) a0 (a0.length : Int) k (65535 : Int) (0 : Int))
noncomputable def sp19_2 : List (Nat × Mode) := [(3, .any), (6, .any), (7, .any), (8, .any), (17, .any)]
noncomputable def sp19_0 : List (Nat × Mode) := [(3, .any), (6, .any), (7, .any), (8, .any)]
noncomputable def jn19_2 : List (Nat × Mode) := [(3, .any), (6, .any), (7, .any), (8, .any)]
noncomputable def jn19_0 : List (Nat × Mode) := [(3, .any)]
noncomputable def an19 : Ann := ⟨[(.lend (.int .u8))], [], [], [(7, sp19_2), (3, sp19_0)], [(2, jn19_2), (0, jn19_0)], [(2, sp19_2), (0, sp19_0)]⟩
noncomputable def cd19_2 : Code := sel (bodyOf Try.f19) [1, 1, 0, 1, 0, 0, 1, 1, 0, 0, 1, 1, 1, 0]
noncomputable def bd19_2 : Code := sel (bodyOf Try.f19) [1, 1, 0, 1, 0, 0, 1, 1, 0, 0, 1, 1, 1, 0, 0]
noncomputable def cd19_0 : Code := sel (bodyOf Try.f19) [1, 1, 0, 1, 0]
noncomputable def bd19_0 : Code := sel (bodyOf Try.f19) [1, 1, 0, 1, 0, 0]
section
variable {R : Type} (modes : Nat → List Mode) (k : Nat) (callK : Nat → List PV → List RowS → (List PV → List RowS → Option R) → Option R) (K : List PV → List RowS → Option R)
noncomputable def L19 (id : Nat) (ws : List PV) (rs : List RowS) (N : St → Option R) (X : Nat → St → Option R) : Option R := match id, ws, rs with
  | 2, [.val [] (.int .i64) v2_0, .val [(0, 0)] (.slice (.int .u8)) v2_1, .val [] (.int .i64) v2_2, .val [] (.int .i64) v2_3, .val [] (.int .i64) v2_4], [] => f19_2 k (fun y2_0 => N (sh jn19_2 [.val [] (.int .i64) y2_0, .val [(0, 0)] (.slice (.int .u8)) v2_1, .val [] (.int .i64) v2_2, .val [] (.int .i64) v2_3] [])) v2_1 v2_2 v2_3 k v2_0 v2_4
  | 2, ws, rs => exec T an19 modes 0 k 29 callK (ending Try.f19 an19 0 K) cd19_2 (sh sp19_2 ws rs) (leave an19 0 2 N) (outX an19 0 2 N X)
  | 0, [.val [] (.int .i64) v0_0, .val [(0, 0)] (.slice (.int .u8)) v0_1, .val [] (.int .i64) v0_2, .val [] (.int .i64) v0_3], [] => f19_0 k (fun y0_0 => N (sh jn19_0 [.val [] (.int .i64) y0_0] [])) v0_1 v0_2 k v0_0 v0_3
  | 0, ws, rs => exec T an19 modes 0 k 29 callK (ending Try.f19 an19 0 K) cd19_0 (sh sp19_0 ws rs) (leave an19 0 0 N) (outX an19 0 0 N X)
  | _, _, _ => none
theorem b19_2 (rec : St → Option R) (N : St → Option R) (X : Nat → St → Option R) (v2_1 : List Int) (v2_2 : Int) (v2_3 : Int) (v2_0 : Int) (v2_4 : Int) :
    execS T an19 modes 0 k 29 callK (L19 modes k callK K) (ending Try.f19 an19 0 K) bd19_2 (sh sp19_2 [.val [] (.int .i64) v2_0, .val [(0, 0)] (.slice (.int .u8)) v2_1, .val [] (.int .i64) v2_2, .val [] (.int .i64) v2_3, .val [] (.int .i64) v2_4] []) (fun st => atHead an19 0 bd19_2 st rec) (outX an19 0 2 N X) =
      f19_2b k (fun v2_0 v2_4 => rec (sh sp19_2 [.val [] (.int .i64) v2_0, .val [(0, 0)] (.slice (.int .u8)) v2_1, .val [] (.int .i64) v2_2, .val [] (.int .i64) v2_3, .val [] (.int .i64) v2_4] [])) (fun y2_0 => N (sh jn19_2 [.val [] (.int .i64) y2_0, .val [(0, 0)] (.slice (.int .u8)) v2_1, .val [] (.int .i64) v2_2, .val [] (.int .i64) v2_3] [])) v2_1 v2_2 v2_3 v2_0 v2_4 := by kernel_rfl
theorem i19_2 (N : St → Option R) (X : Nat → St → Option R) (v2_1 : List Int) (v2_2 : Int) (v2_3 : Int) (m : Nat) : ∀ (v2_0 : Int) (v2_4 : Int),
    iter (atHead an19 0 bd19_2) m (fun st N' => exec T an19 modes 0 k 29 callK (ending Try.f19 an19 0 K) bd19_2 st N' (outX an19 0 2 N X)) (sh sp19_2 [.val [] (.int .i64) v2_0, .val [(0, 0)] (.slice (.int .u8)) v2_1, .val [] (.int .i64) v2_2, .val [] (.int .i64) v2_3, .val [] (.int .i64) v2_4] []) = f19_2 k (fun y2_0 => N (sh jn19_2 [.val [] (.int .i64) y2_0, .val [(0, 0)] (.slice (.int .u8)) v2_1, .val [] (.int .i64) v2_2, .val [] (.int .i64) v2_3] [])) v2_1 v2_2 v2_3 m v2_0 v2_4 := by
  induction m with
  | zero => intros; rfl
  | succ m ih =>
    intro v2_0 v2_4
    simp only [iter]
    rw [← execS_eq T an19 modes 0 k 29 callK (L19 modes k callK K) bd19_2 (cuts_of _ _ _ _ _ _ _ _ bd19_2 (l := []) (by kernel_rfl) trivial)]
    refine (b19_2 modes k callK K _ N X v2_1 v2_2 v2_3 v2_0 v2_4).trans ?_
    simp only [f19_2, ih]
theorem l19_2 (ws : List PV) (rs : List RowS) (N : St → Option R) (X : Nat → St → Option R) : L19 modes k callK K 2 ws rs N X = exec T an19 modes 0 k 29 callK (ending Try.f19 an19 0 K) cd19_2 (sh sp19_2 ws rs) (leave an19 0 2 N) (outX an19 0 2 N X) := by
  unfold L19
  split
  all_goals first | rfl | (exfalso; omega) | (exact absurd rfl ‹(2 = 2 → False)›) | skip
  rename_i v2_0 v2_1 v2_2 v2_3 v2_4 e
  refine Eq.trans ?_ (show iter (atHead an19 0 bd19_2) k (fun st N' => exec T an19 modes 0 k 29 callK (ending Try.f19 an19 0 K) bd19_2 st N' (outX an19 0 2 N X)) (sh sp19_2 [.val [] (.int .i64) v2_0, .val [(0, 0)] (.slice (.int .u8)) v2_1, .val [] (.int .i64) v2_2, .val [] (.int .i64) v2_3, .val [] (.int .i64) v2_4] []) = _ from by kernel_rfl)
  exact (i19_2 modes k callK K N X v2_1 v2_2 v2_3 k v2_0 v2_4).symm
theorem b19_0 (rec : St → Option R) (N : St → Option R) (X : Nat → St → Option R) (v0_1 : List Int) (v0_2 : Int) (v0_0 : Int) (v0_3 : Int) :
    execS T an19 modes 0 k 29 callK (L19 modes k callK K) (ending Try.f19 an19 0 K) bd19_0 (sh sp19_0 [.val [] (.int .i64) v0_0, .val [(0, 0)] (.slice (.int .u8)) v0_1, .val [] (.int .i64) v0_2, .val [] (.int .i64) v0_3] []) (fun st => atHead an19 0 bd19_0 st rec) (outX an19 0 0 N X) =
      f19_0b k (fun v0_0 v0_3 => rec (sh sp19_0 [.val [] (.int .i64) v0_0, .val [(0, 0)] (.slice (.int .u8)) v0_1, .val [] (.int .i64) v0_2, .val [] (.int .i64) v0_3] [])) (fun y0_0 => N (sh jn19_0 [.val [] (.int .i64) y0_0] [])) v0_1 v0_2 v0_0 v0_3 := by kernel_rfl
theorem i19_0 (N : St → Option R) (X : Nat → St → Option R) (v0_1 : List Int) (v0_2 : Int) (m : Nat) : ∀ (v0_0 : Int) (v0_3 : Int),
    iter (atHead an19 0 bd19_0) m (fun st N' => exec T an19 modes 0 k 29 callK (ending Try.f19 an19 0 K) bd19_0 st N' (outX an19 0 0 N X)) (sh sp19_0 [.val [] (.int .i64) v0_0, .val [(0, 0)] (.slice (.int .u8)) v0_1, .val [] (.int .i64) v0_2, .val [] (.int .i64) v0_3] []) = f19_0 k (fun y0_0 => N (sh jn19_0 [.val [] (.int .i64) y0_0] [])) v0_1 v0_2 m v0_0 v0_3 := by
  induction m with
  | zero => intros; rfl
  | succ m ih =>
    intro v0_0 v0_3
    simp only [iter]
    rw [← execS_eq T an19 modes 0 k 29 callK (L19 modes k callK K) bd19_0 (cuts_of _ _ _ _ _ _ _ _ bd19_0 (l := [(2, sp19_2, cd19_2)]) (by kernel_rfl) ⟨l19_2 modes k callK K, trivial⟩)]
    refine (b19_0 modes k callK K _ N X v0_1 v0_2 v0_0 v0_3).trans ?_
    simp only [f19_0, ih]
theorem l19_0 (ws : List PV) (rs : List RowS) (N : St → Option R) (X : Nat → St → Option R) : L19 modes k callK K 0 ws rs N X = exec T an19 modes 0 k 29 callK (ending Try.f19 an19 0 K) cd19_0 (sh sp19_0 ws rs) (leave an19 0 0 N) (outX an19 0 0 N X) := by
  unfold L19
  split
  all_goals first | rfl | (exfalso; omega) | (exact absurd rfl ‹(0 = 0 → False)›) | skip
  rename_i v0_0 v0_1 v0_2 v0_3 e
  refine Eq.trans ?_ (show iter (atHead an19 0 bd19_0) k (fun st N' => exec T an19 modes 0 k 29 callK (ending Try.f19 an19 0 K) bd19_0 st N' (outX an19 0 0 N X)) (sh sp19_0 [.val [] (.int .i64) v0_0, .val [(0, 0)] (.slice (.int .u8)) v0_1, .val [] (.int .i64) v0_2, .val [] (.int .i64) v0_3] []) = _ from by kernel_rfl)
  exact (i19_0 modes k callK K N X v0_1 v0_2 k v0_0 v0_3).symm
end
noncomputable def f20_2b {R : Type} (k : Nat) (rec : Int → Int → Option R) (x2 : Int → Option R) (v2_1 : List Int) (v2_2 : Int) (v2_3 : Int) (v2_0 : Int) (v2_4 : Int) : Option R :=
  (bif decide (v2_4 < (8 : Int)) then (bif (bits .and .i64 v2_0 (32768 : Int) != (0 : Int)) then (rec (bits .xor .i64 (bits .and .i64 (IntKind.i64.wrap (v2_0 * 2 ^ 1)) (65535 : Int)) (4129 : Int)) (IntKind.i64.wrap (v2_4 + (1 : Int)))) else (rec (bits .and .i64 (IntKind.i64.wrap (v2_0 * 2 ^ 1)) (65535 : Int)) (IntKind.i64.wrap (v2_4 + (1 : Int))))) else (x2 v2_0))
noncomputable def f20_2 {R : Type} (k : Nat) (x2 : Int → Option R) (v2_1 : List Int) (v2_2 : Int) (v2_3 : Int) : Nat → Int → Int → Option R
  | 0, _, _ => none
  | m + 1, v2_0, v2_4 => f20_2b k (f20_2 k x2 v2_1 v2_2 v2_3 m) x2 v2_1 v2_2 v2_3 v2_0 v2_4
noncomputable def f20_0b {R : Type} (k : Nat) (rec : Int → Int → Option R) (x0 : Int → Option R) (v0_1 : List Int) (v0_2 : Int) (v0_0 : Int) (v0_3 : Int) : Option R :=
  (bif decide (v0_3 < v0_2) then (bif (decide ((0 : Int) ≤ v0_3) && decide (v0_3 < (v0_1.length : Int))) then (f20_2 k (fun y2_0 => (rec y2_0 (IntKind.i64.wrap (v0_3 + (1 : Int))))) v0_1 v0_2 v0_3 k (bits .xor .i64 v0_0 (IntKind.i64.wrap ((IntKind.i64.wrap (v0_1.getD (Int.toNat v0_3) (0 : Int))) * 2 ^ 8))) (0 : Int)) else none) else (x0 v0_0))
noncomputable def f20_0 {R : Type} (k : Nat) (x0 : Int → Option R) (v0_1 : List Int) (v0_2 : Int) : Nat → Int → Int → Option R
  | 0, _, _ => none
  | m + 1, v0_0, v0_3 => f20_0b k (f20_0 k x0 v0_1 v0_2 m) x0 v0_1 v0_2 v0_0 v0_3
noncomputable def f20 {R : Type} (k : Nat) (a0 : List Int) (K : Int → Option R) : Option R := match k with
  | 0 => none
  | k + 1 => (f20_0 k (fun y0_0 => (K y0_0)) a0 (a0.length : Int) k (65535 : Int) (0 : Int))
noncomputable def sp20_2 : List (Nat × Mode) := [(3, .any), (7, .any), (8, .any), (9, .any), (18, .any)]
noncomputable def sp20_0 : List (Nat × Mode) := [(3, .any), (7, .any), (8, .any), (9, .any)]
noncomputable def jn20_2 : List (Nat × Mode) := [(3, .any), (7, .any), (8, .any), (9, .any)]
noncomputable def jn20_0 : List (Nat × Mode) := [(3, .any)]
noncomputable def an20 : Ann := ⟨[(.lend (.int .u8))], [], [], [(7, sp20_2), (3, sp20_0)], [(2, jn20_2), (0, jn20_0)], [(2, sp20_2), (0, sp20_0)]⟩
noncomputable def cd20_2 : Code := sel (bodyOf Try.f20) [1, 1, 0, 1, 0, 0, 1, 1, 0, 0, 1, 1, 1, 0]
noncomputable def bd20_2 : Code := sel (bodyOf Try.f20) [1, 1, 0, 1, 0, 0, 1, 1, 0, 0, 1, 1, 1, 0, 0]
noncomputable def cd20_0 : Code := sel (bodyOf Try.f20) [1, 1, 0, 1, 0]
noncomputable def bd20_0 : Code := sel (bodyOf Try.f20) [1, 1, 0, 1, 0, 0]
section
variable {R : Type} (modes : Nat → List Mode) (k : Nat) (callK : Nat → List PV → List RowS → (List PV → List RowS → Option R) → Option R) (K : List PV → List RowS → Option R)
noncomputable def L20 (id : Nat) (ws : List PV) (rs : List RowS) (N : St → Option R) (X : Nat → St → Option R) : Option R := match id, ws, rs with
  | 2, [.val [] (.int .i64) v2_0, .val [(0, 0)] (.slice (.int .u8)) v2_1, .val [] (.int .i64) v2_2, .val [] (.int .i64) v2_3, .val [] (.int .i64) v2_4], [] => f20_2 k (fun y2_0 => N (sh jn20_2 [.val [] (.int .i64) y2_0, .val [(0, 0)] (.slice (.int .u8)) v2_1, .val [] (.int .i64) v2_2, .val [] (.int .i64) v2_3] [])) v2_1 v2_2 v2_3 k v2_0 v2_4
  | 2, ws, rs => exec T an20 modes 0 k 32 callK (ending Try.f20 an20 0 K) cd20_2 (sh sp20_2 ws rs) (leave an20 0 2 N) (outX an20 0 2 N X)
  | 0, [.val [] (.int .i64) v0_0, .val [(0, 0)] (.slice (.int .u8)) v0_1, .val [] (.int .i64) v0_2, .val [] (.int .i64) v0_3], [] => f20_0 k (fun y0_0 => N (sh jn20_0 [.val [] (.int .i64) y0_0] [])) v0_1 v0_2 k v0_0 v0_3
  | 0, ws, rs => exec T an20 modes 0 k 32 callK (ending Try.f20 an20 0 K) cd20_0 (sh sp20_0 ws rs) (leave an20 0 0 N) (outX an20 0 0 N X)
  | _, _, _ => none
theorem b20_2 (rec : St → Option R) (N : St → Option R) (X : Nat → St → Option R) (v2_1 : List Int) (v2_2 : Int) (v2_3 : Int) (v2_0 : Int) (v2_4 : Int) :
    execS T an20 modes 0 k 32 callK (L20 modes k callK K) (ending Try.f20 an20 0 K) bd20_2 (sh sp20_2 [.val [] (.int .i64) v2_0, .val [(0, 0)] (.slice (.int .u8)) v2_1, .val [] (.int .i64) v2_2, .val [] (.int .i64) v2_3, .val [] (.int .i64) v2_4] []) (fun st => atHead an20 0 bd20_2 st rec) (outX an20 0 2 N X) =
      f20_2b k (fun v2_0 v2_4 => rec (sh sp20_2 [.val [] (.int .i64) v2_0, .val [(0, 0)] (.slice (.int .u8)) v2_1, .val [] (.int .i64) v2_2, .val [] (.int .i64) v2_3, .val [] (.int .i64) v2_4] [])) (fun y2_0 => N (sh jn20_2 [.val [] (.int .i64) y2_0, .val [(0, 0)] (.slice (.int .u8)) v2_1, .val [] (.int .i64) v2_2, .val [] (.int .i64) v2_3] [])) v2_1 v2_2 v2_3 v2_0 v2_4 := by kernel_rfl
theorem i20_2 (N : St → Option R) (X : Nat → St → Option R) (v2_1 : List Int) (v2_2 : Int) (v2_3 : Int) (m : Nat) : ∀ (v2_0 : Int) (v2_4 : Int),
    iter (atHead an20 0 bd20_2) m (fun st N' => exec T an20 modes 0 k 32 callK (ending Try.f20 an20 0 K) bd20_2 st N' (outX an20 0 2 N X)) (sh sp20_2 [.val [] (.int .i64) v2_0, .val [(0, 0)] (.slice (.int .u8)) v2_1, .val [] (.int .i64) v2_2, .val [] (.int .i64) v2_3, .val [] (.int .i64) v2_4] []) = f20_2 k (fun y2_0 => N (sh jn20_2 [.val [] (.int .i64) y2_0, .val [(0, 0)] (.slice (.int .u8)) v2_1, .val [] (.int .i64) v2_2, .val [] (.int .i64) v2_3] [])) v2_1 v2_2 v2_3 m v2_0 v2_4 := by
  induction m with
  | zero => intros; rfl
  | succ m ih =>
    intro v2_0 v2_4
    simp only [iter]
    rw [← execS_eq T an20 modes 0 k 32 callK (L20 modes k callK K) bd20_2 (cuts_of _ _ _ _ _ _ _ _ bd20_2 (l := []) (by kernel_rfl) trivial)]
    refine (b20_2 modes k callK K _ N X v2_1 v2_2 v2_3 v2_0 v2_4).trans ?_
    simp only [f20_2, ih]
theorem l20_2 (ws : List PV) (rs : List RowS) (N : St → Option R) (X : Nat → St → Option R) : L20 modes k callK K 2 ws rs N X = exec T an20 modes 0 k 32 callK (ending Try.f20 an20 0 K) cd20_2 (sh sp20_2 ws rs) (leave an20 0 2 N) (outX an20 0 2 N X) := by
  unfold L20
  split
  all_goals first | rfl | (exfalso; omega) | (exact absurd rfl ‹(2 = 2 → False)›) | skip
  rename_i v2_0 v2_1 v2_2 v2_3 v2_4 e
  refine Eq.trans ?_ (show iter (atHead an20 0 bd20_2) k (fun st N' => exec T an20 modes 0 k 32 callK (ending Try.f20 an20 0 K) bd20_2 st N' (outX an20 0 2 N X)) (sh sp20_2 [.val [] (.int .i64) v2_0, .val [(0, 0)] (.slice (.int .u8)) v2_1, .val [] (.int .i64) v2_2, .val [] (.int .i64) v2_3, .val [] (.int .i64) v2_4] []) = _ from by kernel_rfl)
  exact (i20_2 modes k callK K N X v2_1 v2_2 v2_3 k v2_0 v2_4).symm
theorem b20_0 (rec : St → Option R) (N : St → Option R) (X : Nat → St → Option R) (v0_1 : List Int) (v0_2 : Int) (v0_0 : Int) (v0_3 : Int) :
    execS T an20 modes 0 k 32 callK (L20 modes k callK K) (ending Try.f20 an20 0 K) bd20_0 (sh sp20_0 [.val [] (.int .i64) v0_0, .val [(0, 0)] (.slice (.int .u8)) v0_1, .val [] (.int .i64) v0_2, .val [] (.int .i64) v0_3] []) (fun st => atHead an20 0 bd20_0 st rec) (outX an20 0 0 N X) =
      f20_0b k (fun v0_0 v0_3 => rec (sh sp20_0 [.val [] (.int .i64) v0_0, .val [(0, 0)] (.slice (.int .u8)) v0_1, .val [] (.int .i64) v0_2, .val [] (.int .i64) v0_3] [])) (fun y0_0 => N (sh jn20_0 [.val [] (.int .i64) y0_0] [])) v0_1 v0_2 v0_0 v0_3 := by kernel_rfl
theorem i20_0 (N : St → Option R) (X : Nat → St → Option R) (v0_1 : List Int) (v0_2 : Int) (m : Nat) : ∀ (v0_0 : Int) (v0_3 : Int),
    iter (atHead an20 0 bd20_0) m (fun st N' => exec T an20 modes 0 k 32 callK (ending Try.f20 an20 0 K) bd20_0 st N' (outX an20 0 0 N X)) (sh sp20_0 [.val [] (.int .i64) v0_0, .val [(0, 0)] (.slice (.int .u8)) v0_1, .val [] (.int .i64) v0_2, .val [] (.int .i64) v0_3] []) = f20_0 k (fun y0_0 => N (sh jn20_0 [.val [] (.int .i64) y0_0] [])) v0_1 v0_2 m v0_0 v0_3 := by
  induction m with
  | zero => intros; rfl
  | succ m ih =>
    intro v0_0 v0_3
    simp only [iter]
    rw [← execS_eq T an20 modes 0 k 32 callK (L20 modes k callK K) bd20_0 (cuts_of _ _ _ _ _ _ _ _ bd20_0 (l := [(2, sp20_2, cd20_2)]) (by kernel_rfl) ⟨l20_2 modes k callK K, trivial⟩)]
    refine (b20_0 modes k callK K _ N X v0_1 v0_2 v0_0 v0_3).trans ?_
    simp only [f20_0, ih]
theorem l20_0 (ws : List PV) (rs : List RowS) (N : St → Option R) (X : Nat → St → Option R) : L20 modes k callK K 0 ws rs N X = exec T an20 modes 0 k 32 callK (ending Try.f20 an20 0 K) cd20_0 (sh sp20_0 ws rs) (leave an20 0 0 N) (outX an20 0 0 N X) := by
  unfold L20
  split
  all_goals first | rfl | (exfalso; omega) | (exact absurd rfl ‹(0 = 0 → False)›) | skip
  rename_i v0_0 v0_1 v0_2 v0_3 e
  refine Eq.trans ?_ (show iter (atHead an20 0 bd20_0) k (fun st N' => exec T an20 modes 0 k 32 callK (ending Try.f20 an20 0 K) bd20_0 st N' (outX an20 0 0 N X)) (sh sp20_0 [.val [] (.int .i64) v0_0, .val [(0, 0)] (.slice (.int .u8)) v0_1, .val [] (.int .i64) v0_2, .val [] (.int .i64) v0_3] []) = _ from by kernel_rfl)
  exact (i20_0 modes k callK K N X v0_1 v0_2 k v0_0 v0_3).symm
end
noncomputable def f21 {R : Type} (k : Nat) (K : Bool → Option R) : Option R := match k with
  | 0 => none
  | k + 1 => (bif decide (0 < ([(49 : Int), (50 : Int), (51 : Int), (52 : Int), (53 : Int), (54 : Int), (55 : Int), (56 : Int), (57 : Int)] : List Int).length) then (f19 k ([(49 : Int), (50 : Int), (51 : Int), (52 : Int), (53 : Int), (54 : Int), (55 : Int), (56 : Int), (57 : Int)] : List Int) (fun r514_0 => (K (r514_0 == (10673 : Int))))) else none)
noncomputable def an21 : Ann := ⟨[], [], [], [], [], []⟩
noncomputable def f3 {R : Type} (k : Nat) (a0 : List Int) (K : Bool → Option R) : Option R := match k with
  | 0 => none
  | k + 1 => (f19 k a0 (fun r513_0 => (f20 k a0 (fun r515_0 => (bif ((r513_0 == r515_0) == true) then (f21 k (fun r518_0 => (K r518_0))) else (K false))))))
noncomputable def an3 : Ann := ⟨[(.lend (.int .u8))], [], [], [], [], []⟩
noncomputable def F : Nat → Option (Func × Ann) := findN [(19, (Try.f19, an19)), (20, (Try.f20, an20)), (21, (Try.f21, an21)), (3, (Try.f3, an3))]
section
variable {R : Type}
noncomputable def S19 (k g : Nat) (a : List PV) (r : List RowS) (K : List PV → List RowS → Option R) : Option R := callC T F k g a r K
theorem S19_eq (k : Nat) : S19 (R := R) k = callC T F k := by
  funext g a r K
  unfold S19
  repeat' split
  all_goals first | rfl | skip

theorem q19 (k : Nat) (a0 : List Int) (K : List PV → List RowS → Option R) :
    execS T an19 (modesOf F) 0 k 29 (S19 k) (L19 (modesOf F) k (S19 k) K) (ending Try.f19 an19 0 K) (bodyOf Try.f19) ⟨argEnv 0 [.val [(0, 0)] (.slice (.int .u8)) a0] (fun _ => none), rowsOf []⟩ (ending Try.f19 an19 0 K) (fun _ _ => none) = f19 (k + 1) a0 (fun z0 => K [.val [] (.int .i64) z0] []) := by kernel_rfl
theorem e19 (k : Nat) (a0 : List Int) (K : List PV → List RowS → Option R) : callC T F k 19 [.val [(0, 0)] (.slice (.int .u8)) a0] [] K = f19 k a0 (fun z0 => K [.val [] (.int .i64) z0] []) := by
  cases k with
  | zero => rfl
  | succ k =>
    refine Eq.trans (show _ = exec T an19 (modesOf F) 0 k 29 (callC T F k) (ending Try.f19 an19 0 K) (bodyOf Try.f19) ⟨argEnv 0 [.val [(0, 0)] (.slice (.int .u8)) a0] (fun _ => none), rowsOf []⟩ (ending Try.f19 an19 0 K) (fun _ _ => none) from by kernel_rfl) ?_
    rw [← execS_eq T an19 (modesOf F) 0 k 29 (callC T F k) (L19 (modesOf F) k (callC T F k) K) (bodyOf Try.f19) (cuts_of _ _ _ _ _ _ _ _ (bodyOf Try.f19) (l := [(0, sp19_0, cd19_0)]) (by kernel_rfl) ⟨l19_0 (modesOf F) k (callC T F k) K, trivial⟩), ← S19_eq k]
    exact q19 k a0 K
noncomputable def s19 (k : Nat) (a : List PV) (r : List RowS) (K : List PV → List RowS → Option R) : Option R := match a, r with
  | [.val [(0, 0)] (.slice (.int .u8)) a0], [] => f19 k a0 (fun z0 => K [.val [] (.int .i64) z0] [])
  | a, r => callC T F k 19 a r K
theorem s19_eq (k : Nat) (a : List PV) (r : List RowS) (K : List PV → List RowS → Option R) : s19 k a r K = callC T F k 19 a r K := by
  unfold s19
  split
  · exact (e19 k _ K).symm
  · rfl
noncomputable def S20 (k g : Nat) (a : List PV) (r : List RowS) (K : List PV → List RowS → Option R) : Option R := callC T F k g a r K
theorem S20_eq (k : Nat) : S20 (R := R) k = callC T F k := by
  funext g a r K
  unfold S20
  repeat' split
  all_goals first | rfl | skip

theorem q20 (k : Nat) (a0 : List Int) (K : List PV → List RowS → Option R) :
    execS T an20 (modesOf F) 0 k 32 (S20 k) (L20 (modesOf F) k (S20 k) K) (ending Try.f20 an20 0 K) (bodyOf Try.f20) ⟨argEnv 0 [.val [(0, 0)] (.slice (.int .u8)) a0] (fun _ => none), rowsOf []⟩ (ending Try.f20 an20 0 K) (fun _ _ => none) = f20 (k + 1) a0 (fun z0 => K [.val [] (.int .i64) z0] []) := by kernel_rfl
theorem e20 (k : Nat) (a0 : List Int) (K : List PV → List RowS → Option R) : callC T F k 20 [.val [(0, 0)] (.slice (.int .u8)) a0] [] K = f20 k a0 (fun z0 => K [.val [] (.int .i64) z0] []) := by
  cases k with
  | zero => rfl
  | succ k =>
    refine Eq.trans (show _ = exec T an20 (modesOf F) 0 k 32 (callC T F k) (ending Try.f20 an20 0 K) (bodyOf Try.f20) ⟨argEnv 0 [.val [(0, 0)] (.slice (.int .u8)) a0] (fun _ => none), rowsOf []⟩ (ending Try.f20 an20 0 K) (fun _ _ => none) from by kernel_rfl) ?_
    rw [← execS_eq T an20 (modesOf F) 0 k 32 (callC T F k) (L20 (modesOf F) k (callC T F k) K) (bodyOf Try.f20) (cuts_of _ _ _ _ _ _ _ _ (bodyOf Try.f20) (l := [(0, sp20_0, cd20_0)]) (by kernel_rfl) ⟨l20_0 (modesOf F) k (callC T F k) K, trivial⟩), ← S20_eq k]
    exact q20 k a0 K
noncomputable def s20 (k : Nat) (a : List PV) (r : List RowS) (K : List PV → List RowS → Option R) : Option R := match a, r with
  | [.val [(0, 0)] (.slice (.int .u8)) a0], [] => f20 k a0 (fun z0 => K [.val [] (.int .i64) z0] [])
  | a, r => callC T F k 20 a r K
theorem s20_eq (k : Nat) (a : List PV) (r : List RowS) (K : List PV → List RowS → Option R) : s20 k a r K = callC T F k 20 a r K := by
  unfold s20
  split
  · exact (e20 k _ K).symm
  · rfl
noncomputable def S21 (k g : Nat) (a : List PV) (r : List RowS) (K : List PV → List RowS → Option R) : Option R := if g = 19 then s19 k a r K else callC T F k g a r K
theorem S21_eq (k : Nat) : S21 (R := R) k = callC T F k := by
  funext g a r K
  unfold S21
  repeat' split
  all_goals first | rfl | skip
  all_goals first | (rename_i h; subst h; exact s19_eq k a r K) | (rename_i h _; subst h; exact s19_eq k a r K) | skip

theorem q21 (k : Nat) (K : List PV → List RowS → Option R) :
    execS T an21 (modesOf F) 0 k 5 (S21 k) (fun _ _ _ _ _ => none) (ending Try.f21 an21 0 K) (bodyOf Try.f21) ⟨argEnv 0 [] (fun _ => none), rowsOf []⟩ (ending Try.f21 an21 0 K) (fun _ _ => none) = f21 (k + 1) (fun z0 => K [.val [] .bool z0] []) := by kernel_rfl
theorem e21 (k : Nat) (K : List PV → List RowS → Option R) : callC T F k 21 [] [] K = f21 k (fun z0 => K [.val [] .bool z0] []) := by
  cases k with
  | zero => rfl
  | succ k =>
    refine Eq.trans (show _ = exec T an21 (modesOf F) 0 k 5 (callC T F k) (ending Try.f21 an21 0 K) (bodyOf Try.f21) ⟨argEnv 0 [] (fun _ => none), rowsOf []⟩ (ending Try.f21 an21 0 K) (fun _ _ => none) from by kernel_rfl) ?_
    rw [← execS_eq T an21 (modesOf F) 0 k 5 (callC T F k) (fun _ _ _ _ _ => none) (bodyOf Try.f21) (cuts_of _ _ _ _ _ _ _ _ (bodyOf Try.f21) (l := []) (by kernel_rfl) trivial), ← S21_eq k]
    exact q21 k K
noncomputable def s21 (k : Nat) (a : List PV) (r : List RowS) (K : List PV → List RowS → Option R) : Option R := match a, r with
  | [], [] => f21 k (fun z0 => K [.val [] .bool z0] [])
  | a, r => callC T F k 21 a r K
theorem s21_eq (k : Nat) (a : List PV) (r : List RowS) (K : List PV → List RowS → Option R) : s21 k a r K = callC T F k 21 a r K := by
  unfold s21
  split
  · exact (e21 k K).symm
  · rfl
noncomputable def S3 (k g : Nat) (a : List PV) (r : List RowS) (K : List PV → List RowS → Option R) : Option R := if g = 19 then s19 k a r K else if g = 20 then s20 k a r K else if g = 21 then s21 k a r K else callC T F k g a r K
theorem S3_eq (k : Nat) : S3 (R := R) k = callC T F k := by
  funext g a r K
  unfold S3
  repeat' split
  all_goals first | rfl | skip
  all_goals first | (rename_i h; subst h; exact s19_eq k a r K) | (rename_i h _; subst h; exact s19_eq k a r K) | skip
  all_goals first | (rename_i h; subst h; exact s20_eq k a r K) | (rename_i h _; subst h; exact s20_eq k a r K) | skip
  all_goals first | (rename_i h; subst h; exact s21_eq k a r K) | (rename_i h _; subst h; exact s21_eq k a r K) | skip

theorem q3 (k : Nat) (a0 : List Int) (K : List PV → List RowS → Option R) :
    execS T an3 (modesOf F) 0 k 11 (S3 k) (fun _ _ _ _ _ => none) (ending Try.f3 an3 0 K) (bodyOf Try.f3) ⟨argEnv 0 [.val [(0, 0)] (.slice (.int .u8)) a0] (fun _ => none), rowsOf []⟩ (ending Try.f3 an3 0 K) (fun _ _ => none) = f3 (k + 1) a0 (fun z0 => K [.val [] .bool z0] []) := by kernel_rfl
theorem e3 (k : Nat) (a0 : List Int) (K : List PV → List RowS → Option R) : callC T F k 3 [.val [(0, 0)] (.slice (.int .u8)) a0] [] K = f3 k a0 (fun z0 => K [.val [] .bool z0] []) := by
  cases k with
  | zero => rfl
  | succ k =>
    refine Eq.trans (show _ = exec T an3 (modesOf F) 0 k 11 (callC T F k) (ending Try.f3 an3 0 K) (bodyOf Try.f3) ⟨argEnv 0 [.val [(0, 0)] (.slice (.int .u8)) a0] (fun _ => none), rowsOf []⟩ (ending Try.f3 an3 0 K) (fun _ _ => none) from by kernel_rfl) ?_
    rw [← execS_eq T an3 (modesOf F) 0 k 11 (callC T F k) (fun _ _ _ _ _ => none) (bodyOf Try.f3) (cuts_of _ _ _ _ _ _ _ _ (bodyOf Try.f3) (l := []) (by kernel_rfl) trivial), ← S3_eq k]
    exact q3 k a0 K
noncomputable def s3 (k : Nat) (a : List PV) (r : List RowS) (K : List PV → List RowS → Option R) : Option R := match a, r with
  | [.val [(0, 0)] (.slice (.int .u8)) a0], [] => f3 k a0 (fun z0 => K [.val [] .bool z0] [])
  | a, r => callC T F k 3 a r K
theorem s3_eq (k : Nat) (a : List PV) (r : List RowS) (K : List PV → List RowS → Option R) : s3 k a r K = callC T F k 3 a r K := by
  unfold s3
  split
  · exact (e3 k _ K).symm
  · rfl
end
end Go.Proofs.Ytahdmfboidjkoaa.PM
