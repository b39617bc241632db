/- The small machine's run is the typed form (printed by a program of this work). -/
import Derived.Test.YtlcklflbhhnnhaaPW0
set_option linter.unusedVariables false
set_option linter.unusedSimpArgs false
set_option maxRecDepth 100000
namespace Go.Proofs.Ytlcklflbhhnnhaa.PM
open Go
section
variable {R : Type}
noncomputable def S92 (k g : Nat) (a : List PV) (r : List RowS) (K : List PV → List RowS → Option R) : Option R := bif g == 64 then s64 k a r K else bif g == 95 then s95 k a r K else bif g == 112 then s112 k a r K else bif g == 119 then s119 k a r K else bif g == 120 then s120 k a r K else callC T F k g a r K
theorem S92_eq (k : Nat) : S92 (R := R) k = callC T F k := by
  funext g a r K
  exact pick_eq (fun e => by subst e; exact s64_eq k a r K) (pick_eq (fun e => by subst e; exact s95_eq k a r K) (pick_eq (fun e => by subst e; exact s112_eq k a r K) (pick_eq (fun e => by subst e; exact s119_eq k a r K) (pick_eq (fun e => by subst e; exact s120_eq k a r K) (rfl)))))
section
variable {R : Type} (k : Nat) (K : List PV → List RowS → Option R)
noncomputable def L92_1000018 (ws : List PV) (rs : List RowS) (N : St → Option R) (X : Nat → St → Option R) : Option R :=
  onShape [.ptr 1 0, .ptr 2 0, .ptr 5 0, .ptr 6 0, .val [] .bool] [.vars [.val [] (.int .i64), .val [] (.int .i64), .val [] (.int .i64), .val [] (.int .i64), .val [] (.int .i64)], .vars [.val [] (.int .i64), .val [] (.int .i64), .val [] .str, .rw 3, .rw 4, .val [] (.int .i64), .val [] (.int .i64), .val [] (.int .i64), .val [] (.int .i64)], .arr [] (.int .u8), .arr [] (.prod (.int .i64) (.prod (.int .i64) .unit)), .vars [.val [] (.int .i64), .val [] (.int .i64), .val [] .str, .val [] (.int .i64), .val [] (.int .i64), .val [] (.int .i64), .val [(0, 0)] (.slice (.int .u8)), .val [(0, 0)] (.slice (.prod (.int .i64) (.prod (.int .i64) .unit))), .val [] .bool], .vars [.val [] (.int .i64), .val [] (.int .i64), .val [] .str, .nils, .nils, .val [] (.int .i64), .val [] (.int .i64), .val [] (.int .i64), .val [] (.int .i64)]] (fun v => f92_1000018 k (fun yN_11 => N (sh fi92_18 [.ptr 1 0, .ptr 2 0, .ptr 5 0, .ptr 6 0] [⟨0, .vars [zi v.2.1.1, zi v.2.1.2.1, zi v.2.1.2.2.1, zi v.2.1.2.2.2.1, zi v.2.1.2.2.2.2.1]⟩, ⟨0, .vars [zi v.2.2.1.1, zi v.2.2.1.2.1, .val [] .str v.2.2.1.2.2.1, .rw 3, .rw 4, zi v.2.2.1.2.2.2.2.2.1, zi v.2.2.1.2.2.2.2.2.2.1, zi v.2.2.1.2.2.2.2.2.2.2.1, zi yN_11]⟩, ⟨0, .arr [] (.int .u8) v.2.2.2.1⟩, ⟨0, .arr [] (.prod (.int .i64) (.prod (.int .i64) .unit)) v.2.2.2.2.1⟩, ⟨0, .vars [zi v.2.2.2.2.2.1.1, zi v.2.2.2.2.2.1.2.1, .val [] .str v.2.2.2.2.2.1.2.2.1, zi v.2.2.2.2.2.1.2.2.2.1, zi v.2.2.2.2.2.1.2.2.2.2.1, zi v.2.2.2.2.2.1.2.2.2.2.2.1, .val [(0, 0)] (.slice (.int .u8)) v.2.2.2.2.2.1.2.2.2.2.2.2.1, .val [(0, 0)] (.slice (.prod (.int .i64) (.prod (.int .i64) .unit))) v.2.2.2.2.2.1.2.2.2.2.2.2.2.1, .val [] .bool v.2.2.2.2.2.1.2.2.2.2.2.2.2.2.1]⟩, ⟨0, .vars [zi v.2.2.2.2.2.2.1.1, zi v.2.2.2.2.2.2.1.2.1, .val [] .str v.2.2.2.2.2.2.1.2.2.1, .nils, .nils, zi v.2.2.2.2.2.2.1.2.2.2.2.2.1, zi v.2.2.2.2.2.2.1.2.2.2.2.2.2.1, zi v.2.2.2.2.2.2.1.2.2.2.2.2.2.2.1, zi v.2.2.2.2.2.2.1.2.2.2.2.2.2.2.2.1]⟩])) v.1.2.2.2.2.1 v.2.1.1 v.2.1.2.1 v.2.1.2.2.1 v.2.1.2.2.2.1 v.2.1.2.2.2.2.1 v.2.2.1.1 v.2.2.1.2.1 v.2.2.1.2.2.1 v.2.2.1.2.2.2.2.2.1 v.2.2.1.2.2.2.2.2.2.1 v.2.2.1.2.2.2.2.2.2.2.1 v.2.2.1.2.2.2.2.2.2.2.2.1 v.2.2.2.1 v.2.2.2.2.1 v.2.2.2.2.2.1.1 v.2.2.2.2.2.1.2.1 v.2.2.2.2.2.1.2.2.1 v.2.2.2.2.2.1.2.2.2.1 v.2.2.2.2.2.1.2.2.2.2.1 v.2.2.2.2.2.1.2.2.2.2.2.1 v.2.2.2.2.2.1.2.2.2.2.2.2.1 v.2.2.2.2.2.1.2.2.2.2.2.2.2.1 v.2.2.2.2.2.1.2.2.2.2.2.2.2.2.1 v.2.2.2.2.2.2.1.1 v.2.2.2.2.2.2.1.2.1 v.2.2.2.2.2.2.1.2.2.1 v.2.2.2.2.2.2.1.2.2.2.2.2.1 v.2.2.2.2.2.2.1.2.2.2.2.2.2.1 v.2.2.2.2.2.2.1.2.2.2.2.2.2.2.1 v.2.2.2.2.2.2.1.2.2.2.2.2.2.2.2.1) (inner T an92 (modesOf F) 0 k 169 (S92 k) (ending T Try.f92 an92 0 K) cd92_1000018 (sh sp92_1000018 ws rs) N X) ws rs
noncomputable def L92_1000023 (ws : List PV) (rs : List RowS) (N : St → Option R) (X : Nat → St → Option R) : Option R :=
  onShape [.ptr 1 0, .ptr 2 0, .ptr 3 0, .ptr 4 0, .val [] .bool] [.vars [.val [] (.int .i64), .val [] (.int .i64), .val [] (.int .i64), .val [] (.int .i64), .val [] (.int .i64)], .vars [.val [] (.int .i64), .val [] (.int .i64), .val [] .str, .val [(0, 0)] (.slice (.int .u8)), .val [(0, 0)] (.slice (.prod (.int .i64) (.prod (.int .i64) .unit))), .val [] (.int .i64), .val [] (.int .i64), .val [] (.int .i64), .val [] (.int .i64)], .vars [.val [] (.int .i64), .val [] (.int .i64), .val [] .str, .val [] (.int .i64), .val [] (.int .i64), .val [] (.int .i64), .val [(0, 0)] (.slice (.int .u8)), .val [(0, 0)] (.slice (.prod (.int .i64) (.prod (.int .i64) .unit))), .val [] .bool], .vars [.val [] (.int .i64), .val [] (.int .i64), .val [] .str, .nils, .nils, .val [] (.int .i64), .val [] (.int .i64), .val [] (.int .i64), .val [] (.int .i64)]] (fun v => f92_1000023 k (fun yN_7 => N (sh fi92_23 [.ptr 1 0, .ptr 2 0, .ptr 3 0, .ptr 4 0] [⟨0, .vars [zi v.2.1.1, zi v.2.1.2.1, zi v.2.1.2.2.1, zi v.2.1.2.2.2.1, zi v.2.1.2.2.2.2.1]⟩, ⟨0, .vars [zi v.2.2.1.1, zi v.2.2.1.2.1, .val [] .str yN_7, .val [(0, 0)] (.slice (.int .u8)) v.2.2.1.2.2.2.1, .val [(0, 0)] (.slice (.prod (.int .i64) (.prod (.int .i64) .unit))) v.2.2.1.2.2.2.2.1, zi v.2.2.1.2.2.2.2.2.1, zi v.2.2.1.2.2.2.2.2.2.1, zi v.2.2.1.2.2.2.2.2.2.2.1, zi v.2.2.1.2.2.2.2.2.2.2.2.1]⟩, ⟨0, .vars [zi v.2.2.2.1.1, zi v.2.2.2.1.2.1, .val [] .str v.2.2.2.1.2.2.1, zi v.2.2.2.1.2.2.2.1, zi v.2.2.2.1.2.2.2.2.1, zi v.2.2.2.1.2.2.2.2.2.1, .val [(0, 0)] (.slice (.int .u8)) v.2.2.2.1.2.2.2.2.2.2.1, .val [(0, 0)] (.slice (.prod (.int .i64) (.prod (.int .i64) .unit))) v.2.2.2.1.2.2.2.2.2.2.2.1, .val [] .bool v.2.2.2.1.2.2.2.2.2.2.2.2.1]⟩, ⟨0, .vars [zi v.2.2.2.2.1.1, zi v.2.2.2.2.1.2.1, .val [] .str v.2.2.2.2.1.2.2.1, .nils, .nils, zi v.2.2.2.2.1.2.2.2.2.2.1, zi v.2.2.2.2.1.2.2.2.2.2.2.1, zi v.2.2.2.2.1.2.2.2.2.2.2.2.1, zi v.2.2.2.2.1.2.2.2.2.2.2.2.2.1]⟩])) v.1.2.2.2.2.1 v.2.1.1 v.2.1.2.1 v.2.1.2.2.1 v.2.1.2.2.2.1 v.2.1.2.2.2.2.1 v.2.2.1.1 v.2.2.1.2.1 v.2.2.1.2.2.1 v.2.2.1.2.2.2.1 v.2.2.1.2.2.2.2.1 v.2.2.1.2.2.2.2.2.1 v.2.2.1.2.2.2.2.2.2.1 v.2.2.1.2.2.2.2.2.2.2.1 v.2.2.1.2.2.2.2.2.2.2.2.1 v.2.2.2.1.1 v.2.2.2.1.2.1 v.2.2.2.1.2.2.1 v.2.2.2.1.2.2.2.1 v.2.2.2.1.2.2.2.2.1 v.2.2.2.1.2.2.2.2.2.1 v.2.2.2.1.2.2.2.2.2.2.1 v.2.2.2.1.2.2.2.2.2.2.2.1 v.2.2.2.1.2.2.2.2.2.2.2.2.1 v.2.2.2.2.1.1 v.2.2.2.2.1.2.1 v.2.2.2.2.1.2.2.1 v.2.2.2.2.1.2.2.2.2.2.1 v.2.2.2.2.1.2.2.2.2.2.2.1 v.2.2.2.2.1.2.2.2.2.2.2.2.1 v.2.2.2.2.1.2.2.2.2.2.2.2.2.1) (inner T an92 (modesOf F) 0 k 169 (S92 k) (ending T Try.f92 an92 0 K) cd92_1000023 (sh sp92_1000023 ws rs) N X) ws rs
noncomputable def L92_1000015 (ws : List PV) (rs : List RowS) (N : St → Option R) (X : Nat → St → Option R) : Option R :=
  onShape [.ptr 1 0, .ptr 2 0, .ptr 3 0, .ptr 4 0, .val [] .bool] [.vars [.val [] (.int .i64), .val [] (.int .i64), .val [] (.int .i64), .val [] (.int .i64), .val [] (.int .i64)], .vars [.val [] (.int .i64), .val [] (.int .i64), .val [] .str, .val [(0, 0)] (.slice (.int .u8)), .val [(0, 0)] (.slice (.prod (.int .i64) (.prod (.int .i64) .unit))), .val [] (.int .i64), .val [] (.int .i64), .val [] (.int .i64), .val [] (.int .i64)], .vars [.val [] (.int .i64), .val [] (.int .i64), .val [] .str, .val [] (.int .i64), .val [] (.int .i64), .val [] (.int .i64), .val [(0, 0)] (.slice (.int .u8)), .val [(0, 0)] (.slice (.prod (.int .i64) (.prod (.int .i64) .unit))), .val [] .bool], .vars [.val [] (.int .i64), .val [] (.int .i64), .val [] .str, .nils, .nils, .val [] (.int .i64), .val [] (.int .i64), .val [] (.int .i64), .val [] (.int .i64)]] (fun v => f92_1000015 k (fun z0 z1 z2 z3 z4 z5 z6 z7 z8 z9 z10 => K [.agg [zi z0, zi z1, .val [] .str z2, .val [(0, 0)] (.slice (.int .u8)) z3, .val [(0, 0)] (.slice (.prod (.int .i64) (.prod (.int .i64) .unit))) z4, zi z5, zi z6, zi z7, zi z8], .rw 1, zi z9] [⟨0, .arr [(0, 0)] (.prod (.int .i64) (.prod (.int .i64) (.prod .str (.prod (.int .i64) (.prod (.int .i64) (.prod (.int .i64) (.prod (.slice (.int .u8)) (.prod (.slice (.prod (.int .i64) (.prod (.int .i64) .unit))) (.prod .bool .unit))))))))) z10⟩]) (fun yN_7 yN_8 yN_9 yN_10 yN_11 yN_13 => N (sh fi92_15 [.ptr 1 0, .ptr 2 0, .ptr 3 0, .ptr 4 0] [⟨0, .vars [zi v.2.1.1, zi v.2.1.2.1, zi v.2.1.2.2.1, zi v.2.1.2.2.2.1, zi v.2.1.2.2.2.2.1]⟩, ⟨0, .vars [zi v.2.2.1.1, zi v.2.2.1.2.1, .val [] .str yN_7, .val [(0, 0)] (.slice (.int .u8)) yN_8, .val [(0, 0)] (.slice (.prod (.int .i64) (.prod (.int .i64) .unit))) yN_9, zi yN_10, zi yN_11, zi v.2.2.1.2.2.2.2.2.2.2.1, zi yN_13]⟩, ⟨0, .vars [zi v.2.2.2.1.1, zi v.2.2.2.1.2.1, .val [] .str v.2.2.2.1.2.2.1, zi v.2.2.2.1.2.2.2.1, zi v.2.2.2.1.2.2.2.2.1, zi v.2.2.2.1.2.2.2.2.2.1, .val [(0, 0)] (.slice (.int .u8)) v.2.2.2.1.2.2.2.2.2.2.1, .val [(0, 0)] (.slice (.prod (.int .i64) (.prod (.int .i64) .unit))) v.2.2.2.1.2.2.2.2.2.2.2.1, .val [] .bool v.2.2.2.1.2.2.2.2.2.2.2.2.1]⟩, ⟨0, .vars [zi v.2.2.2.2.1.1, zi v.2.2.2.2.1.2.1, .val [] .str v.2.2.2.2.1.2.2.1, .nils, .nils, zi v.2.2.2.2.1.2.2.2.2.2.1, zi v.2.2.2.2.1.2.2.2.2.2.2.1, zi v.2.2.2.2.1.2.2.2.2.2.2.2.1, zi v.2.2.2.2.1.2.2.2.2.2.2.2.2.1]⟩])) v.1.2.2.2.2.1 v.2.1.1 v.2.1.2.1 v.2.1.2.2.1 v.2.1.2.2.2.1 v.2.1.2.2.2.2.1 v.2.2.1.1 v.2.2.1.2.1 v.2.2.1.2.2.1 v.2.2.1.2.2.2.1 v.2.2.1.2.2.2.2.1 v.2.2.1.2.2.2.2.2.1 v.2.2.1.2.2.2.2.2.2.1 v.2.2.1.2.2.2.2.2.2.2.1 v.2.2.1.2.2.2.2.2.2.2.2.1 v.2.2.2.1.1 v.2.2.2.1.2.1 v.2.2.2.1.2.2.1 v.2.2.2.1.2.2.2.1 v.2.2.2.1.2.2.2.2.1 v.2.2.2.1.2.2.2.2.2.1 v.2.2.2.1.2.2.2.2.2.2.1 v.2.2.2.1.2.2.2.2.2.2.2.1 v.2.2.2.1.2.2.2.2.2.2.2.2.1 v.2.2.2.2.1.1 v.2.2.2.2.1.2.1 v.2.2.2.2.1.2.2.1 v.2.2.2.2.1.2.2.2.2.2.1 v.2.2.2.2.1.2.2.2.2.2.2.1 v.2.2.2.2.1.2.2.2.2.2.2.2.1 v.2.2.2.2.1.2.2.2.2.2.2.2.2.1) (inner T an92 (modesOf F) 0 k 169 (S92 k) (ending T Try.f92 an92 0 K) cd92_1000015 (sh sp92_1000015 ws rs) N X) ws rs
noncomputable def L92_1000025 (ws : List PV) (rs : List RowS) (N : St → Option R) (X : Nat → St → Option R) : Option R :=
  onShape [.ptr 1 0, .ptr 2 0, .ptr 3 0, .ptr 4 0, .val [] .bool] [.vars [.val [] (.int .i64), .val [] (.int .i64), .val [] (.int .i64), .val [] (.int .i64), .val [] (.int .i64)], .vars [.val [] (.int .i64), .val [] (.int .i64), .val [] .str, .val [(0, 0)] (.slice (.int .u8)), .val [(0, 0)] (.slice (.prod (.int .i64) (.prod (.int .i64) .unit))), .val [] (.int .i64), .val [] (.int .i64), .val [] (.int .i64), .val [] (.int .i64)], .vars [.val [] (.int .i64), .val [] (.int .i64), .val [] .str, .val [] (.int .i64), .val [] (.int .i64), .val [] (.int .i64), .val [(0, 0)] (.slice (.int .u8)), .val [(0, 0)] (.slice (.prod (.int .i64) (.prod (.int .i64) .unit))), .val [] .bool], .vars [.val [] (.int .i64), .val [] (.int .i64), .val [] .str, .nils, .nils, .val [] (.int .i64), .val [] (.int .i64), .val [] (.int .i64), .val [] (.int .i64)]] (fun v => f92_1000025 k (fun yN_5 => N (sh fi92_25 [.ptr 1 0, .ptr 2 0, .ptr 3 0, .ptr 4 0] [⟨0, .vars [zi v.2.1.1, zi v.2.1.2.1, zi v.2.1.2.2.1, zi v.2.1.2.2.2.1, zi v.2.1.2.2.2.2.1]⟩, ⟨0, .vars [zi yN_5, zi v.2.2.1.2.1, .val [] .str v.2.2.1.2.2.1, .val [(0, 0)] (.slice (.int .u8)) v.2.2.1.2.2.2.1, .val [(0, 0)] (.slice (.prod (.int .i64) (.prod (.int .i64) .unit))) v.2.2.1.2.2.2.2.1, zi v.2.2.1.2.2.2.2.2.1, zi v.2.2.1.2.2.2.2.2.2.1, zi v.2.2.1.2.2.2.2.2.2.2.1, zi v.2.2.1.2.2.2.2.2.2.2.2.1]⟩, ⟨0, .vars [zi v.2.2.2.1.1, zi v.2.2.2.1.2.1, .val [] .str v.2.2.2.1.2.2.1, zi v.2.2.2.1.2.2.2.1, zi v.2.2.2.1.2.2.2.2.1, zi v.2.2.2.1.2.2.2.2.2.1, .val [(0, 0)] (.slice (.int .u8)) v.2.2.2.1.2.2.2.2.2.2.1, .val [(0, 0)] (.slice (.prod (.int .i64) (.prod (.int .i64) .unit))) v.2.2.2.1.2.2.2.2.2.2.2.1, .val [] .bool v.2.2.2.1.2.2.2.2.2.2.2.2.1]⟩, ⟨0, .vars [zi v.2.2.2.2.1.1, zi v.2.2.2.2.1.2.1, .val [] .str v.2.2.2.2.1.2.2.1, .nils, .nils, zi v.2.2.2.2.1.2.2.2.2.2.1, zi v.2.2.2.2.1.2.2.2.2.2.2.1, zi v.2.2.2.2.1.2.2.2.2.2.2.2.1, zi v.2.2.2.2.1.2.2.2.2.2.2.2.2.1]⟩])) v.1.2.2.2.2.1 v.2.1.1 v.2.1.2.1 v.2.1.2.2.1 v.2.1.2.2.2.1 v.2.1.2.2.2.2.1 v.2.2.1.1 v.2.2.1.2.1 v.2.2.1.2.2.1 v.2.2.1.2.2.2.1 v.2.2.1.2.2.2.2.1 v.2.2.1.2.2.2.2.2.1 v.2.2.1.2.2.2.2.2.2.1 v.2.2.1.2.2.2.2.2.2.2.1 v.2.2.1.2.2.2.2.2.2.2.2.1 v.2.2.2.1.1 v.2.2.2.1.2.1 v.2.2.2.1.2.2.1 v.2.2.2.1.2.2.2.1 v.2.2.2.1.2.2.2.2.1 v.2.2.2.1.2.2.2.2.2.1 v.2.2.2.1.2.2.2.2.2.2.1 v.2.2.2.1.2.2.2.2.2.2.2.1 v.2.2.2.1.2.2.2.2.2.2.2.2.1 v.2.2.2.2.1.1 v.2.2.2.2.1.2.1 v.2.2.2.2.1.2.2.1 v.2.2.2.2.1.2.2.2.2.2.1 v.2.2.2.2.1.2.2.2.2.2.2.1 v.2.2.2.2.1.2.2.2.2.2.2.2.1 v.2.2.2.2.1.2.2.2.2.2.2.2.2.1) (inner T an92 (modesOf F) 0 k 169 (S92 k) (ending T Try.f92 an92 0 K) cd92_1000025 (sh sp92_1000025 ws rs) N X) ws rs
noncomputable def L92_1000030 (ws : List PV) (rs : List RowS) (N : St → Option R) (X : Nat → St → Option R) : Option R :=
  onShape [.ptr 1 0, .ptr 2 0, .val [] .bool, .val [] .bool] [.vars [.val [] (.int .i64), .val [] (.int .i64), .val [] .str, .val [(0, 0)] (.slice (.int .u8)), .val [(0, 0)] (.slice (.prod (.int .i64) (.prod (.int .i64) .unit))), .val [] (.int .i64), .val [] (.int .i64), .val [] (.int .i64), .val [] (.int .i64)], .vars [.val [] (.int .i64), .val [] (.int .i64), .val [] .str, .nils, .nils, .val [] (.int .i64), .val [] (.int .i64), .val [] (.int .i64), .val [] (.int .i64)]] (fun v => f92_1000030 k (fun yN_1 => N (sh fi92_30 [.ptr 1 0, .ptr 2 0, .val [] .bool v.1.2.2.1] [⟨0, .vars [zi yN_1, zi v.2.1.2.1, .val [] .str v.2.1.2.2.1, .val [(0, 0)] (.slice (.int .u8)) v.2.1.2.2.2.1, .val [(0, 0)] (.slice (.prod (.int .i64) (.prod (.int .i64) .unit))) v.2.1.2.2.2.2.1, zi v.2.1.2.2.2.2.2.1, zi v.2.1.2.2.2.2.2.2.1, zi v.2.1.2.2.2.2.2.2.2.1, zi v.2.1.2.2.2.2.2.2.2.2.1]⟩, ⟨0, .vars [zi v.2.2.1.1, zi v.2.2.1.2.1, .val [] .str v.2.2.1.2.2.1, .nils, .nils, zi v.2.2.1.2.2.2.2.2.1, zi v.2.2.1.2.2.2.2.2.2.1, zi v.2.2.1.2.2.2.2.2.2.2.1, zi v.2.2.1.2.2.2.2.2.2.2.2.1]⟩])) v.1.2.2.1 v.1.2.2.2.1 v.2.1.1 v.2.1.2.1 v.2.1.2.2.1 v.2.1.2.2.2.1 v.2.1.2.2.2.2.1 v.2.1.2.2.2.2.2.1 v.2.1.2.2.2.2.2.2.1 v.2.1.2.2.2.2.2.2.2.1 v.2.1.2.2.2.2.2.2.2.2.1 v.2.2.1.1 v.2.2.1.2.1 v.2.2.1.2.2.1 v.2.2.1.2.2.2.2.2.1 v.2.2.1.2.2.2.2.2.2.1 v.2.2.1.2.2.2.2.2.2.2.1 v.2.2.1.2.2.2.2.2.2.2.2.1) (inner T an92 (modesOf F) 0 k 169 (S92 k) (ending T Try.f92 an92 0 K) cd92_1000030 (sh sp92_1000030 ws rs) N X) ws rs
noncomputable def L92 (id : Nat) (ws : List PV) (rs : List RowS) (N : St → Option R) (X : Nat → St → Option R) : Option R := bif id == 1000018 then L92_1000018 k K ws rs N X else bif id == 1000023 then L92_1000023 k K ws rs N X else bif id == 1000015 then L92_1000015 k K ws rs N X else bif id == 1000025 then L92_1000025 k K ws rs N X else bif id == 1000030 then L92_1000030 k K ws rs N X else none
theorem l92_1000018 (ws : List PV) (rs : List RowS) (N : St → Option R) (X : Nat → St → Option R) : L92 k K 1000018 ws rs N X = inner T an92 (modesOf F) 0 k 169 (S92 k) (ending T Try.f92 an92 0 K) cd92_1000018 (sh sp92_1000018 ws rs) N X := by
  show L92_1000018 k K ws rs N X = _
  unfold L92_1000018
  rw [f92_1000018_def]
  exact onShape_eq (a := [.ptr 1 0, .ptr 2 0, .ptr 5 0, .ptr 6 0, .val [] .bool]) (b := [.vars [.val [] (.int .i64), .val [] (.int .i64), .val [] (.int .i64), .val [] (.int .i64), .val [] (.int .i64)], .vars [.val [] (.int .i64), .val [] (.int .i64), .val [] .str, .rw 3, .rw 4, .val [] (.int .i64), .val [] (.int .i64), .val [] (.int .i64), .val [] (.int .i64)], .arr [] (.int .u8), .arr [] (.prod (.int .i64) (.prod (.int .i64) .unit)), .vars [.val [] (.int .i64), .val [] (.int .i64), .val [] .str, .val [] (.int .i64), .val [] (.int .i64), .val [] (.int .i64), .val [(0, 0)] (.slice (.int .u8)), .val [(0, 0)] (.slice (.prod (.int .i64) (.prod (.int .i64) .unit))), .val [] .bool], .vars [.val [] (.int .i64), .val [] (.int .i64), .val [] .str, .nils, .nils, .val [] (.int .i64), .val [] (.int .i64), .val [] (.int .i64), .val [] (.int .i64)]]) (G := fun ws rs => inner T an92 (modesOf F) 0 k 169 (S92 k) (ending T Try.f92 an92 0 K) cd92_1000018 (sh sp92_1000018 ws rs) N X) (fun x y => Eq.trans (by kernel_rfl) (innerS_eq T an92 (modesOf F) 0 k 169 (S92 k) (L92 k K) cd92_1000018 (l := []) (by kernel_rfl) trivial _ N X)) ws rs
theorem l92_1000023 (ws : List PV) (rs : List RowS) (N : St → Option R) (X : Nat → St → Option R) : L92 k K 1000023 ws rs N X = inner T an92 (modesOf F) 0 k 169 (S92 k) (ending T Try.f92 an92 0 K) cd92_1000023 (sh sp92_1000023 ws rs) N X := by
  show L92_1000023 k K ws rs N X = _
  unfold L92_1000023
  rw [f92_1000023_def]
  exact onShape_eq (a := [.ptr 1 0, .ptr 2 0, .ptr 3 0, .ptr 4 0, .val [] .bool]) (b := [.vars [.val [] (.int .i64), .val [] (.int .i64), .val [] (.int .i64), .val [] (.int .i64), .val [] (.int .i64)], .vars [.val [] (.int .i64), .val [] (.int .i64), .val [] .str, .val [(0, 0)] (.slice (.int .u8)), .val [(0, 0)] (.slice (.prod (.int .i64) (.prod (.int .i64) .unit))), .val [] (.int .i64), .val [] (.int .i64), .val [] (.int .i64), .val [] (.int .i64)], .vars [.val [] (.int .i64), .val [] (.int .i64), .val [] .str, .val [] (.int .i64), .val [] (.int .i64), .val [] (.int .i64), .val [(0, 0)] (.slice (.int .u8)), .val [(0, 0)] (.slice (.prod (.int .i64) (.prod (.int .i64) .unit))), .val [] .bool], .vars [.val [] (.int .i64), .val [] (.int .i64), .val [] .str, .nils, .nils, .val [] (.int .i64), .val [] (.int .i64), .val [] (.int .i64), .val [] (.int .i64)]]) (G := fun ws rs => inner T an92 (modesOf F) 0 k 169 (S92 k) (ending T Try.f92 an92 0 K) cd92_1000023 (sh sp92_1000023 ws rs) N X) (fun x y => Eq.trans (by kernel_rfl) (innerS_eq T an92 (modesOf F) 0 k 169 (S92 k) (L92 k K) cd92_1000023 (l := []) (by kernel_rfl) trivial _ N X)) ws rs
theorem l92_1000015 (ws : List PV) (rs : List RowS) (N : St → Option R) (X : Nat → St → Option R) : L92 k K 1000015 ws rs N X = inner T an92 (modesOf F) 0 k 169 (S92 k) (ending T Try.f92 an92 0 K) cd92_1000015 (sh sp92_1000015 ws rs) N X := by
  show L92_1000015 k K ws rs N X = _
  unfold L92_1000015
  rw [f92_1000015_def]
  exact onShape_eq (a := [.ptr 1 0, .ptr 2 0, .ptr 3 0, .ptr 4 0, .val [] .bool]) (b := [.vars [.val [] (.int .i64), .val [] (.int .i64), .val [] (.int .i64), .val [] (.int .i64), .val [] (.int .i64)], .vars [.val [] (.int .i64), .val [] (.int .i64), .val [] .str, .val [(0, 0)] (.slice (.int .u8)), .val [(0, 0)] (.slice (.prod (.int .i64) (.prod (.int .i64) .unit))), .val [] (.int .i64), .val [] (.int .i64), .val [] (.int .i64), .val [] (.int .i64)], .vars [.val [] (.int .i64), .val [] (.int .i64), .val [] .str, .val [] (.int .i64), .val [] (.int .i64), .val [] (.int .i64), .val [(0, 0)] (.slice (.int .u8)), .val [(0, 0)] (.slice (.prod (.int .i64) (.prod (.int .i64) .unit))), .val [] .bool], .vars [.val [] (.int .i64), .val [] (.int .i64), .val [] .str, .nils, .nils, .val [] (.int .i64), .val [] (.int .i64), .val [] (.int .i64), .val [] (.int .i64)]]) (G := fun ws rs => inner T an92 (modesOf F) 0 k 169 (S92 k) (ending T Try.f92 an92 0 K) cd92_1000015 (sh sp92_1000015 ws rs) N X) (fun x y => Eq.trans (by kernel_rfl) (innerS_eq T an92 (modesOf F) 0 k 169 (S92 k) (L92 k K) cd92_1000015 (l := [(1000018, sp92_1000018, cd92_1000018), (1000023, sp92_1000023, cd92_1000023)]) (by kernel_rfl) ⟨l92_1000018 k K, l92_1000023 k K, trivial⟩ _ N X)) ws rs
theorem l92_1000025 (ws : List PV) (rs : List RowS) (N : St → Option R) (X : Nat → St → Option R) : L92 k K 1000025 ws rs N X = inner T an92 (modesOf F) 0 k 169 (S92 k) (ending T Try.f92 an92 0 K) cd92_1000025 (sh sp92_1000025 ws rs) N X := by
  show L92_1000025 k K ws rs N X = _
  unfold L92_1000025
  rw [f92_1000025_def]
  exact onShape_eq (a := [.ptr 1 0, .ptr 2 0, .ptr 3 0, .ptr 4 0, .val [] .bool]) (b := [.vars [.val [] (.int .i64), .val [] (.int .i64), .val [] (.int .i64), .val [] (.int .i64), .val [] (.int .i64)], .vars [.val [] (.int .i64), .val [] (.int .i64), .val [] .str, .val [(0, 0)] (.slice (.int .u8)), .val [(0, 0)] (.slice (.prod (.int .i64) (.prod (.int .i64) .unit))), .val [] (.int .i64), .val [] (.int .i64), .val [] (.int .i64), .val [] (.int .i64)], .vars [.val [] (.int .i64), .val [] (.int .i64), .val [] .str, .val [] (.int .i64), .val [] (.int .i64), .val [] (.int .i64), .val [(0, 0)] (.slice (.int .u8)), .val [(0, 0)] (.slice (.prod (.int .i64) (.prod (.int .i64) .unit))), .val [] .bool], .vars [.val [] (.int .i64), .val [] (.int .i64), .val [] .str, .nils, .nils, .val [] (.int .i64), .val [] (.int .i64), .val [] (.int .i64), .val [] (.int .i64)]]) (G := fun ws rs => inner T an92 (modesOf F) 0 k 169 (S92 k) (ending T Try.f92 an92 0 K) cd92_1000025 (sh sp92_1000025 ws rs) N X) (fun x y => Eq.trans (by kernel_rfl) (innerS_eq T an92 (modesOf F) 0 k 169 (S92 k) (L92 k K) cd92_1000025 (l := []) (by kernel_rfl) trivial _ N X)) ws rs
theorem l92_1000030 (ws : List PV) (rs : List RowS) (N : St → Option R) (X : Nat → St → Option R) : L92 k K 1000030 ws rs N X = inner T an92 (modesOf F) 0 k 169 (S92 k) (ending T Try.f92 an92 0 K) cd92_1000030 (sh sp92_1000030 ws rs) N X := by
  show L92_1000030 k K ws rs N X = _
  unfold L92_1000030
  rw [f92_1000030_def]
  exact onShape_eq (a := [.ptr 1 0, .ptr 2 0, .val [] .bool, .val [] .bool]) (b := [.vars [.val [] (.int .i64), .val [] (.int .i64), .val [] .str, .val [(0, 0)] (.slice (.int .u8)), .val [(0, 0)] (.slice (.prod (.int .i64) (.prod (.int .i64) .unit))), .val [] (.int .i64), .val [] (.int .i64), .val [] (.int .i64), .val [] (.int .i64)], .vars [.val [] (.int .i64), .val [] (.int .i64), .val [] .str, .nils, .nils, .val [] (.int .i64), .val [] (.int .i64), .val [] (.int .i64), .val [] (.int .i64)]]) (G := fun ws rs => inner T an92 (modesOf F) 0 k 169 (S92 k) (ending T Try.f92 an92 0 K) cd92_1000030 (sh sp92_1000030 ws rs) N X) (fun x y => Eq.trans (by kernel_rfl) (innerS_eq T an92 (modesOf F) 0 k 169 (S92 k) (L92 k K) cd92_1000030 (l := []) (by kernel_rfl) trivial _ N X)) ws rs
end
theorem e92 (k : Nat) (a0 : Int) (a1 : Int) (a2 : Int) (a3 : Int) (a4 : Int) (a5 : Int) (a6 : Int) (a7 : ByteArray) (a8 : List Int) (a9 : zL3) (a10 : Int) (a11 : Int) (a12 : Int) (a13 : Int) (a14 : Int) (a15 : Int) (a16 : ByteArray) (a17 : Int) (a18 : Int) (a19 : Int) (a20 : List Int) (a21 : zL3) (a22 : Bool) (K : List PV → List RowS → Option R) : callC T F k 92 [.agg [zi a0, zi a1, zi a2, zi a3, zi a4], .agg [zi a5, zi a6, .val [] .str a7, .val [(0, 0)] (.slice (.int .u8)) a8, .val [(0, 0)] (.slice (.prod (.int .i64) (.prod (.int .i64) .unit))) a9, zi a10, zi a11, zi a12, zi a13], .agg [zi a14, zi a15, .val [] .str a16, zi a17, zi a18, zi a19, .val [(0, 0)] (.slice (.int .u8)) a20, .val [(0, 0)] (.slice (.prod (.int .i64) (.prod (.int .i64) .unit))) a21, .val [] .bool a22]] [] K = f92 k a0 a1 a2 a3 a4 a5 a6 a7 a8 a9 a10 a11 a12 a13 a14 a15 a16 a17 a18 a19 a20 a21 a22 (fun z0 z1 z2 z3 z4 z5 z6 z7 z8 z9 z10 => K [.agg [zi z0, zi z1, .val [] .str z2, .val [(0, 0)] (.slice (.int .u8)) z3, .val [(0, 0)] (.slice (.prod (.int .i64) (.prod (.int .i64) .unit))) z4, zi z5, zi z6, zi z7, zi z8], .rw 1, zi z9] [⟨0, .arr [(0, 0)] (.prod (.int .i64) (.prod (.int .i64) (.prod .str (.prod (.int .i64) (.prod (.int .i64) (.prod (.int .i64) (.prod (.slice (.int .u8)) (.prod (.slice (.prod (.int .i64) (.prod (.int .i64) .unit))) (.prod .bool .unit))))))))) z10⟩]) := by
  rw [f92_def]
  cases k with
  | zero => rfl
  | succ k =>
    refine Eq.trans (show _ = exec T an92 (modesOf F) 0 k 169 (callC T F k) (ending T Try.f92 an92 0 K) (bodyOf Try.f92) ⟨argEnv 0 [.agg [zi a0, zi a1, zi a2, zi a3, zi a4], .agg [zi a5, zi a6, .val [] .str a7, .val [(0, 0)] (.slice (.int .u8)) a8, .val [(0, 0)] (.slice (.prod (.int .i64) (.prod (.int .i64) .unit))) a9, zi a10, zi a11, zi a12, zi a13], .agg [zi a14, zi a15, .val [] .str a16, zi a17, zi a18, zi a19, .val [(0, 0)] (.slice (.int .u8)) a20, .val [(0, 0)] (.slice (.prod (.int .i64) (.prod (.int .i64) .unit))) a21, .val [] .bool a22]] (fun _ => none), rowsOf []⟩ (ending T Try.f92 an92 0 K) (fun _ _ => none) from by kernel_rfl) ?_
    rw [← S92_eq k, ← execS_eq T an92 (modesOf F) 0 k 169 (S92 k) (L92 k K) (bodyOf Try.f92) (cuts_of _ _ _ _ _ _ _ _ (bodyOf Try.f92) (l := [(1000015, sp92_1000015, cd92_1000015), (1000025, sp92_1000025, cd92_1000025), (1000030, sp92_1000030, cd92_1000030)]) (by kernel_rfl) ⟨l92_1000015 k K, l92_1000025 k K, l92_1000030 k K, trivial⟩)]
    kernel_rfl
noncomputable def s92 (k : Nat) (a : List PV) (r : List RowS) (K : List PV → List RowS → Option R) : Option R :=
  onShape [.agg [.val [] (.int .i64), .val [] (.int .i64), .val [] (.int .i64), .val [] (.int .i64), .val [] (.int .i64)], .agg [.val [] (.int .i64), .val [] (.int .i64), .val [] .str, .val [(0, 0)] (.slice (.int .u8)), .val [(0, 0)] (.slice (.prod (.int .i64) (.prod (.int .i64) .unit))), .val [] (.int .i64), .val [] (.int .i64), .val [] (.int .i64), .val [] (.int .i64)], .agg [.val [] (.int .i64), .val [] (.int .i64), .val [] .str, .val [] (.int .i64), .val [] (.int .i64), .val [] (.int .i64), .val [(0, 0)] (.slice (.int .u8)), .val [(0, 0)] (.slice (.prod (.int .i64) (.prod (.int .i64) .unit))), .val [] .bool]] [] (fun v => f92 k v.1.1.1 v.1.1.2.1 v.1.1.2.2.1 v.1.1.2.2.2.1 v.1.1.2.2.2.2.1 v.1.2.1.1 v.1.2.1.2.1 v.1.2.1.2.2.1 v.1.2.1.2.2.2.1 v.1.2.1.2.2.2.2.1 v.1.2.1.2.2.2.2.2.1 v.1.2.1.2.2.2.2.2.2.1 v.1.2.1.2.2.2.2.2.2.2.1 v.1.2.1.2.2.2.2.2.2.2.2.1 v.1.2.2.1.1 v.1.2.2.1.2.1 v.1.2.2.1.2.2.1 v.1.2.2.1.2.2.2.1 v.1.2.2.1.2.2.2.2.1 v.1.2.2.1.2.2.2.2.2.1 v.1.2.2.1.2.2.2.2.2.2.1 v.1.2.2.1.2.2.2.2.2.2.2.1 v.1.2.2.1.2.2.2.2.2.2.2.2.1 (fun z0 z1 z2 z3 z4 z5 z6 z7 z8 z9 z10 => K [.agg [zi z0, zi z1, .val [] .str z2, .val [(0, 0)] (.slice (.int .u8)) z3, .val [(0, 0)] (.slice (.prod (.int .i64) (.prod (.int .i64) .unit))) z4, zi z5, zi z6, zi z7, zi z8], .rw 1, zi z9] [⟨0, .arr [(0, 0)] (.prod (.int .i64) (.prod (.int .i64) (.prod .str (.prod (.int .i64) (.prod (.int .i64) (.prod (.int .i64) (.prod (.slice (.int .u8)) (.prod (.slice (.prod (.int .i64) (.prod (.int .i64) .unit))) (.prod .bool .unit))))))))) z10⟩])) (callC T F k 92 a r K) a r
theorem s92_eq (k : Nat) (a : List PV) (r : List RowS) (K : List PV → List RowS → Option R) : s92 k a r K = callC T F k 92 a r K := by
  unfold s92
  exact onShape_eq (a := [.agg [.val [] (.int .i64), .val [] (.int .i64), .val [] (.int .i64), .val [] (.int .i64), .val [] (.int .i64)], .agg [.val [] (.int .i64), .val [] (.int .i64), .val [] .str, .val [(0, 0)] (.slice (.int .u8)), .val [(0, 0)] (.slice (.prod (.int .i64) (.prod (.int .i64) .unit))), .val [] (.int .i64), .val [] (.int .i64), .val [] (.int .i64), .val [] (.int .i64)], .agg [.val [] (.int .i64), .val [] (.int .i64), .val [] .str, .val [] (.int .i64), .val [] (.int .i64), .val [] (.int .i64), .val [(0, 0)] (.slice (.int .u8)), .val [(0, 0)] (.slice (.prod (.int .i64) (.prod (.int .i64) .unit))), .val [] .bool]]) (b := []) (G := fun a r => callC T F k 92 a r K) (fun x y => Eq.trans (by kernel_rfl) (Eq.trans (e92 k x.1.1 x.1.2.1 x.1.2.2.1 x.1.2.2.2.1 x.1.2.2.2.2.1 x.2.1.1 x.2.1.2.1 x.2.1.2.2.1 x.2.1.2.2.2.1 x.2.1.2.2.2.2.1 x.2.1.2.2.2.2.2.1 x.2.1.2.2.2.2.2.2.1 x.2.1.2.2.2.2.2.2.2.1 x.2.1.2.2.2.2.2.2.2.2.1 x.2.2.1.1 x.2.2.1.2.1 x.2.2.1.2.2.1 x.2.2.1.2.2.2.1 x.2.2.1.2.2.2.2.1 x.2.2.1.2.2.2.2.2.1 x.2.2.1.2.2.2.2.2.2.1 x.2.2.1.2.2.2.2.2.2.2.1 x.2.2.1.2.2.2.2.2.2.2.2.1 K).symm (by kernel_rfl))) a r
end
section
variable {R : Type}
noncomputable def S52 (k g : Nat) (a : List PV) (r : List RowS) (K : List PV → List RowS → Option R) : Option R := bif g == 20 then s20 k a r K else bif g == 22 then s22 k a r K else bif g == 56 then s56 k a r K else bif g == 83 then s83 k a r K else bif g == 92 then s92 k a r K else callC T F k g a r K
theorem S52_eq (k : Nat) : S52 (R := R) k = callC T F k := by
  funext g a r K
  exact pick_eq (fun e => by subst e; exact s20_eq k a r K) (pick_eq (fun e => by subst e; exact s22_eq k a r K) (pick_eq (fun e => by subst e; exact s56_eq k a r K) (pick_eq (fun e => by subst e; exact s83_eq k a r K) (pick_eq (fun e => by subst e; exact s92_eq k a r K) (rfl)))))
theorem e52 (k : Nat) (a0 : Int) (a1 : Int) (a2 : Int) (a3 : Int) (a4 : Int) (a5 : Int) (a6 : Int) (a7 : ByteArray) (a8 : List Int) (a9 : zL3) (a10 : Int) (a11 : Int) (a12 : Int) (a13 : Int) (a14 : Int) (a15 : Int) (a16 : ByteArray) (a17 : Int) (a18 : Int) (a19 : Int) (a20 : List Int) (a21 : zL3) (a22 : Bool) (K : List PV → List RowS → Option R) : callC T F k 52 [.agg [zi a0, zi a1, zi a2, zi a3, zi a4], .agg [zi a5, zi a6, .val [] .str a7, .val [(0, 0)] (.slice (.int .u8)) a8, .val [(0, 0)] (.slice (.prod (.int .i64) (.prod (.int .i64) .unit))) a9, zi a10, zi a11, zi a12, zi a13], .agg [zi a14, zi a15, .val [] .str a16, zi a17, zi a18, zi a19, .val [(0, 0)] (.slice (.int .u8)) a20, .val [(0, 0)] (.slice (.prod (.int .i64) (.prod (.int .i64) .unit))) a21, .val [] .bool a22]] [] K = f52 k a0 a1 a2 a3 a4 a5 a6 a7 a8 a9 a10 a11 a12 a13 a14 a15 a16 a17 a18 a19 a20 a21 a22 (fun z0 z1 z2 z3 z4 z5 z6 z7 z8 z9 z10 => K [.agg [zi z0, zi z1, .val [] .str z2, .val [(0, 0)] (.slice (.int .u8)) z3, .val [(0, 0)] (.slice (.prod (.int .i64) (.prod (.int .i64) .unit))) z4, zi z5, zi z6, zi z7, zi z8], .rw 1, zi z9] [⟨0, .arr [(0, 0)] (.prod (.int .i64) (.prod (.int .i64) (.prod .str (.prod (.int .i64) (.prod (.int .i64) (.prod (.int .i64) (.prod (.slice (.int .u8)) (.prod (.slice (.prod (.int .i64) (.prod (.int .i64) .unit))) (.prod .bool .unit))))))))) z10⟩]) := by
  rw [f52_def]
  cases k with
  | zero => rfl
  | succ k =>
    refine Eq.trans (show _ = exec T an52 (modesOf F) 0 k 38 (callC T F k) (ending T Try.f52 an52 0 K) (bodyOf Try.f52) ⟨argEnv 0 [.agg [zi a0, zi a1, zi a2, zi a3, zi a4], .agg [zi a5, zi a6, .val [] .str a7, .val [(0, 0)] (.slice (.int .u8)) a8, .val [(0, 0)] (.slice (.prod (.int .i64) (.prod (.int .i64) .unit))) a9, zi a10, zi a11, zi a12, zi a13], .agg [zi a14, zi a15, .val [] .str a16, zi a17, zi a18, zi a19, .val [(0, 0)] (.slice (.int .u8)) a20, .val [(0, 0)] (.slice (.prod (.int .i64) (.prod (.int .i64) .unit))) a21, .val [] .bool a22]] (fun _ => none), rowsOf []⟩ (ending T Try.f52 an52 0 K) (fun _ _ => none) from by kernel_rfl) ?_
    rw [← S52_eq k, ← execS_eq T an52 (modesOf F) 0 k 38 (S52 k) (fun _ _ _ _ _ => none) (bodyOf Try.f52) (cuts_of _ _ _ _ _ _ _ _ (bodyOf Try.f52) (l := []) (by kernel_rfl) trivial)]
    kernel_rfl
noncomputable def s52 (k : Nat) (a : List PV) (r : List RowS) (K : List PV → List RowS → Option R) : Option R :=
  onShape [.agg [.val [] (.int .i64), .val [] (.int .i64), .val [] (.int .i64), .val [] (.int .i64), .val [] (.int .i64)], .agg [.val [] (.int .i64), .val [] (.int .i64), .val [] .str, .val [(0, 0)] (.slice (.int .u8)), .val [(0, 0)] (.slice (.prod (.int .i64) (.prod (.int .i64) .unit))), .val [] (.int .i64), .val [] (.int .i64), .val [] (.int .i64), .val [] (.int .i64)], .agg [.val [] (.int .i64), .val [] (.int .i64), .val [] .str, .val [] (.int .i64), .val [] (.int .i64), .val [] (.int .i64), .val [(0, 0)] (.slice (.int .u8)), .val [(0, 0)] (.slice (.prod (.int .i64) (.prod (.int .i64) .unit))), .val [] .bool]] [] (fun v => f52 k v.1.1.1 v.1.1.2.1 v.1.1.2.2.1 v.1.1.2.2.2.1 v.1.1.2.2.2.2.1 v.1.2.1.1 v.1.2.1.2.1 v.1.2.1.2.2.1 v.1.2.1.2.2.2.1 v.1.2.1.2.2.2.2.1 v.1.2.1.2.2.2.2.2.1 v.1.2.1.2.2.2.2.2.2.1 v.1.2.1.2.2.2.2.2.2.2.1 v.1.2.1.2.2.2.2.2.2.2.2.1 v.1.2.2.1.1 v.1.2.2.1.2.1 v.1.2.2.1.2.2.1 v.1.2.2.1.2.2.2.1 v.1.2.2.1.2.2.2.2.1 v.1.2.2.1.2.2.2.2.2.1 v.1.2.2.1.2.2.2.2.2.2.1 v.1.2.2.1.2.2.2.2.2.2.2.1 v.1.2.2.1.2.2.2.2.2.2.2.2.1 (fun z0 z1 z2 z3 z4 z5 z6 z7 z8 z9 z10 => K [.agg [zi z0, zi z1, .val [] .str z2, .val [(0, 0)] (.slice (.int .u8)) z3, .val [(0, 0)] (.slice (.prod (.int .i64) (.prod (.int .i64) .unit))) z4, zi z5, zi z6, zi z7, zi z8], .rw 1, zi z9] [⟨0, .arr [(0, 0)] (.prod (.int .i64) (.prod (.int .i64) (.prod .str (.prod (.int .i64) (.prod (.int .i64) (.prod (.int .i64) (.prod (.slice (.int .u8)) (.prod (.slice (.prod (.int .i64) (.prod (.int .i64) .unit))) (.prod .bool .unit))))))))) z10⟩])) (callC T F k 52 a r K) a r
theorem s52_eq (k : Nat) (a : List PV) (r : List RowS) (K : List PV → List RowS → Option R) : s52 k a r K = callC T F k 52 a r K := by
  unfold s52
  exact onShape_eq (a := [.agg [.val [] (.int .i64), .val [] (.int .i64), .val [] (.int .i64), .val [] (.int .i64), .val [] (.int .i64)], .agg [.val [] (.int .i64), .val [] (.int .i64), .val [] .str, .val [(0, 0)] (.slice (.int .u8)), .val [(0, 0)] (.slice (.prod (.int .i64) (.prod (.int .i64) .unit))), .val [] (.int .i64), .val [] (.int .i64), .val [] (.int .i64), .val [] (.int .i64)], .agg [.val [] (.int .i64), .val [] (.int .i64), .val [] .str, .val [] (.int .i64), .val [] (.int .i64), .val [] (.int .i64), .val [(0, 0)] (.slice (.int .u8)), .val [(0, 0)] (.slice (.prod (.int .i64) (.prod (.int .i64) .unit))), .val [] .bool]]) (b := []) (G := fun a r => callC T F k 52 a r K) (fun x y => Eq.trans (by kernel_rfl) (Eq.trans (e52 k x.1.1 x.1.2.1 x.1.2.2.1 x.1.2.2.2.1 x.1.2.2.2.2.1 x.2.1.1 x.2.1.2.1 x.2.1.2.2.1 x.2.1.2.2.2.1 x.2.1.2.2.2.2.1 x.2.1.2.2.2.2.2.1 x.2.1.2.2.2.2.2.2.1 x.2.1.2.2.2.2.2.2.2.1 x.2.1.2.2.2.2.2.2.2.2.1 x.2.2.1.1 x.2.2.1.2.1 x.2.2.1.2.2.1 x.2.2.1.2.2.2.1 x.2.2.1.2.2.2.2.1 x.2.2.1.2.2.2.2.2.1 x.2.2.1.2.2.2.2.2.2.1 x.2.2.1.2.2.2.2.2.2.2.1 x.2.2.1.2.2.2.2.2.2.2.2.1 K).symm (by kernel_rfl))) a r
end
section
variable {R : Type}
noncomputable def S23 (k g : Nat) (a : List PV) (r : List RowS) (K : List PV → List RowS → Option R) : Option R := bif g == 72 then s72 k a r K else callC T F k g a r K
theorem S23_eq (k : Nat) : S23 (R := R) k = callC T F k := by
  funext g a r K
  exact pick_eq (fun e => by subst e; exact s72_eq k a r K) (rfl)
theorem e23 (k : Nat) (a0 : Int) (a1 : Int) (a2 : Int) (a3 : Int) (a4 : Int) (K : List PV → List RowS → Option R) : callC T F k 23 [.agg [zi a0, zi a1, zi a2, zi a3, zi a4]] [] K = f23 k a0 a1 a2 a3 a4 (fun z0 => K [zi z0] []) := by
  rw [f23_def]
  cases k with
  | zero => rfl
  | succ k =>
    refine Eq.trans (show _ = exec T an23 (modesOf F) 0 k 31 (callC T F k) (ending T Try.f23 an23 0 K) (bodyOf Try.f23) ⟨argEnv 0 [.agg [zi a0, zi a1, zi a2, zi a3, zi a4]] (fun _ => none), rowsOf []⟩ (ending T Try.f23 an23 0 K) (fun _ _ => none) from by kernel_rfl) ?_
    rw [← S23_eq k, ← execS_eq T an23 (modesOf F) 0 k 31 (S23 k) (fun _ _ _ _ _ => none) (bodyOf Try.f23) (cuts_of _ _ _ _ _ _ _ _ (bodyOf Try.f23) (l := []) (by kernel_rfl) trivial)]
    kernel_rfl
noncomputable def s23 (k : Nat) (a : List PV) (r : List RowS) (K : List PV → List RowS → Option R) : Option R :=
  onShape [.agg [.val [] (.int .i64), .val [] (.int .i64), .val [] (.int .i64), .val [] (.int .i64), .val [] (.int .i64)]] [] (fun v => f23 k v.1.1.1 v.1.1.2.1 v.1.1.2.2.1 v.1.1.2.2.2.1 v.1.1.2.2.2.2.1 (fun z0 => K [zi z0] [])) (callC T F k 23 a r K) a r
theorem s23_eq (k : Nat) (a : List PV) (r : List RowS) (K : List PV → List RowS → Option R) : s23 k a r K = callC T F k 23 a r K := by
  unfold s23
  exact onShape_eq (a := [.agg [.val [] (.int .i64), .val [] (.int .i64), .val [] (.int .i64), .val [] (.int .i64), .val [] (.int .i64)]]) (b := []) (G := fun a r => callC T F k 23 a r K) (fun x y => Eq.trans (by kernel_rfl) (Eq.trans (e23 k x.1.1 x.1.2.1 x.1.2.2.1 x.1.2.2.2.1 x.1.2.2.2.2.1 K).symm (by kernel_rfl))) a r
end
section
variable {R : Type}
noncomputable def S105 (k g : Nat) (a : List PV) (r : List RowS) (K : List PV → List RowS → Option R) : Option R := callC T F k g a r K
theorem S105_eq (k : Nat) : S105 (R := R) k = callC T F k := by
  funext g a r K
  exact rfl
theorem e105 (k : Nat) (a0 : Int) (a1 : Int) (a2 : Int) (K : List PV → List RowS → Option R) : callC T F k 105 [zi a0, zi a1, zi a2] [] K = f105 k a0 a1 a2 (fun z0 => K [.val [] .bool z0] []) := by
  rw [f105_def]
  cases k with
  | zero => rfl
  | succ k =>
    refine Eq.trans (show _ = exec T an105 (modesOf F) 0 k 15 (callC T F k) (ending T Try.f105 an105 0 K) (bodyOf Try.f105) ⟨argEnv 0 [zi a0, zi a1, zi a2] (fun _ => none), rowsOf []⟩ (ending T Try.f105 an105 0 K) (fun _ _ => none) from by kernel_rfl) ?_
    rw [← S105_eq k, ← execS_eq T an105 (modesOf F) 0 k 15 (S105 k) (fun _ _ _ _ _ => none) (bodyOf Try.f105) (cuts_of _ _ _ _ _ _ _ _ (bodyOf Try.f105) (l := []) (by kernel_rfl) trivial)]
    kernel_rfl
noncomputable def s105 (k : Nat) (a : List PV) (r : List RowS) (K : List PV → List RowS → Option R) : Option R :=
  onShape [.val [] (.int .i64), .val [] (.int .i64), .val [] (.int .i64)] [] (fun v => f105 k v.1.1 v.1.2.1 v.1.2.2.1 (fun z0 => K [.val [] .bool z0] [])) (callC T F k 105 a r K) a r
theorem s105_eq (k : Nat) (a : List PV) (r : List RowS) (K : List PV → List RowS → Option R) : s105 k a r K = callC T F k 105 a r K := by
  unfold s105
  exact onShape_eq (a := [.val [] (.int .i64), .val [] (.int .i64), .val [] (.int .i64)]) (b := []) (G := fun a r => callC T F k 105 a r K) (fun x y => Eq.trans (by kernel_rfl) (Eq.trans (e105 k x.1 x.2.1 x.2.2.1 K).symm (by kernel_rfl))) a r
end
section
variable {R : Type}
noncomputable def S74 (k g : Nat) (a : List PV) (r : List RowS) (K : List PV → List RowS → Option R) : Option R := bif g == 105 then s105 k a r K else callC T F k g a r K
theorem S74_eq (k : Nat) : S74 (R := R) k = callC T F k := by
  funext g a r K
  exact pick_eq (fun e => by subst e; exact s105_eq k a r K) (rfl)
section
variable {R : Type} (k : Nat) (K : List PV → List RowS → Option R)
noncomputable def L74_0 (ws : List PV) (rs : List RowS) (N : St → Option R) (X : Nat → St → Option R) : Option R :=
  onShape [.val [] .str, .val [] (.int .i64)] [] (fun v => f74_0 k (fun z0 => K [.val [] .bool z0] []) (N (sh jn74_0 [.val [] .str v.1.1] [])) v.1.1 k v.1.2.1) (inner T an74 (modesOf F) 0 k 47 (S74 k) (ending T Try.f74 an74 0 K) cd74_0 (sh sp74_0 ws rs) N X) ws rs
noncomputable def L74 (id : Nat) (ws : List PV) (rs : List RowS) (N : St → Option R) (X : Nat → St → Option R) : Option R := bif id == 0 then L74_0 k K ws rs N X else none
theorem b74_0 (rec : St → Option R) (N : St → Option R) (X : Nat → St → Option R) (v0_0 : ByteArray) (v0_1 : Int) :
    execS T an74 (modesOf F) 0 k 47 (S74 k) (L74 k K) (ending T Try.f74 an74 0 K) bd74_0 (sh sp74_0 [.val [] .str v0_0, zi v0_1] []) (fun st => atHead an74 0 bd74_0 st rec) (outX an74 0 0 N X) =
      f74_0b k (fun v0_1 => rec (sh sp74_0 [.val [] .str v0_0, zi v0_1] [])) (fun z0 => K [.val [] .bool z0] []) (N (sh jn74_0 [.val [] .str v0_0] [])) v0_0 v0_1 := by kernel_rfl
theorem i74_0 (N : St → Option R) (X : Nat → St → Option R) (v0_0 : ByteArray) (m : Nat) : ∀ (v0_1 : Int),
    iter (atHead an74 0 bd74_0) m (fun st N' => exec T an74 (modesOf F) 0 k 47 (S74 k) (ending T Try.f74 an74 0 K) bd74_0 st N' (outX an74 0 0 N X)) (sh sp74_0 [.val [] .str v0_0, zi v0_1] []) = f74_0d k (fun z0 => K [.val [] .bool z0] []) (N (sh jn74_0 [.val [] .str v0_0] [])) v0_0 m v0_1 := by
  induction m with
  | zero => intros; rfl
  | succ m ih =>
    intro v0_1
    simp only [iter]
    rw [← execS_eq T an74 (modesOf F) 0 k 47 (S74 k) (L74 k K) bd74_0 (cuts_of _ _ _ _ _ _ _ _ bd74_0 (l := []) (by kernel_rfl) trivial)]
    refine (b74_0 k K _ N X v0_0 v0_1).trans ?_
    simp only [f74_0d, ih]
theorem l74_0 (ws : List PV) (rs : List RowS) (N : St → Option R) (X : Nat → St → Option R) : L74 k K 0 ws rs N X = inner T an74 (modesOf F) 0 k 47 (S74 k) (ending T Try.f74 an74 0 K) cd74_0 (sh sp74_0 ws rs) N X := by
  show L74_0 k K ws rs N X = _
  unfold L74_0
  rw [f74_0_def]
  exact onShape_eq (a := [.val [] .str, .val [] (.int .i64)]) (b := []) (G := fun ws rs => inner T an74 (modesOf F) 0 k 47 (S74 k) (ending T Try.f74 an74 0 K) cd74_0 (sh sp74_0 ws rs) N X) (fun x y => Eq.trans (by kernel_rfl) (Eq.trans (i74_0 k K N X x.1 k x.2.1).symm (by kernel_rfl))) ws rs
end
theorem e74 (k : Nat) (a0 : ByteArray) (K : List PV → List RowS → Option R) : callC T F k 74 [.val [] .str a0] [] K = f74 k a0 (fun z0 => K [.val [] .bool z0] []) := by
  rw [f74_def]
  cases k with
  | zero => rfl
  | succ k =>
    refine Eq.trans (show _ = exec T an74 (modesOf F) 0 k 47 (callC T F k) (ending T Try.f74 an74 0 K) (bodyOf Try.f74) ⟨argEnv 0 [.val [] .str a0] (fun _ => none), rowsOf []⟩ (ending T Try.f74 an74 0 K) (fun _ _ => none) from by kernel_rfl) ?_
    rw [← S74_eq k, ← execS_eq T an74 (modesOf F) 0 k 47 (S74 k) (L74 k K) (bodyOf Try.f74) (cuts_of _ _ _ _ _ _ _ _ (bodyOf Try.f74) (l := [(0, sp74_0, cd74_0)]) (by kernel_rfl) ⟨l74_0 k K, trivial⟩)]
    kernel_rfl
noncomputable def s74 (k : Nat) (a : List PV) (r : List RowS) (K : List PV → List RowS → Option R) : Option R :=
  onShape [.val [] .str] [] (fun v => f74 k v.1.1 (fun z0 => K [.val [] .bool z0] [])) (callC T F k 74 a r K) a r
theorem s74_eq (k : Nat) (a : List PV) (r : List RowS) (K : List PV → List RowS → Option R) : s74 k a r K = callC T F k 74 a r K := by
  unfold s74
  exact onShape_eq (a := [.val [] .str]) (b := []) (G := fun a r => callC T F k 74 a r K) (fun x y => Eq.trans (by kernel_rfl) (Eq.trans (e74 k x.1 K).symm (by kernel_rfl))) a r
end
section
variable {R : Type}
noncomputable def S46 (k g : Nat) (a : List PV) (r : List RowS) (K : List PV → List RowS → Option R) : Option R := bif g == 72 then s72 k a r K else callC T F k g a r K
theorem S46_eq (k : Nat) : S46 (R := R) k = callC T F k := by
  funext g a r K
  exact pick_eq (fun e => by subst e; exact s72_eq k a r K) (rfl)
section
variable {R : Type} (k : Nat) (K : List PV → List RowS → Option R)
noncomputable def L46_0 (ws : List PV) (rs : List RowS) (N : St → Option R) (X : Nat → St → Option R) : Option R :=
  onShape [.val [(0, 0)] (.slice (.prod (.int .i64) (.prod (.int .i64) .unit))), .val [] (.int .i64), .val [] (.int .i64)] [] (fun v => f46_0 k (fun z0 => K [zi z0] []) (N (sh jn46_0 [] [])) v.1.1 v.1.2.1 k v.1.2.2.1) (inner T an46 (modesOf F) 0 k 60 (S46 k) (ending T Try.f46 an46 0 K) cd46_0 (sh sp46_0 ws rs) N X) ws rs
noncomputable def L46 (id : Nat) (ws : List PV) (rs : List RowS) (N : St → Option R) (X : Nat → St → Option R) : Option R := bif id == 0 then L46_0 k K ws rs N X else none
theorem b46_0 (rec : St → Option R) (N : St → Option R) (X : Nat → St → Option R) (v0_0 : zL3) (v0_1 : Int) (v0_2 : Int) :
    execS T an46 (modesOf F) 0 k 60 (S46 k) (L46 k K) (ending T Try.f46 an46 0 K) bd46_0 (sh sp46_0 [.val [(0, 0)] (.slice (.prod (.int .i64) (.prod (.int .i64) .unit))) v0_0, zi v0_1, zi v0_2] []) (fun st => atHead an46 0 bd46_0 st rec) (outX an46 0 0 N X) =
      f46_0b k (fun v0_2 => rec (sh sp46_0 [.val [(0, 0)] (.slice (.prod (.int .i64) (.prod (.int .i64) .unit))) v0_0, zi v0_1, zi v0_2] [])) (fun z0 => K [zi z0] []) (N (sh jn46_0 [] [])) v0_0 v0_1 v0_2 := by kernel_rfl
theorem i46_0 (N : St → Option R) (X : Nat → St → Option R) (v0_0 : zL3) (v0_1 : Int) (m : Nat) : ∀ (v0_2 : Int),
    iter (atHead an46 0 bd46_0) m (fun st N' => exec T an46 (modesOf F) 0 k 60 (S46 k) (ending T Try.f46 an46 0 K) bd46_0 st N' (outX an46 0 0 N X)) (sh sp46_0 [.val [(0, 0)] (.slice (.prod (.int .i64) (.prod (.int .i64) .unit))) v0_0, zi v0_1, zi v0_2] []) = f46_0d k (fun z0 => K [zi z0] []) (N (sh jn46_0 [] [])) v0_0 v0_1 m v0_2 := by
  induction m with
  | zero => intros; rfl
  | succ m ih =>
    intro v0_2
    simp only [iter]
    rw [← execS_eq T an46 (modesOf F) 0 k 60 (S46 k) (L46 k K) bd46_0 (cuts_of _ _ _ _ _ _ _ _ bd46_0 (l := []) (by kernel_rfl) trivial)]
    refine (b46_0 k K _ N X v0_0 v0_1 v0_2).trans ?_
    simp only [f46_0d, ih]
theorem l46_0 (ws : List PV) (rs : List RowS) (N : St → Option R) (X : Nat → St → Option R) : L46 k K 0 ws rs N X = inner T an46 (modesOf F) 0 k 60 (S46 k) (ending T Try.f46 an46 0 K) cd46_0 (sh sp46_0 ws rs) N X := by
  show L46_0 k K ws rs N X = _
  unfold L46_0
  rw [f46_0_def]
  exact onShape_eq (a := [.val [(0, 0)] (.slice (.prod (.int .i64) (.prod (.int .i64) .unit))), .val [] (.int .i64), .val [] (.int .i64)]) (b := []) (G := fun ws rs => inner T an46 (modesOf F) 0 k 60 (S46 k) (ending T Try.f46 an46 0 K) cd46_0 (sh sp46_0 ws rs) N X) (fun x y => Eq.trans (by kernel_rfl) (Eq.trans (i46_0 k K N X x.1 x.2.1 k x.2.2.1).symm (by kernel_rfl))) ws rs
end
theorem e46 (k : Nat) (a0 : zL3) (a1 : Int) (K : List PV → List RowS → Option R) : callC T F k 46 [.val [(0, 0)] (.slice (.prod (.int .i64) (.prod (.int .i64) .unit))) a0, zi a1] [] K = f46 k a0 a1 (fun z0 => K [zi z0] []) := by
  rw [f46_def]
  cases k with
  | zero => rfl
  | succ k =>
    refine Eq.trans (show _ = exec T an46 (modesOf F) 0 k 60 (callC T F k) (ending T Try.f46 an46 0 K) (bodyOf Try.f46) ⟨argEnv 0 [.val [(0, 0)] (.slice (.prod (.int .i64) (.prod (.int .i64) .unit))) a0, zi a1] (fun _ => none), rowsOf []⟩ (ending T Try.f46 an46 0 K) (fun _ _ => none) from by kernel_rfl) ?_
    rw [← S46_eq k, ← execS_eq T an46 (modesOf F) 0 k 60 (S46 k) (L46 k K) (bodyOf Try.f46) (cuts_of _ _ _ _ _ _ _ _ (bodyOf Try.f46) (l := [(0, sp46_0, cd46_0)]) (by kernel_rfl) ⟨l46_0 k K, trivial⟩)]
    kernel_rfl
noncomputable def s46 (k : Nat) (a : List PV) (r : List RowS) (K : List PV → List RowS → Option R) : Option R :=
  onShape [.val [(0, 0)] (.slice (.prod (.int .i64) (.prod (.int .i64) .unit))), .val [] (.int .i64)] [] (fun v => f46 k v.1.1 v.1.2.1 (fun z0 => K [zi z0] [])) (callC T F k 46 a r K) a r
theorem s46_eq (k : Nat) (a : List PV) (r : List RowS) (K : List PV → List RowS → Option R) : s46 k a r K = callC T F k 46 a r K := by
  unfold s46
  exact onShape_eq (a := [.val [(0, 0)] (.slice (.prod (.int .i64) (.prod (.int .i64) .unit))), .val [] (.int .i64)]) (b := []) (G := fun a r => callC T F k 46 a r K) (fun x y => Eq.trans (by kernel_rfl) (Eq.trans (e46 k x.1 x.2.1 K).symm (by kernel_rfl))) a r
end
section
variable {R : Type}
noncomputable def S96 (k g : Nat) (a : List PV) (r : List RowS) (K : List PV → List RowS → Option R) : Option R := callC T F k g a r K
theorem S96_eq (k : Nat) : S96 (R := R) k = callC T F k := by
  funext g a r K
  exact rfl
theorem e96 (k : Nat) (a0 : zL3) (K : List PV → List RowS → Option R) : callC T F k 96 [.val [(0, 0)] (.slice (.prod (.int .i64) (.prod (.int .i64) .unit))) a0] [] K = f96 k a0 (fun z0 => K [zi z0] []) := by
  rw [f96_def]
  cases k with
  | zero => rfl
  | succ k =>
    refine Eq.trans (show _ = exec T an96 (modesOf F) 0 k 13 (callC T F k) (ending T Try.f96 an96 0 K) (bodyOf Try.f96) ⟨argEnv 0 [.val [(0, 0)] (.slice (.prod (.int .i64) (.prod (.int .i64) .unit))) a0] (fun _ => none), rowsOf []⟩ (ending T Try.f96 an96 0 K) (fun _ _ => none) from by kernel_rfl) ?_
    rw [← S96_eq k, ← execS_eq T an96 (modesOf F) 0 k 13 (S96 k) (fun _ _ _ _ _ => none) (bodyOf Try.f96) (cuts_of _ _ _ _ _ _ _ _ (bodyOf Try.f96) (l := []) (by kernel_rfl) trivial)]
    kernel_rfl
noncomputable def s96 (k : Nat) (a : List PV) (r : List RowS) (K : List PV → List RowS → Option R) : Option R :=
  onShape [.val [(0, 0)] (.slice (.prod (.int .i64) (.prod (.int .i64) .unit)))] [] (fun v => f96 k v.1.1 (fun z0 => K [zi z0] [])) (callC T F k 96 a r K) a r
theorem s96_eq (k : Nat) (a : List PV) (r : List RowS) (K : List PV → List RowS → Option R) : s96 k a r K = callC T F k 96 a r K := by
  unfold s96
  exact onShape_eq (a := [.val [(0, 0)] (.slice (.prod (.int .i64) (.prod (.int .i64) .unit)))]) (b := []) (G := fun a r => callC T F k 96 a r K) (fun x y => Eq.trans (by kernel_rfl) (Eq.trans (e96 k x.1 K).symm (by kernel_rfl))) a r
end
section
variable {R : Type}
noncomputable def S97 (k g : Nat) (a : List PV) (r : List RowS) (K : List PV → List RowS → Option R) : Option R := callC T F k g a r K
theorem S97_eq (k : Nat) : S97 (R := R) k = callC T F k := by
  funext g a r K
  exact rfl
section
variable {R : Type} (k : Nat) (K : List PV → List RowS → Option R)
noncomputable def L97_0 (ws : List PV) (rs : List RowS) (N : St → Option R) (X : Nat → St → Option R) : Option R :=
  onShape [.val [(0, 0)] (.slice (.prod (.int .i64) (.prod (.int .i64) .unit))), .val [] (.int .i64), .val [] (.int .i64)] [] (fun v => f97_0 k (fun z0 => K [.val [] .bool z0] []) (N (sh jn97_0 [] [])) v.1.1 v.1.2.1 k v.1.2.2.1) (inner T an97 (modesOf F) 0 k 28 (S97 k) (ending T Try.f97 an97 0 K) cd97_0 (sh sp97_0 ws rs) N X) ws rs
noncomputable def L97 (id : Nat) (ws : List PV) (rs : List RowS) (N : St → Option R) (X : Nat → St → Option R) : Option R := bif id == 0 then L97_0 k K ws rs N X else none
theorem b97_0 (rec : St → Option R) (N : St → Option R) (X : Nat → St → Option R) (v0_0 : zL3) (v0_1 : Int) (v0_2 : Int) :
    execS T an97 (modesOf F) 0 k 28 (S97 k) (L97 k K) (ending T Try.f97 an97 0 K) bd97_0 (sh sp97_0 [.val [(0, 0)] (.slice (.prod (.int .i64) (.prod (.int .i64) .unit))) v0_0, zi v0_1, zi v0_2] []) (fun st => atHead an97 0 bd97_0 st rec) (outX an97 0 0 N X) =
      f97_0b k (fun v0_2 => rec (sh sp97_0 [.val [(0, 0)] (.slice (.prod (.int .i64) (.prod (.int .i64) .unit))) v0_0, zi v0_1, zi v0_2] [])) (fun z0 => K [.val [] .bool z0] []) (N (sh jn97_0 [] [])) v0_0 v0_1 v0_2 := by kernel_rfl
theorem i97_0 (N : St → Option R) (X : Nat → St → Option R) (v0_0 : zL3) (v0_1 : Int) (m : Nat) : ∀ (v0_2 : Int),
    iter (atHead an97 0 bd97_0) m (fun st N' => exec T an97 (modesOf F) 0 k 28 (S97 k) (ending T Try.f97 an97 0 K) bd97_0 st N' (outX an97 0 0 N X)) (sh sp97_0 [.val [(0, 0)] (.slice (.prod (.int .i64) (.prod (.int .i64) .unit))) v0_0, zi v0_1, zi v0_2] []) = f97_0d k (fun z0 => K [.val [] .bool z0] []) (N (sh jn97_0 [] [])) v0_0 v0_1 m v0_2 := by
  induction m with
  | zero => intros; rfl
  | succ m ih =>
    intro v0_2
    simp only [iter]
    rw [← execS_eq T an97 (modesOf F) 0 k 28 (S97 k) (L97 k K) bd97_0 (cuts_of _ _ _ _ _ _ _ _ bd97_0 (l := []) (by kernel_rfl) trivial)]
    refine (b97_0 k K _ N X v0_0 v0_1 v0_2).trans ?_
    simp only [f97_0d, ih]
theorem l97_0 (ws : List PV) (rs : List RowS) (N : St → Option R) (X : Nat → St → Option R) : L97 k K 0 ws rs N X = inner T an97 (modesOf F) 0 k 28 (S97 k) (ending T Try.f97 an97 0 K) cd97_0 (sh sp97_0 ws rs) N X := by
  show L97_0 k K ws rs N X = _
  unfold L97_0
  rw [f97_0_def]
  exact onShape_eq (a := [.val [(0, 0)] (.slice (.prod (.int .i64) (.prod (.int .i64) .unit))), .val [] (.int .i64), .val [] (.int .i64)]) (b := []) (G := fun ws rs => inner T an97 (modesOf F) 0 k 28 (S97 k) (ending T Try.f97 an97 0 K) cd97_0 (sh sp97_0 ws rs) N X) (fun x y => Eq.trans (by kernel_rfl) (Eq.trans (i97_0 k K N X x.1 x.2.1 k x.2.2.1).symm (by kernel_rfl))) ws rs
end
theorem e97 (k : Nat) (a0 : zL3) (a1 : Int) (K : List PV → List RowS → Option R) : callC T F k 97 [.val [(0, 0)] (.slice (.prod (.int .i64) (.prod (.int .i64) .unit))) a0, zi a1] [] K = f97 k a0 a1 (fun z0 => K [.val [] .bool z0] []) := by
  rw [f97_def]
  cases k with
  | zero => rfl
  | succ k =>
    refine Eq.trans (show _ = exec T an97 (modesOf F) 0 k 28 (callC T F k) (ending T Try.f97 an97 0 K) (bodyOf Try.f97) ⟨argEnv 0 [.val [(0, 0)] (.slice (.prod (.int .i64) (.prod (.int .i64) .unit))) a0, zi a1] (fun _ => none), rowsOf []⟩ (ending T Try.f97 an97 0 K) (fun _ _ => none) from by kernel_rfl) ?_
    rw [← S97_eq k, ← execS_eq T an97 (modesOf F) 0 k 28 (S97 k) (L97 k K) (bodyOf Try.f97) (cuts_of _ _ _ _ _ _ _ _ (bodyOf Try.f97) (l := [(0, sp97_0, cd97_0)]) (by kernel_rfl) ⟨l97_0 k K, trivial⟩)]
    kernel_rfl
noncomputable def s97 (k : Nat) (a : List PV) (r : List RowS) (K : List PV → List RowS → Option R) : Option R :=
  onShape [.val [(0, 0)] (.slice (.prod (.int .i64) (.prod (.int .i64) .unit))), .val [] (.int .i64)] [] (fun v => f97 k v.1.1 v.1.2.1 (fun z0 => K [.val [] .bool z0] [])) (callC T F k 97 a r K) a r
theorem s97_eq (k : Nat) (a : List PV) (r : List RowS) (K : List PV → List RowS → Option R) : s97 k a r K = callC T F k 97 a r K := by
  unfold s97
  exact onShape_eq (a := [.val [(0, 0)] (.slice (.prod (.int .i64) (.prod (.int .i64) .unit))), .val [] (.int .i64)]) (b := []) (G := fun a r => callC T F k 97 a r K) (fun x y => Eq.trans (by kernel_rfl) (Eq.trans (e97 k x.1 x.2.1 K).symm (by kernel_rfl))) a r
end
section
variable {R : Type}
noncomputable def S88 (k g : Nat) (a : List PV) (r : List RowS) (K : List PV → List RowS → Option R) : Option R := callC T F k g a r K
theorem S88_eq (k : Nat) : S88 (R := R) k = callC T F k := by
  funext g a r K
  exact rfl
section
variable {R : Type} (k : Nat) (K : List PV → List RowS → Option R)
noncomputable def L88_1000007 (ws : List PV) (rs : List RowS) (N : St → Option R) (X : Nat → St → Option R) : Option R :=
  onShape [.val [(0, 0)] (.slice (.prod (.int .i64) (.prod (.int .i64) .unit))), .val [] (.int .i64), .rw 1, .val [] (.int .i64), .val [] (.int .i64), .val [] .bool] [.arr [] (.prod (.int .i64) (.prod (.int .i64) .unit))] (fun v => f88_1000007 k (fun yN_3 => N (sh fi88_7 [.val [(0, 0)] (.slice (.prod (.int .i64) (.prod (.int .i64) .unit))) v.1.1, zi v.1.2.1, .rw 1, zi v.1.2.2.2.2.1] [⟨0, .arr [] (.prod (.int .i64) (.prod (.int .i64) .unit)) yN_3⟩])) v.1.1 v.1.2.1 v.1.2.2.2.1 v.1.2.2.2.2.1 v.1.2.2.2.2.2.1 v.2.1) (inner T an88 (modesOf F) 0 k 46 (S88 k) (ending T Try.f88 an88 0 K) cd88_1000007 (sh sp88_1000007 ws rs) N X) ws rs
noncomputable def L88_0 (ws : List PV) (rs : List RowS) (N : St → Option R) (X : Nat → St → Option R) : Option R :=
  onShape [.val [(0, 0)] (.slice (.prod (.int .i64) (.prod (.int .i64) .unit))), .val [] (.int .i64), .rw 1, .val [] (.int .i64), .val [] (.int .i64)] [.arr [] (.prod (.int .i64) (.prod (.int .i64) .unit))] (fun v => f88_0 k (fun y0_1 y0_2 => N (sh jn88_0 [zi v.1.2.1, .rw 1, zi y0_1] [⟨0, .arr [] (.prod (.int .i64) (.prod (.int .i64) .unit)) y0_2⟩])) v.1.1 v.1.2.1 k v.1.2.2.2.1 v.1.2.2.2.2.1 v.2.1) (inner T an88 (modesOf F) 0 k 46 (S88 k) (ending T Try.f88 an88 0 K) cd88_0 (sh sp88_0 ws rs) N X) ws rs
noncomputable def L88_1000010 (ws : List PV) (rs : List RowS) (N : St → Option R) (X : Nat → St → Option R) : Option R :=
  onShape [.val [] (.int .i64), .rw 1, .val [] (.int .i64), .val [] .bool] [.arr [] (.prod (.int .i64) (.prod (.int .i64) .unit))] (fun v => f88_1000010 k (fun yN_0 => N (sh fi88_10 [.rw 1] [⟨0, .arr [] (.prod (.int .i64) (.prod (.int .i64) .unit)) yN_0⟩])) v.1.1 v.1.2.2.1 v.1.2.2.2.1 v.2.1) (inner T an88 (modesOf F) 0 k 46 (S88 k) (ending T Try.f88 an88 0 K) cd88_1000010 (sh sp88_1000010 ws rs) N X) ws rs
noncomputable def L88 (id : Nat) (ws : List PV) (rs : List RowS) (N : St → Option R) (X : Nat → St → Option R) : Option R := bif id == 1000007 then L88_1000007 k K ws rs N X else bif id == 0 then L88_0 k K ws rs N X else bif id == 1000010 then L88_1000010 k K ws rs N X else none
theorem l88_1000007 (ws : List PV) (rs : List RowS) (N : St → Option R) (X : Nat → St → Option R) : L88 k K 1000007 ws rs N X = inner T an88 (modesOf F) 0 k 46 (S88 k) (ending T Try.f88 an88 0 K) cd88_1000007 (sh sp88_1000007 ws rs) N X := by
  show L88_1000007 k K ws rs N X = _
  unfold L88_1000007
  rw [f88_1000007_def]
  exact onShape_eq (a := [.val [(0, 0)] (.slice (.prod (.int .i64) (.prod (.int .i64) .unit))), .val [] (.int .i64), .rw 1, .val [] (.int .i64), .val [] (.int .i64), .val [] .bool]) (b := [.arr [] (.prod (.int .i64) (.prod (.int .i64) .unit))]) (G := fun ws rs => inner T an88 (modesOf F) 0 k 46 (S88 k) (ending T Try.f88 an88 0 K) cd88_1000007 (sh sp88_1000007 ws rs) N X) (fun x y => Eq.trans (by kernel_rfl) (innerS_eq T an88 (modesOf F) 0 k 46 (S88 k) (L88 k K) cd88_1000007 (l := []) (by kernel_rfl) trivial _ N X)) ws rs
theorem b88_0 (rec : St → Option R) (N : St → Option R) (X : Nat → St → Option R) (v0_0 : zL3) (v0_1 : Int) (v0_2 : Int) (v0_3 : Int) (v0_4 : zL4) :
    execS T an88 (modesOf F) 0 k 46 (S88 k) (L88 k K) (ending T Try.f88 an88 0 K) bd88_0 (sh sp88_0 [.val [(0, 0)] (.slice (.prod (.int .i64) (.prod (.int .i64) .unit))) v0_0, zi v0_1, .rw 1, zi v0_2, zi v0_3] [⟨0, .arr [] (.prod (.int .i64) (.prod (.int .i64) .unit)) v0_4⟩]) (fun st => atHead an88 0 bd88_0 st rec) (outX an88 0 0 N X) =
      f88_0b k (fun v0_2 v0_3 v0_4 => rec (sh sp88_0 [.val [(0, 0)] (.slice (.prod (.int .i64) (.prod (.int .i64) .unit))) v0_0, zi v0_1, .rw 1, zi v0_2, zi v0_3] [⟨0, .arr [] (.prod (.int .i64) (.prod (.int .i64) .unit)) v0_4⟩])) (fun y0_1 y0_2 => N (sh jn88_0 [zi v0_1, .rw 1, zi y0_1] [⟨0, .arr [] (.prod (.int .i64) (.prod (.int .i64) .unit)) y0_2⟩])) v0_0 v0_1 v0_2 v0_3 v0_4 := by kernel_rfl
theorem i88_0 (N : St → Option R) (X : Nat → St → Option R) (v0_0 : zL3) (v0_1 : Int) (m : Nat) : ∀ (v0_2 : Int) (v0_3 : Int) (v0_4 : zL4),
    iter (atHead an88 0 bd88_0) m (fun st N' => exec T an88 (modesOf F) 0 k 46 (S88 k) (ending T Try.f88 an88 0 K) bd88_0 st N' (outX an88 0 0 N X)) (sh sp88_0 [.val [(0, 0)] (.slice (.prod (.int .i64) (.prod (.int .i64) .unit))) v0_0, zi v0_1, .rw 1, zi v0_2, zi v0_3] [⟨0, .arr [] (.prod (.int .i64) (.prod (.int .i64) .unit)) v0_4⟩]) = f88_0d k (fun y0_1 y0_2 => N (sh jn88_0 [zi v0_1, .rw 1, zi y0_1] [⟨0, .arr [] (.prod (.int .i64) (.prod (.int .i64) .unit)) y0_2⟩])) v0_0 v0_1 m v0_2 v0_3 v0_4 := by
  induction m with
  | zero => intros; rfl
  | succ m ih =>
    intro v0_2 v0_3 v0_4
    simp only [iter]
    rw [← execS_eq T an88 (modesOf F) 0 k 46 (S88 k) (L88 k K) bd88_0 (cuts_of _ _ _ _ _ _ _ _ bd88_0 (l := [(1000007, sp88_1000007, cd88_1000007)]) (by kernel_rfl) ⟨l88_1000007 k K, trivial⟩)]
    refine (b88_0 k K _ N X v0_0 v0_1 v0_2 v0_3 v0_4).trans ?_
    simp only [f88_0d, ih]
theorem l88_0 (ws : List PV) (rs : List RowS) (N : St → Option R) (X : Nat → St → Option R) : L88 k K 0 ws rs N X = inner T an88 (modesOf F) 0 k 46 (S88 k) (ending T Try.f88 an88 0 K) cd88_0 (sh sp88_0 ws rs) N X := by
  show L88_0 k K ws rs N X = _
  unfold L88_0
  rw [f88_0_def]
  exact onShape_eq (a := [.val [(0, 0)] (.slice (.prod (.int .i64) (.prod (.int .i64) .unit))), .val [] (.int .i64), .rw 1, .val [] (.int .i64), .val [] (.int .i64)]) (b := [.arr [] (.prod (.int .i64) (.prod (.int .i64) .unit))]) (G := fun ws rs => inner T an88 (modesOf F) 0 k 46 (S88 k) (ending T Try.f88 an88 0 K) cd88_0 (sh sp88_0 ws rs) N X) (fun x y => Eq.trans (by kernel_rfl) (Eq.trans (i88_0 k K N X x.1 x.2.1 k x.2.2.2.1 x.2.2.2.2.1 y.1).symm (by kernel_rfl))) ws rs
theorem l88_1000010 (ws : List PV) (rs : List RowS) (N : St → Option R) (X : Nat → St → Option R) : L88 k K 1000010 ws rs N X = inner T an88 (modesOf F) 0 k 46 (S88 k) (ending T Try.f88 an88 0 K) cd88_1000010 (sh sp88_1000010 ws rs) N X := by
  show L88_1000010 k K ws rs N X = _
  unfold L88_1000010
  rw [f88_1000010_def]
  exact onShape_eq (a := [.val [] (.int .i64), .rw 1, .val [] (.int .i64), .val [] .bool]) (b := [.arr [] (.prod (.int .i64) (.prod (.int .i64) .unit))]) (G := fun ws rs => inner T an88 (modesOf F) 0 k 46 (S88 k) (ending T Try.f88 an88 0 K) cd88_1000010 (sh sp88_1000010 ws rs) N X) (fun x y => Eq.trans (by kernel_rfl) (innerS_eq T an88 (modesOf F) 0 k 46 (S88 k) (L88 k K) cd88_1000010 (l := []) (by kernel_rfl) trivial _ N X)) ws rs
end
theorem e88 (k : Nat) (a0 : zL3) (a1 : Int) (K : List PV → List RowS → Option R) : callC T F k 88 [.val [(0, 0)] (.slice (.prod (.int .i64) (.prod (.int .i64) .unit))) a0, zi a1] [] K = f88 k a0 a1 (fun z0 => K [.rw 1] [⟨0, .arr [] (.prod (.int .i64) (.prod (.int .i64) .unit)) z0⟩]) := by
  rw [f88_def]
  cases k with
  | zero => rfl
  | succ k =>
    refine Eq.trans (show _ = exec T an88 (modesOf F) 0 k 46 (callC T F k) (ending T Try.f88 an88 0 K) (bodyOf Try.f88) ⟨argEnv 0 [.val [(0, 0)] (.slice (.prod (.int .i64) (.prod (.int .i64) .unit))) a0, zi a1] (fun _ => none), rowsOf []⟩ (ending T Try.f88 an88 0 K) (fun _ _ => none) from by kernel_rfl) ?_
    rw [← S88_eq k, ← execS_eq T an88 (modesOf F) 0 k 46 (S88 k) (L88 k K) (bodyOf Try.f88) (cuts_of _ _ _ _ _ _ _ _ (bodyOf Try.f88) (l := [(0, sp88_0, cd88_0), (1000010, sp88_1000010, cd88_1000010)]) (by kernel_rfl) ⟨l88_0 k K, l88_1000010 k K, trivial⟩)]
    kernel_rfl
noncomputable def s88 (k : Nat) (a : List PV) (r : List RowS) (K : List PV → List RowS → Option R) : Option R :=
  onShape [.val [(0, 0)] (.slice (.prod (.int .i64) (.prod (.int .i64) .unit))), .val [] (.int .i64)] [] (fun v => f88 k v.1.1 v.1.2.1 (fun z0 => K [.rw 1] [⟨0, .arr [] (.prod (.int .i64) (.prod (.int .i64) .unit)) z0⟩])) (callC T F k 88 a r K) a r
theorem s88_eq (k : Nat) (a : List PV) (r : List RowS) (K : List PV → List RowS → Option R) : s88 k a r K = callC T F k 88 a r K := by
  unfold s88
  exact onShape_eq (a := [.val [(0, 0)] (.slice (.prod (.int .i64) (.prod (.int .i64) .unit))), .val [] (.int .i64)]) (b := []) (G := fun a r => callC T F k 88 a r K) (fun x y => Eq.trans (by kernel_rfl) (Eq.trans (e88 k x.1 x.2.1 K).symm (by kernel_rfl))) a r
end
section
variable {R : Type}
noncomputable def S106 (k g : Nat) (a : List PV) (r : List RowS) (K : List PV → List RowS → Option R) : Option R := callC T F k g a r K
theorem S106_eq (k : Nat) : S106 (R := R) k = callC T F k := by
  funext g a r K
  exact rfl
theorem e106 (k : Nat) (K : List PV → List RowS → Option R) : callC T F k 106 [] [] K = f106 k (fun z0 z1 => K [.agg [zi z0, zi z1]] []) := by
  rw [f106_def]
  cases k with
  | zero => rfl
  | succ k =>
    refine Eq.trans (show _ = exec T an106 (modesOf F) 0 k 2 (callC T F k) (ending T Try.f106 an106 0 K) (bodyOf Try.f106) ⟨argEnv 0 [] (fun _ => none), rowsOf []⟩ (ending T Try.f106 an106 0 K) (fun _ _ => none) from by kernel_rfl) ?_
    rw [← S106_eq k, ← execS_eq T an106 (modesOf F) 0 k 2 (S106 k) (fun _ _ _ _ _ => none) (bodyOf Try.f106) (cuts_of _ _ _ _ _ _ _ _ (bodyOf Try.f106) (l := []) (by kernel_rfl) trivial)]
    kernel_rfl
noncomputable def s106 (k : Nat) (a : List PV) (r : List RowS) (K : List PV → List RowS → Option R) : Option R :=
  onShape [] [] (fun v => f106 k (fun z0 z1 => K [.agg [zi z0, zi z1]] [])) (callC T F k 106 a r K) a r
theorem s106_eq (k : Nat) (a : List PV) (r : List RowS) (K : List PV → List RowS → Option R) : s106 k a r K = callC T F k 106 a r K := by
  unfold s106
  exact onShape_eq (a := []) (b := []) (G := fun a r => callC T F k 106 a r K) (fun x y => Eq.trans (by kernel_rfl) (Eq.trans (e106 k K).symm (by kernel_rfl))) a r
end
section
variable {R : Type}
noncomputable def S118 (k g : Nat) (a : List PV) (r : List RowS) (K : List PV → List RowS → Option R) : Option R := bif g == 106 then s106 k a r K else callC T F k g a r K
theorem S118_eq (k : Nat) : S118 (R := R) k = callC T F k := by
  funext g a r K
  exact pick_eq (fun e => by subst e; exact s106_eq k a r K) (rfl)
section
variable {R : Type} (k : Nat) (K : List PV → List RowS → Option R)
noncomputable def L118_1000003 (ws : List PV) (rs : List RowS) (N : St → Option R) (X : Nat → St → Option R) : Option R :=
  onShape [.val [(0, 0)] (.slice (.prod (.int .i64) (.prod (.int .i64) .unit))), .nils, .val [] .bool] [] (fun v => f118_1000003 k (fun yN_1 => N (sh fi118_3 [.val [(0, 0)] (.slice (.prod (.int .i64) (.prod (.int .i64) .unit))) v.1.1, .rw 1] [⟨0, .arr [] (.prod (.int .i64) (.prod (.int .i64) .unit)) yN_1⟩])) v.1.1 v.1.2.2.1) (inner T an118 (modesOf F) 0 k 14 (S118 k) (ending T Try.f118 an118 0 K) cd118_1000003 (sh sp118_1000003 ws rs) N X) ws rs
noncomputable def L118 (id : Nat) (ws : List PV) (rs : List RowS) (N : St → Option R) (X : Nat → St → Option R) : Option R := bif id == 1000003 then L118_1000003 k K ws rs N X else none
theorem l118_1000003 (ws : List PV) (rs : List RowS) (N : St → Option R) (X : Nat → St → Option R) : L118 k K 1000003 ws rs N X = inner T an118 (modesOf F) 0 k 14 (S118 k) (ending T Try.f118 an118 0 K) cd118_1000003 (sh sp118_1000003 ws rs) N X := by
  show L118_1000003 k K ws rs N X = _
  unfold L118_1000003
  rw [f118_1000003_def]
  exact onShape_eq (a := [.val [(0, 0)] (.slice (.prod (.int .i64) (.prod (.int .i64) .unit))), .nils, .val [] .bool]) (b := []) (G := fun ws rs => inner T an118 (modesOf F) 0 k 14 (S118 k) (ending T Try.f118 an118 0 K) cd118_1000003 (sh sp118_1000003 ws rs) N X) (fun x y => Eq.trans (by kernel_rfl) (innerS_eq T an118 (modesOf F) 0 k 14 (S118 k) (L118 k K) cd118_1000003 (l := []) (by kernel_rfl) trivial _ N X)) ws rs
end
theorem e118 (k : Nat) (a0 : Bool) (a1 : zL3) (K : List PV → List RowS → Option R) : callC T F k 118 [.val [] .bool a0, .val [(0, 0)] (.slice (.prod (.int .i64) (.prod (.int .i64) .unit))) a1] [] K = f118 k a0 a1 (fun z0 => K [.rw 1] [⟨0, .arr [] (.prod (.int .i64) (.prod (.int .i64) .unit)) z0⟩]) := by
  rw [f118_def]
  cases k with
  | zero => rfl
  | succ k =>
    refine Eq.trans (show _ = exec T an118 (modesOf F) 0 k 14 (callC T F k) (ending T Try.f118 an118 0 K) (bodyOf Try.f118) ⟨argEnv 0 [.val [] .bool a0, .val [(0, 0)] (.slice (.prod (.int .i64) (.prod (.int .i64) .unit))) a1] (fun _ => none), rowsOf []⟩ (ending T Try.f118 an118 0 K) (fun _ _ => none) from by kernel_rfl) ?_
    rw [← S118_eq k, ← execS_eq T an118 (modesOf F) 0 k 14 (S118 k) (L118 k K) (bodyOf Try.f118) (cuts_of _ _ _ _ _ _ _ _ (bodyOf Try.f118) (l := [(1000003, sp118_1000003, cd118_1000003)]) (by kernel_rfl) ⟨l118_1000003 k K, trivial⟩)]
    kernel_rfl
noncomputable def s118 (k : Nat) (a : List PV) (r : List RowS) (K : List PV → List RowS → Option R) : Option R :=
  onShape [.val [] .bool, .val [(0, 0)] (.slice (.prod (.int .i64) (.prod (.int .i64) .unit)))] [] (fun v => f118 k v.1.1 v.1.2.1 (fun z0 => K [.rw 1] [⟨0, .arr [] (.prod (.int .i64) (.prod (.int .i64) .unit)) z0⟩])) (callC T F k 118 a r K) a r
theorem s118_eq (k : Nat) (a : List PV) (r : List RowS) (K : List PV → List RowS → Option R) : s118 k a r K = callC T F k 118 a r K := by
  unfold s118
  exact onShape_eq (a := [.val [] .bool, .val [(0, 0)] (.slice (.prod (.int .i64) (.prod (.int .i64) .unit)))]) (b := []) (G := fun a r => callC T F k 118 a r K) (fun x y => Eq.trans (by kernel_rfl) (Eq.trans (e118 k x.1 x.2.1 K).symm (by kernel_rfl))) a r
end
section
variable {R : Type}
noncomputable def S113 (k g : Nat) (a : List PV) (r : List RowS) (K : List PV → List RowS → Option R) : Option R := bif g == 88 then s88 k a r K else bif g == 118 then s118 k a r K else callC T F k g a r K
theorem S113_eq (k : Nat) : S113 (R := R) k = callC T F k := by
  funext g a r K
  exact pick_eq (fun e => by subst e; exact s88_eq k a r K) (pick_eq (fun e => by subst e; exact s118_eq k a r K) (rfl))
theorem e113 (k : Nat) (a0 : Int) (a1 : Int) (a2 : ByteArray) (a3 : List Int) (a4 : zL3) (a5 : Int) (a6 : Int) (a7 : Int) (a8 : Int) (K : List PV → List RowS → Option R) : callC T F k 113 [.agg [zi a0, zi a1, .val [] .str a2, .val [(0, 0)] (.slice (.int .u8)) a3, .val [(0, 0)] (.slice (.prod (.int .i64) (.prod (.int .i64) .unit))) a4, zi a5, zi a6, zi a7, zi a8]] [] K = f113 k a0 a1 a2 a3 a4 a5 a6 a7 a8 (fun z0 z1 => K [.rw 1, .val [] .bool z0] [⟨0, .arr [] (.prod (.int .i64) (.prod (.int .i64) .unit)) z1⟩]) := by
  rw [f113_def]
  cases k with
  | zero => rfl
  | succ k =>
    refine Eq.trans (show _ = exec T an113 (modesOf F) 0 k 16 (callC T F k) (ending T Try.f113 an113 0 K) (bodyOf Try.f113) ⟨argEnv 0 [.agg [zi a0, zi a1, .val [] .str a2, .val [(0, 0)] (.slice (.int .u8)) a3, .val [(0, 0)] (.slice (.prod (.int .i64) (.prod (.int .i64) .unit))) a4, zi a5, zi a6, zi a7, zi a8]] (fun _ => none), rowsOf []⟩ (ending T Try.f113 an113 0 K) (fun _ _ => none) from by kernel_rfl) ?_
    rw [← S113_eq k, ← execS_eq T an113 (modesOf F) 0 k 16 (S113 k) (fun _ _ _ _ _ => none) (bodyOf Try.f113) (cuts_of _ _ _ _ _ _ _ _ (bodyOf Try.f113) (l := []) (by kernel_rfl) trivial)]
    kernel_rfl
noncomputable def s113 (k : Nat) (a : List PV) (r : List RowS) (K : List PV → List RowS → Option R) : Option R :=
  onShape [.agg [.val [] (.int .i64), .val [] (.int .i64), .val [] .str, .val [(0, 0)] (.slice (.int .u8)), .val [(0, 0)] (.slice (.prod (.int .i64) (.prod (.int .i64) .unit))), .val [] (.int .i64), .val [] (.int .i64), .val [] (.int .i64), .val [] (.int .i64)]] [] (fun v => f113 k v.1.1.1 v.1.1.2.1 v.1.1.2.2.1 v.1.1.2.2.2.1 v.1.1.2.2.2.2.1 v.1.1.2.2.2.2.2.1 v.1.1.2.2.2.2.2.2.1 v.1.1.2.2.2.2.2.2.2.1 v.1.1.2.2.2.2.2.2.2.2.1 (fun z0 z1 => K [.rw 1, .val [] .bool z0] [⟨0, .arr [] (.prod (.int .i64) (.prod (.int .i64) .unit)) z1⟩])) (callC T F k 113 a r K) a r
theorem s113_eq (k : Nat) (a : List PV) (r : List RowS) (K : List PV → List RowS → Option R) : s113 k a r K = callC T F k 113 a r K := by
  unfold s113
  exact onShape_eq (a := [.agg [.val [] (.int .i64), .val [] (.int .i64), .val [] .str, .val [(0, 0)] (.slice (.int .u8)), .val [(0, 0)] (.slice (.prod (.int .i64) (.prod (.int .i64) .unit))), .val [] (.int .i64), .val [] (.int .i64), .val [] (.int .i64), .val [] (.int .i64)]]) (b := []) (G := fun a r => callC T F k 113 a r K) (fun x y => Eq.trans (by kernel_rfl) (Eq.trans (e113 k x.1.1 x.1.2.1 x.1.2.2.1 x.1.2.2.2.1 x.1.2.2.2.2.1 x.1.2.2.2.2.2.1 x.1.2.2.2.2.2.2.1 x.1.2.2.2.2.2.2.2.1 x.1.2.2.2.2.2.2.2.2.1 K).symm (by kernel_rfl))) a r
end
section
variable {R : Type}
noncomputable def S98 (k g : Nat) (a : List PV) (r : List RowS) (K : List PV → List RowS → Option R) : Option R := bif g == 113 then s113 k a r K else callC T F k g a r K
theorem S98_eq (k : Nat) : S98 (R := R) k = callC T F k := by
  funext g a r K
  exact pick_eq (fun e => by subst e; exact s113_eq k a r K) (rfl)
theorem e98 (k : Nat) (a0 : Int) (a1 : Int) (a2 : ByteArray) (a3 : List Int) (a4 : zL3) (a5 : Int) (a6 : Int) (a7 : Int) (a8 : Int) (K : List PV → List RowS → Option R) : callC T F k 98 [.agg [zi a0, zi a1, .val [] .str a2, .val [(0, 0)] (.slice (.int .u8)) a3, .val [(0, 0)] (.slice (.prod (.int .i64) (.prod (.int .i64) .unit))) a4, zi a5, zi a6, zi a7, zi a8]] [] K = f98 k a0 a1 a2 a3 a4 a5 a6 a7 a8 (fun z0 => K [.val [] .bool z0] []) := by
  rw [f98_def]
  cases k with
  | zero => rfl
  | succ k =>
    refine Eq.trans (show _ = exec T an98 (modesOf F) 0 k 16 (callC T F k) (ending T Try.f98 an98 0 K) (bodyOf Try.f98) ⟨argEnv 0 [.agg [zi a0, zi a1, .val [] .str a2, .val [(0, 0)] (.slice (.int .u8)) a3, .val [(0, 0)] (.slice (.prod (.int .i64) (.prod (.int .i64) .unit))) a4, zi a5, zi a6, zi a7, zi a8]] (fun _ => none), rowsOf []⟩ (ending T Try.f98 an98 0 K) (fun _ _ => none) from by kernel_rfl) ?_
    rw [← S98_eq k, ← execS_eq T an98 (modesOf F) 0 k 16 (S98 k) (fun _ _ _ _ _ => none) (bodyOf Try.f98) (cuts_of _ _ _ _ _ _ _ _ (bodyOf Try.f98) (l := []) (by kernel_rfl) trivial)]
    kernel_rfl
noncomputable def s98 (k : Nat) (a : List PV) (r : List RowS) (K : List PV → List RowS → Option R) : Option R :=
  onShape [.agg [.val [] (.int .i64), .val [] (.int .i64), .val [] .str, .val [(0, 0)] (.slice (.int .u8)), .val [(0, 0)] (.slice (.prod (.int .i64) (.prod (.int .i64) .unit))), .val [] (.int .i64), .val [] (.int .i64), .val [] (.int .i64), .val [] (.int .i64)]] [] (fun v => f98 k v.1.1.1 v.1.1.2.1 v.1.1.2.2.1 v.1.1.2.2.2.1 v.1.1.2.2.2.2.1 v.1.1.2.2.2.2.2.1 v.1.1.2.2.2.2.2.2.1 v.1.1.2.2.2.2.2.2.2.1 v.1.1.2.2.2.2.2.2.2.2.1 (fun z0 => K [.val [] .bool z0] [])) (callC T F k 98 a r K) a r
theorem s98_eq (k : Nat) (a : List PV) (r : List RowS) (K : List PV → List RowS → Option R) : s98 k a r K = callC T F k 98 a r K := by
  unfold s98
  exact onShape_eq (a := [.agg [.val [] (.int .i64), .val [] (.int .i64), .val [] .str, .val [(0, 0)] (.slice (.int .u8)), .val [(0, 0)] (.slice (.prod (.int .i64) (.prod (.int .i64) .unit))), .val [] (.int .i64), .val [] (.int .i64), .val [] (.int .i64), .val [] (.int .i64)]]) (b := []) (G := fun a r => callC T F k 98 a r K) (fun x y => Eq.trans (by kernel_rfl) (Eq.trans (e98 k x.1.1 x.1.2.1 x.1.2.2.1 x.1.2.2.2.1 x.1.2.2.2.2.1 x.1.2.2.2.2.2.1 x.1.2.2.2.2.2.2.1 x.1.2.2.2.2.2.2.2.1 x.1.2.2.2.2.2.2.2.2.1 K).symm (by kernel_rfl))) a r
end
section
variable {R : Type}
noncomputable def S57 (k g : Nat) (a : List PV) (r : List RowS) (K : List PV → List RowS → Option R) : Option R := bif g == 46 then s46 k a r K else bif g == 72 then s72 k a r K else bif g == 74 then s74 k a r K else bif g == 96 then s96 k a r K else bif g == 97 then s97 k a r K else bif g == 98 then s98 k a r K else callC T F k g a r K
theorem S57_eq (k : Nat) : S57 (R := R) k = callC T F k := by
  funext g a r K
  exact pick_eq (fun e => by subst e; exact s46_eq k a r K) (pick_eq (fun e => by subst e; exact s72_eq k a r K) (pick_eq (fun e => by subst e; exact s74_eq k a r K) (pick_eq (fun e => by subst e; exact s96_eq k a r K) (pick_eq (fun e => by subst e; exact s97_eq k a r K) (pick_eq (fun e => by subst e; exact s98_eq k a r K) (rfl))))))
section
variable {R : Type} (k : Nat) (K : List PV → List RowS → Option R)
noncomputable def L57_1000011 (ws : List PV) (rs : List RowS) (N : St → Option R) (X : Nat → St → Option R) : Option R :=
  onShape [.ptr 1 0, .val [] (.int .i64), .val [] .bool] [.vars [.val [] (.int .i64), .val [] (.int .i64), .val [] .str, .val [(0, 0)] (.slice (.int .u8)), .val [(0, 0)] (.slice (.prod (.int .i64) (.prod (.int .i64) .unit))), .val [] (.int .i64), .val [] (.int .i64), .val [] (.int .i64), .val [] (.int .i64)]] (fun v => f57_1000011 k (fun yN_0 => N (sh fi57_11 [.ptr 1 0, zi yN_0] [⟨0, .vars [zi v.2.1.1, zi v.2.1.2.1, .val [] .str v.2.1.2.2.1, .val [(0, 0)] (.slice (.int .u8)) v.2.1.2.2.2.1, .val [(0, 0)] (.slice (.prod (.int .i64) (.prod (.int .i64) .unit))) v.2.1.2.2.2.2.1, zi v.2.1.2.2.2.2.2.1, zi v.2.1.2.2.2.2.2.2.1, zi v.2.1.2.2.2.2.2.2.2.1, zi v.2.1.2.2.2.2.2.2.2.2.1]⟩])) v.1.2.1 v.1.2.2.1 v.2.1.1 v.2.1.2.1 v.2.1.2.2.1 v.2.1.2.2.2.1 v.2.1.2.2.2.2.1 v.2.1.2.2.2.2.2.1 v.2.1.2.2.2.2.2.2.1 v.2.1.2.2.2.2.2.2.2.1 v.2.1.2.2.2.2.2.2.2.2.1) (inner T an57 (modesOf F) 0 k 143 (S57 k) (ending T Try.f57 an57 0 K) cd57_1000011 (sh sp57_1000011 ws rs) N X) ws rs
noncomputable def L57_0 (ws : List PV) (rs : List RowS) (N : St → Option R) (X : Nat → St → Option R) : Option R :=
  onShape [.ptr 1 0, .val [] (.int .i64)] [.vars [.val [] (.int .i64), .val [] (.int .i64), .val [] .str, .val [(0, 0)] (.slice (.int .u8)), .val [(0, 0)] (.slice (.prod (.int .i64) (.prod (.int .i64) .unit))), .val [] (.int .i64), .val [] (.int .i64), .val [] (.int .i64), .val [] (.int .i64)]] (fun v => f57_0 k (fun z0 => K [zi z0] []) (N (sh jn57_0 [.ptr 1 0] [⟨0, .vars [zi v.2.1.1, zi v.2.1.2.1, .val [] .str v.2.1.2.2.1, .val [(0, 0)] (.slice (.int .u8)) v.2.1.2.2.2.1, .val [(0, 0)] (.slice (.prod (.int .i64) (.prod (.int .i64) .unit))) v.2.1.2.2.2.2.1, zi v.2.1.2.2.2.2.2.1, zi v.2.1.2.2.2.2.2.2.1, zi v.2.1.2.2.2.2.2.2.2.1, zi v.2.1.2.2.2.2.2.2.2.2.1]⟩])) v.2.1.1 v.2.1.2.1 v.2.1.2.2.1 v.2.1.2.2.2.1 v.2.1.2.2.2.2.1 v.2.1.2.2.2.2.2.1 v.2.1.2.2.2.2.2.2.1 v.2.1.2.2.2.2.2.2.2.1 v.2.1.2.2.2.2.2.2.2.2.1 k v.1.2.1) (inner T an57 (modesOf F) 0 k 143 (S57 k) (ending T Try.f57 an57 0 K) cd57_0 (sh sp57_0 ws rs) N X) ws rs
noncomputable def L57 (id : Nat) (ws : List PV) (rs : List RowS) (N : St → Option R) (X : Nat → St → Option R) : Option R := bif id == 1000011 then L57_1000011 k K ws rs N X else bif id == 0 then L57_0 k K ws rs N X else none
theorem l57_1000011 (ws : List PV) (rs : List RowS) (N : St → Option R) (X : Nat → St → Option R) : L57 k K 1000011 ws rs N X = inner T an57 (modesOf F) 0 k 143 (S57 k) (ending T Try.f57 an57 0 K) cd57_1000011 (sh sp57_1000011 ws rs) N X := by
  show L57_1000011 k K ws rs N X = _
  unfold L57_1000011
  rw [f57_1000011_def]
  exact onShape_eq (a := [.ptr 1 0, .val [] (.int .i64), .val [] .bool]) (b := [.vars [.val [] (.int .i64), .val [] (.int .i64), .val [] .str, .val [(0, 0)] (.slice (.int .u8)), .val [(0, 0)] (.slice (.prod (.int .i64) (.prod (.int .i64) .unit))), .val [] (.int .i64), .val [] (.int .i64), .val [] (.int .i64), .val [] (.int .i64)]]) (G := fun ws rs => inner T an57 (modesOf F) 0 k 143 (S57 k) (ending T Try.f57 an57 0 K) cd57_1000011 (sh sp57_1000011 ws rs) N X) (fun x y => Eq.trans (by kernel_rfl) (innerS_eq T an57 (modesOf F) 0 k 143 (S57 k) (L57 k K) cd57_1000011 (l := []) (by kernel_rfl) trivial _ N X)) ws rs
theorem b57_0 (rec : St → Option R) (N : St → Option R) (X : Nat → St → Option R) (v0_1 : Int) (v0_2 : Int) (v0_3 : ByteArray) (v0_4 : List Int) (v0_5 : zL3) (v0_6 : Int) (v0_7 : Int) (v0_8 : Int) (v0_9 : Int) (v0_0 : Int) :
    execS T an57 (modesOf F) 0 k 143 (S57 k) (L57 k K) (ending T Try.f57 an57 0 K) bd57_0 (sh sp57_0 [.ptr 1 0, zi v0_0] [⟨0, .vars [zi v0_1, zi v0_2, .val [] .str v0_3, .val [(0, 0)] (.slice (.int .u8)) v0_4, .val [(0, 0)] (.slice (.prod (.int .i64) (.prod (.int .i64) .unit))) v0_5, zi v0_6, zi v0_7, zi v0_8, zi v0_9]⟩]) (fun st => atHead an57 0 bd57_0 st rec) (outX an57 0 0 N X) =
      f57_0b k (fun v0_0 => rec (sh sp57_0 [.ptr 1 0, zi v0_0] [⟨0, .vars [zi v0_1, zi v0_2, .val [] .str v0_3, .val [(0, 0)] (.slice (.int .u8)) v0_4, .val [(0, 0)] (.slice (.prod (.int .i64) (.prod (.int .i64) .unit))) v0_5, zi v0_6, zi v0_7, zi v0_8, zi v0_9]⟩])) (fun z0 => K [zi z0] []) (N (sh jn57_0 [.ptr 1 0] [⟨0, .vars [zi v0_1, zi v0_2, .val [] .str v0_3, .val [(0, 0)] (.slice (.int .u8)) v0_4, .val [(0, 0)] (.slice (.prod (.int .i64) (.prod (.int .i64) .unit))) v0_5, zi v0_6, zi v0_7, zi v0_8, zi v0_9]⟩])) v0_1 v0_2 v0_3 v0_4 v0_5 v0_6 v0_7 v0_8 v0_9 v0_0 := by kernel_rfl
theorem i57_0 (N : St → Option R) (X : Nat → St → Option R) (v0_1 : Int) (v0_2 : Int) (v0_3 : ByteArray) (v0_4 : List Int) (v0_5 : zL3) (v0_6 : Int) (v0_7 : Int) (v0_8 : Int) (v0_9 : Int) (m : Nat) : ∀ (v0_0 : Int),
    iter (atHead an57 0 bd57_0) m (fun st N' => exec T an57 (modesOf F) 0 k 143 (S57 k) (ending T Try.f57 an57 0 K) bd57_0 st N' (outX an57 0 0 N X)) (sh sp57_0 [.ptr 1 0, zi v0_0] [⟨0, .vars [zi v0_1, zi v0_2, .val [] .str v0_3, .val [(0, 0)] (.slice (.int .u8)) v0_4, .val [(0, 0)] (.slice (.prod (.int .i64) (.prod (.int .i64) .unit))) v0_5, zi v0_6, zi v0_7, zi v0_8, zi v0_9]⟩]) = f57_0d k (fun z0 => K [zi z0] []) (N (sh jn57_0 [.ptr 1 0] [⟨0, .vars [zi v0_1, zi v0_2, .val [] .str v0_3, .val [(0, 0)] (.slice (.int .u8)) v0_4, .val [(0, 0)] (.slice (.prod (.int .i64) (.prod (.int .i64) .unit))) v0_5, zi v0_6, zi v0_7, zi v0_8, zi v0_9]⟩])) v0_1 v0_2 v0_3 v0_4 v0_5 v0_6 v0_7 v0_8 v0_9 m v0_0 := by
  induction m with
  | zero => intros; rfl
  | succ m ih =>
    intro v0_0
    simp only [iter]
    rw [← execS_eq T an57 (modesOf F) 0 k 143 (S57 k) (L57 k K) bd57_0 (cuts_of _ _ _ _ _ _ _ _ bd57_0 (l := []) (by kernel_rfl) trivial)]
    refine (b57_0 k K _ N X v0_1 v0_2 v0_3 v0_4 v0_5 v0_6 v0_7 v0_8 v0_9 v0_0).trans ?_
    simp only [f57_0d, ih]
theorem l57_0 (ws : List PV) (rs : List RowS) (N : St → Option R) (X : Nat → St → Option R) : L57 k K 0 ws rs N X = inner T an57 (modesOf F) 0 k 143 (S57 k) (ending T Try.f57 an57 0 K) cd57_0 (sh sp57_0 ws rs) N X := by
  show L57_0 k K ws rs N X = _
  unfold L57_0
  rw [f57_0_def]
  exact onShape_eq (a := [.ptr 1 0, .val [] (.int .i64)]) (b := [.vars [.val [] (.int .i64), .val [] (.int .i64), .val [] .str, .val [(0, 0)] (.slice (.int .u8)), .val [(0, 0)] (.slice (.prod (.int .i64) (.prod (.int .i64) .unit))), .val [] (.int .i64), .val [] (.int .i64), .val [] (.int .i64), .val [] (.int .i64)]]) (G := fun ws rs => inner T an57 (modesOf F) 0 k 143 (S57 k) (ending T Try.f57 an57 0 K) cd57_0 (sh sp57_0 ws rs) N X) (fun x y => Eq.trans (by kernel_rfl) (Eq.trans (i57_0 k K N X y.1.1 y.1.2.1 y.1.2.2.1 y.1.2.2.2.1 y.1.2.2.2.2.1 y.1.2.2.2.2.2.1 y.1.2.2.2.2.2.2.1 y.1.2.2.2.2.2.2.2.1 y.1.2.2.2.2.2.2.2.2.1 k x.2.1).symm (by kernel_rfl))) ws rs
end
theorem e57 (k : Nat) (a0 : Int) (a1 : Int) (a2 : ByteArray) (a3 : List Int) (a4 : zL3) (a5 : Int) (a6 : Int) (a7 : Int) (a8 : Int) (K : List PV → List RowS → Option R) : callC T F k 57 [.agg [zi a0, zi a1, .val [] .str a2, .val [(0, 0)] (.slice (.int .u8)) a3, .val [(0, 0)] (.slice (.prod (.int .i64) (.prod (.int .i64) .unit))) a4, zi a5, zi a6, zi a7, zi a8]] [] K = f57 k a0 a1 a2 a3 a4 a5 a6 a7 a8 (fun z0 => K [zi z0] []) := by
  rw [f57_def]
  cases k with
  | zero => rfl
  | succ k =>
    refine Eq.trans (show _ = exec T an57 (modesOf F) 0 k 143 (callC T F k) (ending T Try.f57 an57 0 K) (bodyOf Try.f57) ⟨argEnv 0 [.agg [zi a0, zi a1, .val [] .str a2, .val [(0, 0)] (.slice (.int .u8)) a3, .val [(0, 0)] (.slice (.prod (.int .i64) (.prod (.int .i64) .unit))) a4, zi a5, zi a6, zi a7, zi a8]] (fun _ => none), rowsOf []⟩ (ending T Try.f57 an57 0 K) (fun _ _ => none) from by kernel_rfl) ?_
    rw [← S57_eq k, ← execS_eq T an57 (modesOf F) 0 k 143 (S57 k) (L57 k K) (bodyOf Try.f57) (cuts_of _ _ _ _ _ _ _ _ (bodyOf Try.f57) (l := [(1000011, sp57_1000011, cd57_1000011), (0, sp57_0, cd57_0)]) (by kernel_rfl) ⟨l57_1000011 k K, l57_0 k K, trivial⟩)]
    kernel_rfl
noncomputable def s57 (k : Nat) (a : List PV) (r : List RowS) (K : List PV → List RowS → Option R) : Option R :=
  onShape [.agg [.val [] (.int .i64), .val [] (.int .i64), .val [] .str, .val [(0, 0)] (.slice (.int .u8)), .val [(0, 0)] (.slice (.prod (.int .i64) (.prod (.int .i64) .unit))), .val [] (.int .i64), .val [] (.int .i64), .val [] (.int .i64), .val [] (.int .i64)]] [] (fun v => f57 k v.1.1.1 v.1.1.2.1 v.1.1.2.2.1 v.1.1.2.2.2.1 v.1.1.2.2.2.2.1 v.1.1.2.2.2.2.2.1 v.1.1.2.2.2.2.2.2.1 v.1.1.2.2.2.2.2.2.2.1 v.1.1.2.2.2.2.2.2.2.2.1 (fun z0 => K [zi z0] [])) (callC T F k 57 a r K) a r
theorem s57_eq (k : Nat) (a : List PV) (r : List RowS) (K : List PV → List RowS → Option R) : s57 k a r K = callC T F k 57 a r K := by
  unfold s57
  exact onShape_eq (a := [.agg [.val [] (.int .i64), .val [] (.int .i64), .val [] .str, .val [(0, 0)] (.slice (.int .u8)), .val [(0, 0)] (.slice (.prod (.int .i64) (.prod (.int .i64) .unit))), .val [] (.int .i64), .val [] (.int .i64), .val [] (.int .i64), .val [] (.int .i64)]]) (b := []) (G := fun a r => callC T F k 57 a r K) (fun x y => Eq.trans (by kernel_rfl) (Eq.trans (e57 k x.1.1 x.1.2.1 x.1.2.2.1 x.1.2.2.2.1 x.1.2.2.2.2.1 x.1.2.2.2.2.2.1 x.1.2.2.2.2.2.2.1 x.1.2.2.2.2.2.2.2.1 x.1.2.2.2.2.2.2.2.2.1 K).symm (by kernel_rfl))) a r
end
section
variable {R : Type}
noncomputable def S84 (k g : Nat) (a : List PV) (r : List RowS) (K : List PV → List RowS → Option R) : Option R := bif g == 23 then s23 k a r K else bif g == 57 then s57 k a r K else callC T F k g a r K
theorem S84_eq (k : Nat) : S84 (R := R) k = callC T F k := by
  funext g a r K
  exact pick_eq (fun e => by subst e; exact s23_eq k a r K) (pick_eq (fun e => by subst e; exact s57_eq k a r K) (rfl))
theorem e84 (k : Nat) (a0 : Int) (a1 : Int) (a2 : Int) (a3 : Int) (a4 : Int) (a5 : Int) (a6 : Int) (a7 : ByteArray) (a8 : List Int) (a9 : zL3) (a10 : Int) (a11 : Int) (a12 : Int) (a13 : Int) (K : List PV → List RowS → Option R) : callC T F k 84 [.agg [zi a0, zi a1, zi a2, zi a3, zi a4], .agg [zi a5, zi a6, .val [] .str a7, .val [(0, 0)] (.slice (.int .u8)) a8, .val [(0, 0)] (.slice (.prod (.int .i64) (.prod (.int .i64) .unit))) a9, zi a10, zi a11, zi a12, zi a13]] [] K = f84 k a0 a1 a2 a3 a4 a5 a6 a7 a8 a9 a10 a11 a12 a13 (fun z0 => K [zi z0] []) := by
  rw [f84_def]
  cases k with
  | zero => rfl
  | succ k =>
    refine Eq.trans (show _ = exec T an84 (modesOf F) 0 k 13 (callC T F k) (ending T Try.f84 an84 0 K) (bodyOf Try.f84) ⟨argEnv 0 [.agg [zi a0, zi a1, zi a2, zi a3, zi a4], .agg [zi a5, zi a6, .val [] .str a7, .val [(0, 0)] (.slice (.int .u8)) a8, .val [(0, 0)] (.slice (.prod (.int .i64) (.prod (.int .i64) .unit))) a9, zi a10, zi a11, zi a12, zi a13]] (fun _ => none), rowsOf []⟩ (ending T Try.f84 an84 0 K) (fun _ _ => none) from by kernel_rfl) ?_
    rw [← S84_eq k, ← execS_eq T an84 (modesOf F) 0 k 13 (S84 k) (fun _ _ _ _ _ => none) (bodyOf Try.f84) (cuts_of _ _ _ _ _ _ _ _ (bodyOf Try.f84) (l := []) (by kernel_rfl) trivial)]
    kernel_rfl
noncomputable def s84 (k : Nat) (a : List PV) (r : List RowS) (K : List PV → List RowS → Option R) : Option R :=
  onShape [.agg [.val [] (.int .i64), .val [] (.int .i64), .val [] (.int .i64), .val [] (.int .i64), .val [] (.int .i64)], .agg [.val [] (.int .i64), .val [] (.int .i64), .val [] .str, .val [(0, 0)] (.slice (.int .u8)), .val [(0, 0)] (.slice (.prod (.int .i64) (.prod (.int .i64) .unit))), .val [] (.int .i64), .val [] (.int .i64), .val [] (.int .i64), .val [] (.int .i64)]] [] (fun v => f84 k v.1.1.1 v.1.1.2.1 v.1.1.2.2.1 v.1.1.2.2.2.1 v.1.1.2.2.2.2.1 v.1.2.1.1 v.1.2.1.2.1 v.1.2.1.2.2.1 v.1.2.1.2.2.2.1 v.1.2.1.2.2.2.2.1 v.1.2.1.2.2.2.2.2.1 v.1.2.1.2.2.2.2.2.2.1 v.1.2.1.2.2.2.2.2.2.2.1 v.1.2.1.2.2.2.2.2.2.2.2.1 (fun z0 => K [zi z0] [])) (callC T F k 84 a r K) a r
theorem s84_eq (k : Nat) (a : List PV) (r : List RowS) (K : List PV → List RowS → Option R) : s84 k a r K = callC T F k 84 a r K := by
  unfold s84
  exact onShape_eq (a := [.agg [.val [] (.int .i64), .val [] (.int .i64), .val [] (.int .i64), .val [] (.int .i64), .val [] (.int .i64)], .agg [.val [] (.int .i64), .val [] (.int .i64), .val [] .str, .val [(0, 0)] (.slice (.int .u8)), .val [(0, 0)] (.slice (.prod (.int .i64) (.prod (.int .i64) .unit))), .val [] (.int .i64), .val [] (.int .i64), .val [] (.int .i64), .val [] (.int .i64)]]) (b := []) (G := fun a r => callC T F k 84 a r K) (fun x y => Eq.trans (by kernel_rfl) (Eq.trans (e84 k x.1.1 x.1.2.1 x.1.2.2.1 x.1.2.2.2.1 x.1.2.2.2.2.1 x.2.1.1 x.2.1.2.1 x.2.1.2.2.1 x.2.1.2.2.2.1 x.2.1.2.2.2.2.1 x.2.1.2.2.2.2.2.1 x.2.1.2.2.2.2.2.2.1 x.2.1.2.2.2.2.2.2.2.1 x.2.1.2.2.2.2.2.2.2.2.1 K).symm (by kernel_rfl))) a r
end
section
variable {R : Type}
noncomputable def S73 (k g : Nat) (a : List PV) (r : List RowS) (K : List PV → List RowS → Option R) : Option R := callC T F k g a r K
theorem S73_eq (k : Nat) : S73 (R := R) k = callC T F k := by
  funext g a r K
  exact rfl
theorem e73 (k : Nat) (a0 : Int) (a1 : Int) (a2 : ByteArray) (a3 : Int) (a4 : Int) (a5 : Int) (a6 : List Int) (a7 : zL3) (a8 : Bool) (K : List PV → List RowS → Option R) : callC T F k 73 [.agg [zi a0, zi a1, .val [] .str a2, zi a3, zi a4, zi a5, .val [(0, 0)] (.slice (.int .u8)) a6, .val [(0, 0)] (.slice (.prod (.int .i64) (.prod (.int .i64) .unit))) a7, .val [] .bool a8]] [] K = f73 k a0 a1 a2 a3 a4 a5 a6 a7 a8 (fun z0 => K [.val [] .bool z0] []) := by
  rw [f73_def]
  cases k with
  | zero => rfl
  | succ k =>
    refine Eq.trans (show _ = exec T an73 (modesOf F) 0 k 72 (callC T F k) (ending T Try.f73 an73 0 K) (bodyOf Try.f73) ⟨argEnv 0 [.agg [zi a0, zi a1, .val [] .str a2, zi a3, zi a4, zi a5, .val [(0, 0)] (.slice (.int .u8)) a6, .val [(0, 0)] (.slice (.prod (.int .i64) (.prod (.int .i64) .unit))) a7, .val [] .bool a8]] (fun _ => none), rowsOf []⟩ (ending T Try.f73 an73 0 K) (fun _ _ => none) from by kernel_rfl) ?_
    rw [← S73_eq k, ← execS_eq T an73 (modesOf F) 0 k 72 (S73 k) (fun _ _ _ _ _ => none) (bodyOf Try.f73) (cuts_of _ _ _ _ _ _ _ _ (bodyOf Try.f73) (l := []) (by kernel_rfl) trivial)]
    kernel_rfl
noncomputable def s73 (k : Nat) (a : List PV) (r : List RowS) (K : List PV → List RowS → Option R) : Option R :=
  onShape [.agg [.val [] (.int .i64), .val [] (.int .i64), .val [] .str, .val [] (.int .i64), .val [] (.int .i64), .val [] (.int .i64), .val [(0, 0)] (.slice (.int .u8)), .val [(0, 0)] (.slice (.prod (.int .i64) (.prod (.int .i64) .unit))), .val [] .bool]] [] (fun v => f73 k v.1.1.1 v.1.1.2.1 v.1.1.2.2.1 v.1.1.2.2.2.1 v.1.1.2.2.2.2.1 v.1.1.2.2.2.2.2.1 v.1.1.2.2.2.2.2.2.1 v.1.1.2.2.2.2.2.2.2.1 v.1.1.2.2.2.2.2.2.2.2.1 (fun z0 => K [.val [] .bool z0] [])) (callC T F k 73 a r K) a r
theorem s73_eq (k : Nat) (a : List PV) (r : List RowS) (K : List PV → List RowS → Option R) : s73 k a r K = callC T F k 73 a r K := by
  unfold s73
  exact onShape_eq (a := [.agg [.val [] (.int .i64), .val [] (.int .i64), .val [] .str, .val [] (.int .i64), .val [] (.int .i64), .val [] (.int .i64), .val [(0, 0)] (.slice (.int .u8)), .val [(0, 0)] (.slice (.prod (.int .i64) (.prod (.int .i64) .unit))), .val [] .bool]]) (b := []) (G := fun a r => callC T F k 73 a r K) (fun x y => Eq.trans (by kernel_rfl) (Eq.trans (e73 k x.1.1 x.1.2.1 x.1.2.2.1 x.1.2.2.2.1 x.1.2.2.2.2.1 x.1.2.2.2.2.2.1 x.1.2.2.2.2.2.2.1 x.1.2.2.2.2.2.2.2.1 x.1.2.2.2.2.2.2.2.2.1 K).symm (by kernel_rfl))) a r
end
section
variable {R : Type}
noncomputable def S75 (k g : Nat) (a : List PV) (r : List RowS) (K : List PV → List RowS → Option R) : Option R := bif g == 106 then s106 k a r K else callC T F k g a r K
theorem S75_eq (k : Nat) : S75 (R := R) k = callC T F k := by
  funext g a r K
  exact pick_eq (fun e => by subst e; exact s106_eq k a r K) (rfl)
theorem e75 (k : Nat) (a0 : zL3) (K : List PV → List RowS → Option R) : callC T F k 75 [.val [(0, 0)] (.slice (.prod (.int .i64) (.prod (.int .i64) .unit))) a0] [] K = f75 k a0 (fun z0 z1 => K [.val [] .bool z0, .val [(0, 0)] (.slice (.prod (.int .i64) (.prod (.int .i64) .unit))) z1] []) := by
  rw [f75_def]
  cases k with
  | zero => rfl
  | succ k =>
    refine Eq.trans (show _ = exec T an75 (modesOf F) 0 k 17 (callC T F k) (ending T Try.f75 an75 0 K) (bodyOf Try.f75) ⟨argEnv 0 [.val [(0, 0)] (.slice (.prod (.int .i64) (.prod (.int .i64) .unit))) a0] (fun _ => none), rowsOf []⟩ (ending T Try.f75 an75 0 K) (fun _ _ => none) from by kernel_rfl) ?_
    rw [← S75_eq k, ← execS_eq T an75 (modesOf F) 0 k 17 (S75 k) (fun _ _ _ _ _ => none) (bodyOf Try.f75) (cuts_of _ _ _ _ _ _ _ _ (bodyOf Try.f75) (l := []) (by kernel_rfl) trivial)]
    kernel_rfl
noncomputable def s75 (k : Nat) (a : List PV) (r : List RowS) (K : List PV → List RowS → Option R) : Option R :=
  onShape [.val [(0, 0)] (.slice (.prod (.int .i64) (.prod (.int .i64) .unit)))] [] (fun v => f75 k v.1.1 (fun z0 z1 => K [.val [] .bool z0, .val [(0, 0)] (.slice (.prod (.int .i64) (.prod (.int .i64) .unit))) z1] [])) (callC T F k 75 a r K) a r
theorem s75_eq (k : Nat) (a : List PV) (r : List RowS) (K : List PV → List RowS → Option R) : s75 k a r K = callC T F k 75 a r K := by
  unfold s75
  exact onShape_eq (a := [.val [(0, 0)] (.slice (.prod (.int .i64) (.prod (.int .i64) .unit)))]) (b := []) (G := fun a r => callC T F k 75 a r K) (fun x y => Eq.trans (by kernel_rfl) (Eq.trans (e75 k x.1 K).symm (by kernel_rfl))) a r
end
section
variable {R : Type}
noncomputable def S21 (k g : Nat) (a : List PV) (r : List RowS) (K : List PV → List RowS → Option R) : Option R := bif g == 46 then s46 k a r K else bif g == 72 then s72 k a r K else bif g == 73 then s73 k a r K else bif g == 74 then s74 k a r K else bif g == 75 then s75 k a r K else callC T F k g a r K
theorem S21_eq (k : Nat) : S21 (R := R) k = callC T F k := by
  funext g a r K
  exact pick_eq (fun e => by subst e; exact s46_eq k a r K) (pick_eq (fun e => by subst e; exact s72_eq k a r K) (pick_eq (fun e => by subst e; exact s73_eq k a r K) (pick_eq (fun e => by subst e; exact s74_eq k a r K) (pick_eq (fun e => by subst e; exact s75_eq k a r K) (rfl)))))
section
variable {R : Type} (k : Nat) (K : List PV → List RowS → Option R)
noncomputable def L21_1000009 (ws : List PV) (rs : List RowS) (N : St → Option R) (X : Nat → St → Option R) : Option R :=
  onShape [.ptr 1 0, .val [] (.int .i64), .val [] .bool] [.vars [.val [] (.int .i64), .val [] (.int .i64), .val [] .str, .val [] (.int .i64), .val [] (.int .i64), .val [] (.int .i64), .val [(0, 0)] (.slice (.int .u8)), .val [(0, 0)] (.slice (.prod (.int .i64) (.prod (.int .i64) .unit))), .val [] .bool]] (fun v => f21_1000009 k (fun yN_1 => N (sh fi21_9 [.ptr 1 0, zi v.1.2.1, .val [] .bool yN_1] [⟨0, .vars [zi v.2.1.1, zi v.2.1.2.1, .val [] .str v.2.1.2.2.1, zi v.2.1.2.2.2.1, zi v.2.1.2.2.2.2.1, zi v.2.1.2.2.2.2.2.1, .val [(0, 0)] (.slice (.int .u8)) v.2.1.2.2.2.2.2.2.1, .val [(0, 0)] (.slice (.prod (.int .i64) (.prod (.int .i64) .unit))) v.2.1.2.2.2.2.2.2.2.1, .val [] .bool v.2.1.2.2.2.2.2.2.2.2.1]⟩])) v.1.2.1 v.1.2.2.1 v.2.1.1 v.2.1.2.1 v.2.1.2.2.1 v.2.1.2.2.2.1 v.2.1.2.2.2.2.1 v.2.1.2.2.2.2.2.1 v.2.1.2.2.2.2.2.2.1 v.2.1.2.2.2.2.2.2.2.1 v.2.1.2.2.2.2.2.2.2.2.1) (inner T an21 (modesOf F) 0 k 77 (S21 k) (ending T Try.f21 an21 0 K) cd21_1000009 (sh sp21_1000009 ws rs) N X) ws rs
noncomputable def L21_1000015 (ws : List PV) (rs : List RowS) (N : St → Option R) (X : Nat → St → Option R) : Option R :=
  onShape [.ptr 1 0, .val [] (.int .i64), .val [] .bool] [.vars [.val [] (.int .i64), .val [] (.int .i64), .val [] .str, .val [] (.int .i64), .val [] (.int .i64), .val [] (.int .i64), .val [(0, 0)] (.slice (.int .u8)), .val [(0, 0)] (.slice (.prod (.int .i64) (.prod (.int .i64) .unit))), .val [] .bool]] (fun v => f21_1000015 k (fun z0 => K [zi z0] []) (N (sh fi21_15 [] [])) v.1.2.1 v.1.2.2.1 v.2.1.1 v.2.1.2.1 v.2.1.2.2.1 v.2.1.2.2.2.1 v.2.1.2.2.2.2.1 v.2.1.2.2.2.2.2.1 v.2.1.2.2.2.2.2.2.1 v.2.1.2.2.2.2.2.2.2.1 v.2.1.2.2.2.2.2.2.2.2.1) (inner T an21 (modesOf F) 0 k 77 (S21 k) (ending T Try.f21 an21 0 K) cd21_1000015 (sh sp21_1000015 ws rs) N X) ws rs
noncomputable def L21_1000010 (ws : List PV) (rs : List RowS) (N : St → Option R) (X : Nat → St → Option R) : Option R :=
  onShape [.ptr 1 0, .val [] (.int .i64), .val [] .bool] [.vars [.val [] (.int .i64), .val [] (.int .i64), .val [] .str, .val [] (.int .i64), .val [] (.int .i64), .val [] (.int .i64), .val [(0, 0)] (.slice (.int .u8)), .val [(0, 0)] (.slice (.prod (.int .i64) (.prod (.int .i64) .unit))), .val [] .bool]] (fun v => f21_1000010 k (fun z0 => K [zi z0] []) (N (sh fi21_10 [] [])) v.1.2.1 v.1.2.2.1 v.2.1.1 v.2.1.2.1 v.2.1.2.2.1 v.2.1.2.2.2.1 v.2.1.2.2.2.2.1 v.2.1.2.2.2.2.2.1 v.2.1.2.2.2.2.2.2.1 v.2.1.2.2.2.2.2.2.2.1 v.2.1.2.2.2.2.2.2.2.2.1) (inner T an21 (modesOf F) 0 k 77 (S21 k) (ending T Try.f21 an21 0 K) cd21_1000010 (sh sp21_1000010 ws rs) N X) ws rs
noncomputable def L21 (id : Nat) (ws : List PV) (rs : List RowS) (N : St → Option R) (X : Nat → St → Option R) : Option R := bif id == 1000009 then L21_1000009 k K ws rs N X else bif id == 1000015 then L21_1000015 k K ws rs N X else bif id == 1000010 then L21_1000010 k K ws rs N X else none
theorem l21_1000009 (ws : List PV) (rs : List RowS) (N : St → Option R) (X : Nat → St → Option R) : L21 k K 1000009 ws rs N X = inner T an21 (modesOf F) 0 k 77 (S21 k) (ending T Try.f21 an21 0 K) cd21_1000009 (sh sp21_1000009 ws rs) N X := by
  show L21_1000009 k K ws rs N X = _
  unfold L21_1000009
  rw [f21_1000009_def]
  exact onShape_eq (a := [.ptr 1 0, .val [] (.int .i64), .val [] .bool]) (b := [.vars [.val [] (.int .i64), .val [] (.int .i64), .val [] .str, .val [] (.int .i64), .val [] (.int .i64), .val [] (.int .i64), .val [(0, 0)] (.slice (.int .u8)), .val [(0, 0)] (.slice (.prod (.int .i64) (.prod (.int .i64) .unit))), .val [] .bool]]) (G := fun ws rs => inner T an21 (modesOf F) 0 k 77 (S21 k) (ending T Try.f21 an21 0 K) cd21_1000009 (sh sp21_1000009 ws rs) N X) (fun x y => Eq.trans (by kernel_rfl) (innerS_eq T an21 (modesOf F) 0 k 77 (S21 k) (L21 k K) cd21_1000009 (l := []) (by kernel_rfl) trivial _ N X)) ws rs
theorem l21_1000015 (ws : List PV) (rs : List RowS) (N : St → Option R) (X : Nat → St → Option R) : L21 k K 1000015 ws rs N X = inner T an21 (modesOf F) 0 k 77 (S21 k) (ending T Try.f21 an21 0 K) cd21_1000015 (sh sp21_1000015 ws rs) N X := by
  show L21_1000015 k K ws rs N X = _
  unfold L21_1000015
  rw [f21_1000015_def]
  exact onShape_eq (a := [.ptr 1 0, .val [] (.int .i64), .val [] .bool]) (b := [.vars [.val [] (.int .i64), .val [] (.int .i64), .val [] .str, .val [] (.int .i64), .val [] (.int .i64), .val [] (.int .i64), .val [(0, 0)] (.slice (.int .u8)), .val [(0, 0)] (.slice (.prod (.int .i64) (.prod (.int .i64) .unit))), .val [] .bool]]) (G := fun ws rs => inner T an21 (modesOf F) 0 k 77 (S21 k) (ending T Try.f21 an21 0 K) cd21_1000015 (sh sp21_1000015 ws rs) N X) (fun x y => Eq.trans (by kernel_rfl) (innerS_eq T an21 (modesOf F) 0 k 77 (S21 k) (L21 k K) cd21_1000015 (l := []) (by kernel_rfl) trivial _ N X)) ws rs
theorem l21_1000010 (ws : List PV) (rs : List RowS) (N : St → Option R) (X : Nat → St → Option R) : L21 k K 1000010 ws rs N X = inner T an21 (modesOf F) 0 k 77 (S21 k) (ending T Try.f21 an21 0 K) cd21_1000010 (sh sp21_1000010 ws rs) N X := by
  show L21_1000010 k K ws rs N X = _
  unfold L21_1000010
  rw [f21_1000010_def]
  exact onShape_eq (a := [.ptr 1 0, .val [] (.int .i64), .val [] .bool]) (b := [.vars [.val [] (.int .i64), .val [] (.int .i64), .val [] .str, .val [] (.int .i64), .val [] (.int .i64), .val [] (.int .i64), .val [(0, 0)] (.slice (.int .u8)), .val [(0, 0)] (.slice (.prod (.int .i64) (.prod (.int .i64) .unit))), .val [] .bool]]) (G := fun ws rs => inner T an21 (modesOf F) 0 k 77 (S21 k) (ending T Try.f21 an21 0 K) cd21_1000010 (sh sp21_1000010 ws rs) N X) (fun x y => Eq.trans (by kernel_rfl) (innerS_eq T an21 (modesOf F) 0 k 77 (S21 k) (L21 k K) cd21_1000010 (l := [(1000015, sp21_1000015, cd21_1000015)]) (by kernel_rfl) ⟨l21_1000015 k K, trivial⟩ _ N X)) ws rs
end
theorem e21 (k : Nat) (a0 : Int) (a1 : Int) (a2 : ByteArray) (a3 : Int) (a4 : Int) (a5 : Int) (a6 : List Int) (a7 : zL3) (a8 : Bool) (K : List PV → List RowS → Option R) : callC T F k 21 [.agg [zi a0, zi a1, .val [] .str a2, zi a3, zi a4, zi a5, .val [(0, 0)] (.slice (.int .u8)) a6, .val [(0, 0)] (.slice (.prod (.int .i64) (.prod (.int .i64) .unit))) a7, .val [] .bool a8]] [] K = f21 k a0 a1 a2 a3 a4 a5 a6 a7 a8 (fun z0 => K [zi z0] []) := by
  rw [f21_def]
  cases k with
  | zero => rfl
  | succ k =>
    refine Eq.trans (show _ = exec T an21 (modesOf F) 0 k 77 (callC T F k) (ending T Try.f21 an21 0 K) (bodyOf Try.f21) ⟨argEnv 0 [.agg [zi a0, zi a1, .val [] .str a2, zi a3, zi a4, zi a5, .val [(0, 0)] (.slice (.int .u8)) a6, .val [(0, 0)] (.slice (.prod (.int .i64) (.prod (.int .i64) .unit))) a7, .val [] .bool a8]] (fun _ => none), rowsOf []⟩ (ending T Try.f21 an21 0 K) (fun _ _ => none) from by kernel_rfl) ?_
    rw [← S21_eq k, ← execS_eq T an21 (modesOf F) 0 k 77 (S21 k) (L21 k K) (bodyOf Try.f21) (cuts_of _ _ _ _ _ _ _ _ (bodyOf Try.f21) (l := [(1000009, sp21_1000009, cd21_1000009), (1000010, sp21_1000010, cd21_1000010)]) (by kernel_rfl) ⟨l21_1000009 k K, l21_1000010 k K, trivial⟩)]
    kernel_rfl
noncomputable def s21 (k : Nat) (a : List PV) (r : List RowS) (K : List PV → List RowS → Option R) : Option R :=
  onShape [.agg [.val [] (.int .i64), .val [] (.int .i64), .val [] .str, .val [] (.int .i64), .val [] (.int .i64), .val [] (.int .i64), .val [(0, 0)] (.slice (.int .u8)), .val [(0, 0)] (.slice (.prod (.int .i64) (.prod (.int .i64) .unit))), .val [] .bool]] [] (fun v => f21 k v.1.1.1 v.1.1.2.1 v.1.1.2.2.1 v.1.1.2.2.2.1 v.1.1.2.2.2.2.1 v.1.1.2.2.2.2.2.1 v.1.1.2.2.2.2.2.2.1 v.1.1.2.2.2.2.2.2.2.1 v.1.1.2.2.2.2.2.2.2.2.1 (fun z0 => K [zi z0] [])) (callC T F k 21 a r K) a r
theorem s21_eq (k : Nat) (a : List PV) (r : List RowS) (K : List PV → List RowS → Option R) : s21 k a r K = callC T F k 21 a r K := by
  unfold s21
  exact onShape_eq (a := [.agg [.val [] (.int .i64), .val [] (.int .i64), .val [] .str, .val [] (.int .i64), .val [] (.int .i64), .val [] (.int .i64), .val [(0, 0)] (.slice (.int .u8)), .val [(0, 0)] (.slice (.prod (.int .i64) (.prod (.int .i64) .unit))), .val [] .bool]]) (b := []) (G := fun a r => callC T F k 21 a r K) (fun x y => Eq.trans (by kernel_rfl) (Eq.trans (e21 k x.1.1 x.1.2.1 x.1.2.2.1 x.1.2.2.2.1 x.1.2.2.2.2.1 x.1.2.2.2.2.2.1 x.1.2.2.2.2.2.2.1 x.1.2.2.2.2.2.2.2.1 x.1.2.2.2.2.2.2.2.2.1 K).symm (by kernel_rfl))) a r
end
section
variable {R : Type}
noncomputable def S121 (k g : Nat) (a : List PV) (r : List RowS) (K : List PV → List RowS → Option R) : Option R := callC T F k g a r K
theorem S121_eq (k : Nat) : S121 (R := R) k = callC T F k := by
  funext g a r K
  exact rfl
section
variable {R : Type} (k : Nat) (K : List PV → List RowS → Option R)
noncomputable def L121_1000003 (ws : List PV) (rs : List RowS) (N : St → Option R) (X : Nat → St → Option R) : Option R :=
  onShape [.ptr 1 0, .ptr 2 0, .val [] (.int .i64), .val [] .bool] [.vars [.val [] (.int .i64), .val [] (.int .i64), .val [] .str, .val [(0, 0)] (.slice (.int .u8)), .val [(0, 0)] (.slice (.prod (.int .i64) (.prod (.int .i64) .unit))), .val [] (.int .i64), .val [] (.int .i64), .val [] (.int .i64), .val [] (.int .i64)], .vars [.val [] (.int .i64), .val [] (.int .i64), .val [] .str, .val [] (.int .i64), .val [] (.int .i64), .val [] (.int .i64), .val [(0, 0)] (.slice (.int .u8)), .val [(0, 0)] (.slice (.prod (.int .i64) (.prod (.int .i64) .unit))), .val [] .bool]] (fun v => f121_1000003 k (fun yN_1 => N (sh fi121_3 [.ptr 1 0, .ptr 2 0, zi v.1.2.2.1, .val [] .bool yN_1] [⟨0, .vars [zi v.2.1.1, zi v.2.1.2.1, .val [] .str v.2.1.2.2.1, .val [(0, 0)] (.slice (.int .u8)) v.2.1.2.2.2.1, .val [(0, 0)] (.slice (.prod (.int .i64) (.prod (.int .i64) .unit))) v.2.1.2.2.2.2.1, zi v.2.1.2.2.2.2.2.1, zi v.2.1.2.2.2.2.2.2.1, zi v.2.1.2.2.2.2.2.2.2.1, zi v.2.1.2.2.2.2.2.2.2.2.1]⟩, ⟨0, .vars [zi v.2.2.1.1, zi v.2.2.1.2.1, .val [] .str v.2.2.1.2.2.1, zi v.2.2.1.2.2.2.1, zi v.2.2.1.2.2.2.2.1, zi v.2.2.1.2.2.2.2.2.1, .val [(0, 0)] (.slice (.int .u8)) v.2.2.1.2.2.2.2.2.2.1, .val [(0, 0)] (.slice (.prod (.int .i64) (.prod (.int .i64) .unit))) v.2.2.1.2.2.2.2.2.2.2.1, .val [] .bool v.2.2.1.2.2.2.2.2.2.2.2.1]⟩])) v.1.2.2.1 v.1.2.2.2.1 v.2.1.1 v.2.1.2.1 v.2.1.2.2.1 v.2.1.2.2.2.1 v.2.1.2.2.2.2.1 v.2.1.2.2.2.2.2.1 v.2.1.2.2.2.2.2.2.1 v.2.1.2.2.2.2.2.2.2.1 v.2.1.2.2.2.2.2.2.2.2.1 v.2.2.1.1 v.2.2.1.2.1 v.2.2.1.2.2.1 v.2.2.1.2.2.2.1 v.2.2.1.2.2.2.2.1 v.2.2.1.2.2.2.2.2.1 v.2.2.1.2.2.2.2.2.2.1 v.2.2.1.2.2.2.2.2.2.2.1 v.2.2.1.2.2.2.2.2.2.2.2.1) (inner T an121 (modesOf F) 0 k 66 (S121 k) (ending T Try.f121 an121 0 K) cd121_1000003 (sh sp121_1000003 ws rs) N X) ws rs
noncomputable def L121 (id : Nat) (ws : List PV) (rs : List RowS) (N : St → Option R) (X : Nat → St → Option R) : Option R := bif id == 1000003 then L121_1000003 k K ws rs N X else none
theorem l121_1000003 (ws : List PV) (rs : List RowS) (N : St → Option R) (X : Nat → St → Option R) : L121 k K 1000003 ws rs N X = inner T an121 (modesOf F) 0 k 66 (S121 k) (ending T Try.f121 an121 0 K) cd121_1000003 (sh sp121_1000003 ws rs) N X := by
  show L121_1000003 k K ws rs N X = _
  unfold L121_1000003
  rw [f121_1000003_def]
  exact onShape_eq (a := [.ptr 1 0, .ptr 2 0, .val [] (.int .i64), .val [] .bool]) (b := [.vars [.val [] (.int .i64), .val [] (.int .i64), .val [] .str, .val [(0, 0)] (.slice (.int .u8)), .val [(0, 0)] (.slice (.prod (.int .i64) (.prod (.int .i64) .unit))), .val [] (.int .i64), .val [] (.int .i64), .val [] (.int .i64), .val [] (.int .i64)], .vars [.val [] (.int .i64), .val [] (.int .i64), .val [] .str, .val [] (.int .i64), .val [] (.int .i64), .val [] (.int .i64), .val [(0, 0)] (.slice (.int .u8)), .val [(0, 0)] (.slice (.prod (.int .i64) (.prod (.int .i64) .unit))), .val [] .bool]]) (G := fun ws rs => inner T an121 (modesOf F) 0 k 66 (S121 k) (ending T Try.f121 an121 0 K) cd121_1000003 (sh sp121_1000003 ws rs) N X) (fun x y => Eq.trans (by kernel_rfl) (innerS_eq T an121 (modesOf F) 0 k 66 (S121 k) (L121 k K) cd121_1000003 (l := []) (by kernel_rfl) trivial _ N X)) ws rs
end
theorem e121 (k : Nat) (a0 : Int) (a1 : Int) (a2 : ByteArray) (a3 : List Int) (a4 : zL3) (a5 : Int) (a6 : Int) (a7 : Int) (a8 : Int) (a9 : Int) (a10 : Int) (a11 : ByteArray) (a12 : Int) (a13 : Int) (a14 : Int) (a15 : List Int) (a16 : zL3) (a17 : Bool) (K : List PV → List RowS → Option R) : callC T F k 121 [.agg [zi a0, zi a1, .val [] .str a2, .val [(0, 0)] (.slice (.int .u8)) a3, .val [(0, 0)] (.slice (.prod (.int .i64) (.prod (.int .i64) .unit))) a4, zi a5, zi a6, zi a7, zi a8], .agg [zi a9, zi a10, .val [] .str a11, zi a12, zi a13, zi a14, .val [(0, 0)] (.slice (.int .u8)) a15, .val [(0, 0)] (.slice (.prod (.int .i64) (.prod (.int .i64) .unit))) a16, .val [] .bool a17]] [] K = f121 k a0 a1 a2 a3 a4 a5 a6 a7 a8 a9 a10 a11 a12 a13 a14 a15 a16 a17 (fun z0 => K [.val [] .bool z0] []) := by
  rw [f121_def]
  cases k with
  | zero => rfl
  | succ k =>
    refine Eq.trans (show _ = exec T an121 (modesOf F) 0 k 66 (callC T F k) (ending T Try.f121 an121 0 K) (bodyOf Try.f121) ⟨argEnv 0 [.agg [zi a0, zi a1, .val [] .str a2, .val [(0, 0)] (.slice (.int .u8)) a3, .val [(0, 0)] (.slice (.prod (.int .i64) (.prod (.int .i64) .unit))) a4, zi a5, zi a6, zi a7, zi a8], .agg [zi a9, zi a10, .val [] .str a11, zi a12, zi a13, zi a14, .val [(0, 0)] (.slice (.int .u8)) a15, .val [(0, 0)] (.slice (.prod (.int .i64) (.prod (.int .i64) .unit))) a16, .val [] .bool a17]] (fun _ => none), rowsOf []⟩ (ending T Try.f121 an121 0 K) (fun _ _ => none) from by kernel_rfl) ?_
    rw [← S121_eq k, ← execS_eq T an121 (modesOf F) 0 k 66 (S121 k) (L121 k K) (bodyOf Try.f121) (cuts_of _ _ _ _ _ _ _ _ (bodyOf Try.f121) (l := [(1000003, sp121_1000003, cd121_1000003)]) (by kernel_rfl) ⟨l121_1000003 k K, trivial⟩)]
    kernel_rfl
noncomputable def s121 (k : Nat) (a : List PV) (r : List RowS) (K : List PV → List RowS → Option R) : Option R :=
  onShape [.agg [.val [] (.int .i64), .val [] (.int .i64), .val [] .str, .val [(0, 0)] (.slice (.int .u8)), .val [(0, 0)] (.slice (.prod (.int .i64) (.prod (.int .i64) .unit))), .val [] (.int .i64), .val [] (.int .i64), .val [] (.int .i64), .val [] (.int .i64)], .agg [.val [] (.int .i64), .val [] (.int .i64), .val [] .str, .val [] (.int .i64), .val [] (.int .i64), .val [] (.int .i64), .val [(0, 0)] (.slice (.int .u8)), .val [(0, 0)] (.slice (.prod (.int .i64) (.prod (.int .i64) .unit))), .val [] .bool]] [] (fun v => f121 k v.1.1.1 v.1.1.2.1 v.1.1.2.2.1 v.1.1.2.2.2.1 v.1.1.2.2.2.2.1 v.1.1.2.2.2.2.2.1 v.1.1.2.2.2.2.2.2.1 v.1.1.2.2.2.2.2.2.2.1 v.1.1.2.2.2.2.2.2.2.2.1 v.1.2.1.1 v.1.2.1.2.1 v.1.2.1.2.2.1 v.1.2.1.2.2.2.1 v.1.2.1.2.2.2.2.1 v.1.2.1.2.2.2.2.2.1 v.1.2.1.2.2.2.2.2.2.1 v.1.2.1.2.2.2.2.2.2.2.1 v.1.2.1.2.2.2.2.2.2.2.2.1 (fun z0 => K [.val [] .bool z0] [])) (callC T F k 121 a r K) a r
theorem s121_eq (k : Nat) (a : List PV) (r : List RowS) (K : List PV → List RowS → Option R) : s121 k a r K = callC T F k 121 a r K := by
  unfold s121
  exact onShape_eq (a := [.agg [.val [] (.int .i64), .val [] (.int .i64), .val [] .str, .val [(0, 0)] (.slice (.int .u8)), .val [(0, 0)] (.slice (.prod (.int .i64) (.prod (.int .i64) .unit))), .val [] (.int .i64), .val [] (.int .i64), .val [] (.int .i64), .val [] (.int .i64)], .agg [.val [] (.int .i64), .val [] (.int .i64), .val [] .str, .val [] (.int .i64), .val [] (.int .i64), .val [] (.int .i64), .val [(0, 0)] (.slice (.int .u8)), .val [(0, 0)] (.slice (.prod (.int .i64) (.prod (.int .i64) .unit))), .val [] .bool]]) (b := []) (G := fun a r => callC T F k 121 a r K) (fun x y => Eq.trans (by kernel_rfl) (Eq.trans (e121 k x.1.1 x.1.2.1 x.1.2.2.1 x.1.2.2.2.1 x.1.2.2.2.2.1 x.1.2.2.2.2.2.1 x.1.2.2.2.2.2.2.1 x.1.2.2.2.2.2.2.2.1 x.1.2.2.2.2.2.2.2.2.1 x.2.1.1 x.2.1.2.1 x.2.1.2.2.1 x.2.1.2.2.2.1 x.2.1.2.2.2.2.1 x.2.1.2.2.2.2.2.1 x.2.1.2.2.2.2.2.2.1 x.2.1.2.2.2.2.2.2.2.1 x.2.1.2.2.2.2.2.2.2.2.1 K).symm (by kernel_rfl))) a r
end
section
variable {R : Type}
noncomputable def S89 (k g : Nat) (a : List PV) (r : List RowS) (K : List PV → List RowS → Option R) : Option R := callC T F k g a r K
theorem S89_eq (k : Nat) : S89 (R := R) k = callC T F k := by
  funext g a r K
  exact rfl
section
variable {R : Type} (k : Nat) (K : List PV → List RowS → Option R)
noncomputable def L89_1000006 (ws : List PV) (rs : List RowS) (N : St → Option R) (X : Nat → St → Option R) : Option R :=
  onShape [.val [(0, 0)] (.slice (.prod (.int .i64) (.prod (.int .i64) .unit))), .val [(0, 0)] (.slice (.prod (.int .i64) (.prod (.int .i64) .unit))), .rw 1, .val [] (.int .i64), .val [] (.int .i64), .ptr 2 0, .val [] .bool] [.arr [] (.prod (.int .i64) (.prod (.int .i64) .unit)), .vars [.val [] (.int .i64), .val [] (.int .i64)]] (fun v => f89_1000006 k (fun yN_2 yN_3 yN_5 yN_6 => N (sh fi89_6 [.val [(0, 0)] (.slice (.prod (.int .i64) (.prod (.int .i64) .unit))) v.1.1, .val [(0, 0)] (.slice (.prod (.int .i64) (.prod (.int .i64) .unit))) v.1.2.1, .rw 1, zi yN_2, zi yN_3, .ptr 2 0] [⟨0, .arr [] (.prod (.int .i64) (.prod (.int .i64) .unit)) v.2.1⟩, ⟨0, .vars [zi yN_5, zi yN_6]⟩])) v.1.1 v.1.2.1 v.1.2.2.2.1 v.1.2.2.2.2.1 v.1.2.2.2.2.2.2.1 v.2.1 v.2.2.1.1 v.2.2.1.2.1) (inner T an89 (modesOf F) 0 k 89 (S89 k) (ending T Try.f89 an89 0 K) cd89_1000006 (sh sp89_1000006 ws rs) N X) ws rs
noncomputable def L89_1000012 (ws : List PV) (rs : List RowS) (N : St → Option R) (X : Nat → St → Option R) : Option R :=
  onShape [.val [(0, 0)] (.slice (.prod (.int .i64) (.prod (.int .i64) .unit))), .val [(0, 0)] (.slice (.prod (.int .i64) (.prod (.int .i64) .unit))), .rw 1, .val [] (.int .i64), .val [] (.int .i64), .ptr 2 0, .val [] (.int .i64), .val [] .bool] [.arr [] (.prod (.int .i64) (.prod (.int .i64) .unit)), .vars [.val [] (.int .i64), .val [] (.int .i64)]] (fun v => f89_1000012 k (fun yN_4 => N (sh fi89_12 [.val [(0, 0)] (.slice (.prod (.int .i64) (.prod (.int .i64) .unit))) v.1.1, .val [(0, 0)] (.slice (.prod (.int .i64) (.prod (.int .i64) .unit))) v.1.2.1, .rw 1, zi v.1.2.2.2.1, zi v.1.2.2.2.2.1] [⟨0, .arr [] (.prod (.int .i64) (.prod (.int .i64) .unit)) yN_4⟩])) v.1.1 v.1.2.1 v.1.2.2.2.1 v.1.2.2.2.2.1 v.1.2.2.2.2.2.2.1 v.1.2.2.2.2.2.2.2.1 v.2.1 v.2.2.1.1 v.2.2.1.2.1) (inner T an89 (modesOf F) 0 k 89 (S89 k) (ending T Try.f89 an89 0 K) cd89_1000012 (sh sp89_1000012 ws rs) N X) ws rs
noncomputable def L89_0 (ws : List PV) (rs : List RowS) (N : St → Option R) (X : Nat → St → Option R) : Option R :=
  onShape [.val [(0, 0)] (.slice (.prod (.int .i64) (.prod (.int .i64) .unit))), .val [(0, 0)] (.slice (.prod (.int .i64) (.prod (.int .i64) .unit))), .rw 1, .val [] (.int .i64), .val [] (.int .i64)] [.arr [] (.prod (.int .i64) (.prod (.int .i64) .unit))] (fun v => f89_0 k (fun y0_0 => N (sh jn89_0 [.rw 1] [⟨0, .arr [] (.prod (.int .i64) (.prod (.int .i64) .unit)) y0_0⟩])) v.1.1 v.1.2.1 k v.1.2.2.2.1 v.1.2.2.2.2.1 v.2.1) (inner T an89 (modesOf F) 0 k 89 (S89 k) (ending T Try.f89 an89 0 K) cd89_0 (sh sp89_0 ws rs) N X) ws rs
noncomputable def L89 (id : Nat) (ws : List PV) (rs : List RowS) (N : St → Option R) (X : Nat → St → Option R) : Option R := bif id == 1000006 then L89_1000006 k K ws rs N X else bif id == 1000012 then L89_1000012 k K ws rs N X else bif id == 0 then L89_0 k K ws rs N X else none
theorem l89_1000006 (ws : List PV) (rs : List RowS) (N : St → Option R) (X : Nat → St → Option R) : L89 k K 1000006 ws rs N X = inner T an89 (modesOf F) 0 k 89 (S89 k) (ending T Try.f89 an89 0 K) cd89_1000006 (sh sp89_1000006 ws rs) N X := by
  show L89_1000006 k K ws rs N X = _
  unfold L89_1000006
  rw [f89_1000006_def]
  exact onShape_eq (a := [.val [(0, 0)] (.slice (.prod (.int .i64) (.prod (.int .i64) .unit))), .val [(0, 0)] (.slice (.prod (.int .i64) (.prod (.int .i64) .unit))), .rw 1, .val [] (.int .i64), .val [] (.int .i64), .ptr 2 0, .val [] .bool]) (b := [.arr [] (.prod (.int .i64) (.prod (.int .i64) .unit)), .vars [.val [] (.int .i64), .val [] (.int .i64)]]) (G := fun ws rs => inner T an89 (modesOf F) 0 k 89 (S89 k) (ending T Try.f89 an89 0 K) cd89_1000006 (sh sp89_1000006 ws rs) N X) (fun x y => Eq.trans (by kernel_rfl) (innerS_eq T an89 (modesOf F) 0 k 89 (S89 k) (L89 k K) cd89_1000006 (l := []) (by kernel_rfl) trivial _ N X)) ws rs
theorem l89_1000012 (ws : List PV) (rs : List RowS) (N : St → Option R) (X : Nat → St → Option R) : L89 k K 1000012 ws rs N X = inner T an89 (modesOf F) 0 k 89 (S89 k) (ending T Try.f89 an89 0 K) cd89_1000012 (sh sp89_1000012 ws rs) N X := by
  show L89_1000012 k K ws rs N X = _
  unfold L89_1000012
  rw [f89_1000012_def]
  exact onShape_eq (a := [.val [(0, 0)] (.slice (.prod (.int .i64) (.prod (.int .i64) .unit))), .val [(0, 0)] (.slice (.prod (.int .i64) (.prod (.int .i64) .unit))), .rw 1, .val [] (.int .i64), .val [] (.int .i64), .ptr 2 0, .val [] (.int .i64), .val [] .bool]) (b := [.arr [] (.prod (.int .i64) (.prod (.int .i64) .unit)), .vars [.val [] (.int .i64), .val [] (.int .i64)]]) (G := fun ws rs => inner T an89 (modesOf F) 0 k 89 (S89 k) (ending T Try.f89 an89 0 K) cd89_1000012 (sh sp89_1000012 ws rs) N X) (fun x y => Eq.trans (by kernel_rfl) (innerS_eq T an89 (modesOf F) 0 k 89 (S89 k) (L89 k K) cd89_1000012 (l := []) (by kernel_rfl) trivial _ N X)) ws rs
theorem b89_0 (rec : St → Option R) (N : St → Option R) (X : Nat → St → Option R) (v0_0 : zL3) (v0_1 : zL3) (v0_2 : Int) (v0_3 : Int) (v0_4 : zL4) :
    execS T an89 (modesOf F) 0 k 89 (S89 k) (L89 k K) (ending T Try.f89 an89 0 K) bd89_0 (sh sp89_0 [.val [(0, 0)] (.slice (.prod (.int .i64) (.prod (.int .i64) .unit))) v0_0, .val [(0, 0)] (.slice (.prod (.int .i64) (.prod (.int .i64) .unit))) v0_1, .rw 1, zi v0_2, zi v0_3] [⟨0, .arr [] (.prod (.int .i64) (.prod (.int .i64) .unit)) v0_4⟩]) (fun st => atHead an89 0 bd89_0 st rec) (outX an89 0 0 N X) =
      f89_0b k (fun v0_2 v0_3 v0_4 => rec (sh sp89_0 [.val [(0, 0)] (.slice (.prod (.int .i64) (.prod (.int .i64) .unit))) v0_0, .val [(0, 0)] (.slice (.prod (.int .i64) (.prod (.int .i64) .unit))) v0_1, .rw 1, zi v0_2, zi v0_3] [⟨0, .arr [] (.prod (.int .i64) (.prod (.int .i64) .unit)) v0_4⟩])) (fun y0_0 => N (sh jn89_0 [.rw 1] [⟨0, .arr [] (.prod (.int .i64) (.prod (.int .i64) .unit)) y0_0⟩])) v0_0 v0_1 v0_2 v0_3 v0_4 := by kernel_rfl
theorem i89_0 (N : St → Option R) (X : Nat → St → Option R) (v0_0 : zL3) (v0_1 : zL3) (m : Nat) : ∀ (v0_2 : Int) (v0_3 : Int) (v0_4 : zL4),
    iter (atHead an89 0 bd89_0) m (fun st N' => exec T an89 (modesOf F) 0 k 89 (S89 k) (ending T Try.f89 an89 0 K) bd89_0 st N' (outX an89 0 0 N X)) (sh sp89_0 [.val [(0, 0)] (.slice (.prod (.int .i64) (.prod (.int .i64) .unit))) v0_0, .val [(0, 0)] (.slice (.prod (.int .i64) (.prod (.int .i64) .unit))) v0_1, .rw 1, zi v0_2, zi v0_3] [⟨0, .arr [] (.prod (.int .i64) (.prod (.int .i64) .unit)) v0_4⟩]) = f89_0d k (fun y0_0 => N (sh jn89_0 [.rw 1] [⟨0, .arr [] (.prod (.int .i64) (.prod (.int .i64) .unit)) y0_0⟩])) v0_0 v0_1 m v0_2 v0_3 v0_4 := by
  induction m with
  | zero => intros; rfl
  | succ m ih =>
    intro v0_2 v0_3 v0_4
    simp only [iter]
    rw [← execS_eq T an89 (modesOf F) 0 k 89 (S89 k) (L89 k K) bd89_0 (cuts_of _ _ _ _ _ _ _ _ bd89_0 (l := [(1000006, sp89_1000006, cd89_1000006), (1000012, sp89_1000012, cd89_1000012)]) (by kernel_rfl) ⟨l89_1000006 k K, l89_1000012 k K, trivial⟩)]
    refine (b89_0 k K _ N X v0_0 v0_1 v0_2 v0_3 v0_4).trans ?_
    simp only [f89_0d, ih]
theorem l89_0 (ws : List PV) (rs : List RowS) (N : St → Option R) (X : Nat → St → Option R) : L89 k K 0 ws rs N X = inner T an89 (modesOf F) 0 k 89 (S89 k) (ending T Try.f89 an89 0 K) cd89_0 (sh sp89_0 ws rs) N X := by
  show L89_0 k K ws rs N X = _
  unfold L89_0
  rw [f89_0_def]
  exact onShape_eq (a := [.val [(0, 0)] (.slice (.prod (.int .i64) (.prod (.int .i64) .unit))), .val [(0, 0)] (.slice (.prod (.int .i64) (.prod (.int .i64) .unit))), .rw 1, .val [] (.int .i64), .val [] (.int .i64)]) (b := [.arr [] (.prod (.int .i64) (.prod (.int .i64) .unit))]) (G := fun ws rs => inner T an89 (modesOf F) 0 k 89 (S89 k) (ending T Try.f89 an89 0 K) cd89_0 (sh sp89_0 ws rs) N X) (fun x y => Eq.trans (by kernel_rfl) (Eq.trans (i89_0 k K N X x.1 x.2.1 k x.2.2.2.1 x.2.2.2.2.1 y.1).symm (by kernel_rfl))) ws rs
end
theorem e89 (k : Nat) (a0 : zL3) (a1 : zL3) (K : List PV → List RowS → Option R) : callC T F k 89 [.val [(0, 0)] (.slice (.prod (.int .i64) (.prod (.int .i64) .unit))) a0, .val [(0, 0)] (.slice (.prod (.int .i64) (.prod (.int .i64) .unit))) a1] [] K = f89 k a0 a1 (fun z0 => K [.rw 1] [⟨0, .arr [] (.prod (.int .i64) (.prod (.int .i64) .unit)) z0⟩]) := by
  rw [f89_def]
  cases k with
  | zero => rfl
  | succ k =>
    refine Eq.trans (show _ = exec T an89 (modesOf F) 0 k 89 (callC T F k) (ending T Try.f89 an89 0 K) (bodyOf Try.f89) ⟨argEnv 0 [.val [(0, 0)] (.slice (.prod (.int .i64) (.prod (.int .i64) .unit))) a0, .val [(0, 0)] (.slice (.prod (.int .i64) (.prod (.int .i64) .unit))) a1] (fun _ => none), rowsOf []⟩ (ending T Try.f89 an89 0 K) (fun _ _ => none) from by kernel_rfl) ?_
    rw [← S89_eq k, ← execS_eq T an89 (modesOf F) 0 k 89 (S89 k) (L89 k K) (bodyOf Try.f89) (cuts_of _ _ _ _ _ _ _ _ (bodyOf Try.f89) (l := [(0, sp89_0, cd89_0)]) (by kernel_rfl) ⟨l89_0 k K, trivial⟩)]
    kernel_rfl
noncomputable def s89 (k : Nat) (a : List PV) (r : List RowS) (K : List PV → List RowS → Option R) : Option R :=
  onShape [.val [(0, 0)] (.slice (.prod (.int .i64) (.prod (.int .i64) .unit))), .val [(0, 0)] (.slice (.prod (.int .i64) (.prod (.int .i64) .unit)))] [] (fun v => f89 k v.1.1 v.1.2.1 (fun z0 => K [.rw 1] [⟨0, .arr [] (.prod (.int .i64) (.prod (.int .i64) .unit)) z0⟩])) (callC T F k 89 a r K) a r
theorem s89_eq (k : Nat) (a : List PV) (r : List RowS) (K : List PV → List RowS → Option R) : s89 k a r K = callC T F k 89 a r K := by
  unfold s89
  exact onShape_eq (a := [.val [(0, 0)] (.slice (.prod (.int .i64) (.prod (.int .i64) .unit))), .val [(0, 0)] (.slice (.prod (.int .i64) (.prod (.int .i64) .unit)))]) (b := []) (G := fun a r => callC T F k 89 a r K) (fun x y => Eq.trans (by kernel_rfl) (Eq.trans (e89 k x.1 x.2.1 K).symm (by kernel_rfl))) a r
end
end Go.Proofs.Ytlcklflbhhnnhaa.PM
