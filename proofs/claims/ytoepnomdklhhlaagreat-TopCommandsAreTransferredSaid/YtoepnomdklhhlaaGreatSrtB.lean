/- slices.SortFunc at spans: the order of spans, and what the sort does. -/
import Derived.Test.YtoepnomdklhhlaaGreatSrtA
import Derived.Test.YtoepnomdklhhlaaGreatSrtD
namespace Go.Proofs.YtoepnomdklhhlaaGreat
open Go.Shelf Go.RowKit Go.Lib Go.Sort
set_option maxHeartbeats 1000000 in
theorem Tryz.cmp155 (x y : Int × Int) (r : Int) (hr : wrap64 (x.1 - y.1) = r) (W : World) : Calls Tryz.prog 155 #[.agg #[.int .i64 x.1, .int .i64 x.2], .agg #[.int .i64 y.1, .int .i64 y.2]] W fun e w' => e = .returned (.int .i64 r) ∧ ∃ q os', w' = grow (W.drewN q) os' := by
  subst hr
  go_enter Tryz.func155, Tryz.ntmps155
  go_wp2
  go_ret
  exact ⟨rfl, 0, _, by rw [alloc_eq_grow, alloc_eq_grow, grow_grow]; rfl⟩
theorem Tryz.cmpLays155 (blk off size : Nat) (w : World) : CmpLays Tryz.prog 155 #[] encSp 2 cfSp blk off size w :=
  fun _ _ _ _ x y => Tryz.cmp155 x.1 y.1 (cfSp x y) (by
    have h1 := x.2
    have h2 := y.2
    unfold cfSp
    rw [wrap64]
    omega) _
theorem Tryz.sort154 (blk off cap : Nat) (d : Array Sp) (w : World) (hH : HoldsK encSp 2 w blk off d) (hblk : blk < w.heap.size) (hsz : d.size < 4611686018427387904) :
    Calls Tryz.prog 154 #[.slice (some ⟨blk, off, none⟩) d.size cap, .func (.func 155) #[] #[]] w fun e w' =>
      e = .returned (.tuple #[]) ∧ ∃ n os, w' = sortWorldK encSp 2 w blk off n (srtA d) os := by
  have eg : ∀ args w, (callFunc 155 args).run Tryz.prog w = .ok (.enter 155 args) w := enters_of Tryz.func155 (by kernel_rfl) rfl
  exact AnyQ.slices_SortFunc_eq Tryz.sortSp 2 (fun w => by kernel_rfl) (fun w => by kernel_rfl) encSp (fun _ => rfl) (fun x v hv => by simp [encSp] at hv; rcases hv with rfl | rfl <;> rfl) cfSp swoSp 155 #[] blk off cap d w eg (Tryz.cmpLays155 blk off d.size w) hH hblk hsz
end Go.Proofs.YtoepnomdklhhlaaGreat
