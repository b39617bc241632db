/- slices.SortFunc at spans: the order of spans, and what the sort does. -/
import Derived.Test.YtoepnomdklhhlaaSrtA
import Derived.Test.YtoepnomdklhhlaaSrtD
namespace Go.Proofs.Ytoepnomdklhhlaa
open Go.Shelf Go.RowKit Go.Lib Go.Sort
set_option maxHeartbeats 1000000 in
theorem Try.cmp60 (x y : Int × Int) (r : Int) (hr : wrap64 (x.1 - y.1) = r) (W : World) : Calls Try.prog 60 #[.agg #[.int .i64 x.1, .int .i64 x.2], .agg #[.int .i64 y.1, .int .i64 y.2]] W fun e w' => e = .returned (.int .i64 r) ∧ ∃ q os', w' = grow (W.drewN q) os' := by
 subst hr
 go_enter Try.func60, Try.ntmps60
 go_wp2
 go_ret
 exact ⟨rfl, 0, _, by rw [alloc_eq_grow, alloc_eq_grow, grow_grow]; rfl⟩
theorem Try.cmpLays60 (blk off size : Nat) (w : World) : CmpLays Try.prog 60 #[] encSp 2 cfSp blk off size w :=
 fun _ _ _ _ x y => Try.cmp60 x.1 y.1 (cfSp x y) (by
  have h1 := x.2
  have h2 := y.2
  unfold cfSp
  rw [wrap64]
  omega) _
theorem Try.sort59 (blk off cap : Nat) (d : Array Sp) (w : World) (hH : HoldsK encSp 2 w blk off d) (hblk : blk < w.heap.size) (hsz : d.size < 4611686018427387904) :
  Calls Try.prog 59 #[.slice (some ⟨blk, off, none⟩) d.size cap, .func (.func 60) #[] #[]] w fun e w' =>
   e = .returned (.tuple #[]) ∧ ∃ n os, w' = sortWorldK encSp 2 w blk off n (srtA d) os := by
 have eg : ∀ args w, (callFunc 60 args).run Try.prog w = .ok (.enter 60 args) w := enters_of Try.func60 (by kernel_rfl) rfl
 exact AnyQ.slices_SortFunc_eq Try.sortSp 2 (fun w => by kernel_rfl) (fun w => by kernel_rfl) encSp (fun _ => rfl) (fun x v hv => by simp [encSp] at hv; rcases hv with rfl | rfl <;> rfl) cfSp swoSp 60 #[] blk off cap d w eg (Try.cmpLays60 blk off d.size w) hH hblk hsz
end Go.Proofs.Ytoepnomdklhhlaa
