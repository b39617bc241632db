/- The small machine PM: slices.SortFunc at found and at Version. -/
import Derived.Test.YtecnlienmpdlaaaPmSk
import Derived.Test.YtecnlienmpdlaaaSkA
set_option linter.unusedSimpArgs false
set_option linter.unusedVariables false
namespace Go.Proofs.Ytecnlienmpdlaaa.PM
open Go Go.Sort Go.Shelf Go.RowKit Go.Lib
theorem rd_found {w : World} {S : Nat → Prop} {x : FoundT.D} {es : List Value} (h : RD w S FoundT x es) : ∃ a b s d e v, es = [.int .i64 a, .int .i64 b, .bool d, .string s, .int .i64 (keyIx x), .bool e, v] := by
  obtain ⟨c1, c2, rfl, h1, h2⟩ := h
  obtain ⟨c3, c4, rfl, ⟨c5, c6, rfl, h5, c7, c8, rfl, h7, c9, c10, rfl, h9, c11, c12, rfl, h11, c13, c14, rfl, h13, c15, c16, rfl, h15, h16⟩, h4⟩ := h2
  obtain ⟨A, cap, rfl, _⟩ := h15
  simp only [RD] at h1 h4 h5 h7 h9 h11 h13 h16
  subst h1 h4 h5 h7 h9 h11 h13 h16
  exact ⟨_, _, _, _, _, _, rfl⟩
theorem rd_vers {w : World} {S : Nat → Prop} {x : VersT.D} {es : List Value} (h : RD w S VersT x es) : ∃ b d e, es = [.int .i64 x.1, .int .i64 b, .bool d, .bool e] := by
  obtain ⟨c1, c2, rfl, h1, c3, c4, rfl, h3, c5, c6, rfl, h5, c7, c8, rfl, h7, h8⟩ := h
  simp only [RD] at h1 h3 h5 h7 h8
  subst h1 h3 h5 h7 h8
  exact ⟨_, _, _, rfl⟩
set_option maxHeartbeats 1000000 in
theorem ix_cmp (a b a' b' x y : Int) (s s' : ByteArray) (d d' e e' : Bool) (v v' : Value) (W : World) :
    Calls Try.prog 105 #[.agg #[.int .i64 a, .int .i64 b, .bool d, .string s, .int .i64 x, .bool e, v], .agg #[.int .i64 a', .int .i64 b', .bool d', .string s', .int .i64 y, .bool e', v']] W fun e w' => e = .returned (.int .i64 (Lib.compareInt x y)) ∧ ∃ q os', w' = grow (W.drewN q) os' := by
  have hcon := fun w => Try.cmpInt x y w
  generalize Lib.compareInt x y = r at hcon ⊢
  go_enter Try.func105, Try.ntmps105
  go_wp2_with (go_at_call 83; refine (hcon _).mono ?_; rintro e w' ⟨rfl, rfl⟩)
  go_ret
  exact ⟨rfl, 0, _, by rw [alloc_eq_grow, alloc_eq_grow, grow_grow]; rfl⟩
set_option maxHeartbeats 1000000 in
theorem gen_cmp (a b a' b' : Int) (d d' e e' : Bool) (W : World) :
    Calls Try.prog 94 #[.agg #[.int .i64 a, .int .i64 b, .bool d, .bool e], .agg #[.int .i64 a', .int .i64 b', .bool d', .bool e']] W fun e w' => e = .returned (.int .i64 (Lib.compareInt a' a)) ∧ ∃ q os', w' = grow (W.drewN q) os' := by
  have hcon := fun w => Try.cmpInt a' a w
  generalize Lib.compareInt a' a = r at hcon ⊢
  go_enter Try.func94, Try.ntmps94
  go_wp2_with (go_at_call 83; refine (hcon _).mono ?_; rintro e w' ⟨rfl, rfl⟩)
  go_ret
  exact ⟨rfl, 0, _, by rw [alloc_eq_grow, alloc_eq_grow, grow_grow]; rfl⟩
theorem compareInt_lt (x y : Int) : Lib.compareInt x y < 0 ↔ x < y := by
  unfold Lib.compareInt
  (repeat' split) <;> omega
theorem keyIx_good : ExtOk Try.prog 104 (skSpec FoundT 105 keyIx) := by
  refine sk_good (t := FoundT) Try.sortIx 105 (by decide) keyIx (fun x y => Lib.compareInt (keyIx x) (keyIx y)) ⟨Try.f104, Option.get Try.f104.body (by kernel_rfl), by kernel_rfl, (Option.some_get _).symm, ne_of_beq_false (by kernel_rfl)⟩ (fun w => by kernel_rfl) (fun w => by kernel_rfl) (fun x y => compareInt_lt _ _) (enters_of Try.func105 (by kernel_rfl) rfl) fun w S x y es fs h1 h2 W => ?_
  obtain ⟨a, b, s, d, e, v, rfl⟩ := rd_found h1
  obtain ⟨a', b', s', d', e', v', rfl⟩ := rd_found h2
  exact ix_cmp a b a' b' (keyIx x) (keyIx y) s s' d d' e e' v v' W
theorem keyGen_good : ExtOk Try.prog 93 (skSpec VersT 94 keyGen) := by
  refine sk_good (t := VersT) Try.sortGen 94 (by decide) keyGen (fun x y => Lib.compareInt y.1 x.1) ⟨Try.f93, Option.get Try.f93.body (by kernel_rfl), by kernel_rfl, (Option.some_get _).symm, ne_of_beq_false (by kernel_rfl)⟩ (fun w => by kernel_rfl) (fun w => by kernel_rfl) (fun x y => ?_) (enters_of Try.func94 (by kernel_rfl) rfl) fun w S x y es fs h1 h2 W => ?_
  · have := compareInt_lt y.1 x.1
    unfold keyGen
    rw [this]
    constructor
    · intro h; exact Int.neg_lt_neg h
    · intro h; exact Int.lt_of_neg_lt_neg h
  · obtain ⟨b, d, e, rfl⟩ := rd_vers h1
    obtain ⟨b', d', e', rfl⟩ := rd_vers h2
    exact gen_cmp _ b _ b' d d' e e' W
end Go.Proofs.Ytecnlienmpdlaaa.PM
