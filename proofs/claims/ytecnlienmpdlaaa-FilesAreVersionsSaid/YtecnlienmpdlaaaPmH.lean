/- The small machine PM is sound, tenth part: the state between two steps, and where ways meet. -/
import Derived.Test.YtecnlienmpdlaaaPmQ
set_option linter.unusedSimpArgs false
set_option linter.unusedVariables false
namespace Go.Proofs.Ytecnlienmpdlaaa.PM
open Go

/-- What a call began with. -/
structure Ctx where
  B : Nat
  G : Nat → Prop
  Z : Nat → Prop
  L : Nat → Prop
  n : Nat
  loc0 : Nat → Option (Nat × Nat)
  w0 : World

structure Ctx.Ok (C : Ctx) : Prop where
  z : ∀ b, C.Z b → b < C.B
  size : C.B = C.w0.heap.size

structure Inv (C : Ctx) (nt : Nat) (pl : Pl) (σ : St) (a : Act) (w : World) : Prop where
  rel : Rel C.B C.G pl σ a w
  z : pl.Z = C.Z
  l : pl.L = C.L
  nt : nt ≤ a.tmps.size
  size : C.B ≤ w.heap.size
  quiet : Quiet C.w0 w
  keep : ∀ b, b < C.B → ¬ C.G b → w.heap[b]? = C.w0.heap[b]?
  blk : ∀ (b : Nat) (arr : Array Value) (T : TypeId) (fr : Nat × Nat), C.w0.heap[b]? = some (Obj.cells arr T fr) → ∃ (arr' : Array Value) (T' : TypeId) (fr' : Nat × Nat), w.heap[b]? = some (Obj.cells arr' T' fr') ∧ arr'.size = arr.size
  given : ∀ i, 1 ≤ i → i ≤ C.n → ∃ s, σ.rows i = some s ∧ (s.live → pl.loc i = C.loc0 i)

section
variable {C : Ctx} {nt : Nat} {pl pl' : Pl} {σ : St} {a a' : Act} {w w' : World} {rows' : Rows} {env' : Env}

theorem Inv.zlt (h : Inv C nt pl σ a w) (hC : C.Ok) : ∀ b, pl.Z b → b < C.B := fun b hb => hC.z b (by rw [← h.z]; exact hb)

theorem Inv.next (h : Inv C nt pl σ a w) (S : Step w pl σ.rows w' pl' rows') (q : Quiet w w') (R : Rel C.B C.G pl' ⟨env', rows'⟩ a' w') (hn : nt ≤ a'.tmps.size) : Inv C nt pl' ⟨env', rows'⟩ a' w' := by
  refine ⟨R, S.z.trans h.z, S.l.trans h.l, hn, Nat.le_trans h.size S.size, h.quiet.trans q, fun b hb hG => ?_, fun b arr Te fr hb => ?_, fun i h1 h2 => ?_⟩
  · refine Eq.trans (S.heap b (Nat.lt_of_lt_of_le hb h.size) fun r s o hr hl hloc => ?_) (h.keep b hb hG)
    obtain ⟨_, _, g⟩ := h.rel.own r s b o hr hl hloc
    rcases g with g | g
    · omega
    · exact absurd g hG
  · obtain ⟨arr1, T1, fr1, h1, h2⟩ := h.blk b arr Te fr hb
    obtain ⟨arr2, T2, fr2, h3, h4⟩ := S.blk b arr1 T1 fr1 h1
    exact ⟨arr2, T2, fr2, h3, by omega⟩
  · obtain ⟨s, g1, g2⟩ := h.given i h1 h2
    obtain ⟨s', g3, g4, g5⟩ := S.kin i s g1
    exact ⟨s', g3, fun hl => (g5 hl).trans (g2 (g4.live hl))⟩

/-- The rows of a packing. -/
theorem pk_rel {B B' : Nat} {G G' : Nat → Prop} {leave : Option Prov} {ids : List Nat} {rs : List RowS} {Z L : Nat → Prop} (R : Rel B G pl σ a w) (h : Pk leave σ.rows ids rs) (hZ : ∀ b, Z b → pl.Z b ∨ Left leave pl σ.rows ids b)
    (hL : ∀ (p : Prov) (b : Nat), covers leave (numbered 1 ids) p = true → Safe w pl σ.rows p b → Z b → L b)
    (hown : ∀ r s b o, σ.rows r = some s → s.live → pl.at r b o → r ∈ ids → B' ≤ b ∨ G' b) :
    Rel B' G' (pkPl pl ids Z L) ⟨fun _ => none, rowsOf rs⟩ a w := by
  refine ⟨fun s v hv => (by cases hv), fun r s hr => ?_, rowsOf_zero rs, fun r r' s s' b o o' hr hl hr' hl' h1 h2 => ?_, fun r s b o hr hl h1 => ?_, R.defers⟩
  · obtain ⟨k, id, s0, x, rfl, hk, hf, g1, g2, rfl, g3⟩ := h.at (pl := pl) (Z := Z) (L := L) hr
    exact pk_row h R.zero hZ hL g2 g3 (pk_hid hk) (R.rows id s0 g1)
  · obtain ⟨k, id, s0, x, rfl, hk, hf, g1, g2, rfl, g3⟩ := h.at (pl := pl) (Z := Z) (L := L) hr
    obtain ⟨k', id', s0', x', rfl, hk', hf', g1', g2', rfl, g3'⟩ := h.at (pl := pl) (Z := Z) (L := L) hr'
    rw [pk_at hk] at h1
    rw [pk_at hk'] at h2
    obtain rfl := R.inj id id' s0 s0' b o o' g1 (fun e => hl ((renRow_live g2).2 e)) g1' (fun e => hl' ((renRow_live g2').2 e)) h1 h2
    rw [hf] at hf'
    exact Option.some.inj hf'
  · obtain ⟨k, id, s0, x, rfl, hk, hf, g1, g2, rfl, g3⟩ := h.at (pl := pl) (Z := Z) (L := L) hr
    rw [pk_at hk] at h1
    have hl0 : s0.live := fun e => hl ((renRow_live g2).2 e)
    obtain ⟨q1, q2, q3⟩ := R.own id s0 b o g1 hl0 h1
    refine ⟨q1, fun hz => ?_, hown id s0 b o g1 hl0 h1 (List.mem_of_getElem? hk)⟩
    rcases hZ b hz with hz | ⟨_, r2, s2, o2, e1, e2, e3, e4⟩
    · exact q2 hz
    · obtain rfl := R.inj r2 id s2 s0 b o2 o e1 e2 g1 hl0 e3 h1
      exact e4 (List.mem_of_getElem? hk)

theorem pack_spec {leave : Bool} {rows : Rows} {n : Nat} {vs ws : List PV} {rs : List RowS} {ids : List Nat} (h : pack leave rows n vs = some (ws, rs, ids)) :
    Pk (if leave then some (lentOf rows ids vs) else none) rows ids rs ∧ ren.renAll (if leave then some (lentOf rows ids vs) else none) (numbered 1 ids) rows vs = some ws ∧ ∀ k, k < n → ids[k]? = some (k + 1) := by
  unfold pack at h
  split at h
  · rename_i ids' hr
    split at h
    · rename_i vs' rs' h1 h2
      simp only [Option.some.injEq, Prod.mk.injEq] at h
      obtain ⟨rfl, rfl, rfl⟩ := h
      obtain ⟨g1, l, g2⟩ := reach_spec hr (upTo_nodup n)
      obtain ⟨e1, e2⟩ := renRows_get h2
      refine ⟨⟨g1, e1, e2⟩, h1, fun k hk => ?_⟩
      rw [g2, List.getElem?_append_left (by rw [upTo_len]; exact hk)]
      exact upTo_get hk
    · cases h
  · cases h

theorem putSlots_rel {B : Nat} {G : Nat → Prop} {rows : Rows} : ∀ {spec : List (Nat × Mode)} {ws : List PV} {e : Env}, Rel B G pl ⟨e, rows⟩ a w →
    (∀ (j : Nat) (s : Nat) (m : Mode) (v : PV), spec[j]? = some (s, m) → ws[j]? = some v → s < a.tmps.size ∧ Men rows v ∧ (okPV rows v = true → VR w pl rows v (a.tmps.getD s undef))) →
    Rel B G pl ⟨putSlots spec ws e, rows⟩ a w
  | [], ws, e, R, _ => by cases ws <;> exact R
  | (s, m) :: spec, [], e, R, _ => R
  | (s, m) :: spec, v :: ws, e, R, h => by
    simp only [putSlots]
    refine putSlots_rel (spec := spec) (ws := ws) ⟨fun x y hx => ?_, R.rows, R.zero, R.inj, R.own, R.defers⟩ fun j s' m' v' h1 h2 => h (j + 1) s' m' v' (by simpa using h1) (by simpa using h2)
    simp only [upd_at] at hx
    by_cases hxs : x = s
    · rw [if_pos hxs] at hx
      obtain rfl := Option.some.inj hx
      subst hxs
      exact h 0 x m v rfl rfl
    · rw [if_neg hxs] at hx
      exact R.env x y hx

theorem takeSlots_sound {B : Nat} {G : Nat → Prop} (R : Rel B G pl σ a w) : ∀ {spec : List (Nat × Mode)} {vs : List PV}, takeSlots σ spec = some vs →
    CRs w pl σ.rows vs (spec.map fun x => a.tmps.getD x.1 undef) ∧ (∀ x ∈ spec, x.1 < a.tmps.size)
  | [], vs, h => by
    obtain rfl := Option.some.inj h
    exact ⟨rfl, fun x hx => by cases hx⟩
  | (s, m) :: spec, vs, h => by
    simp only [takeSlots] at h
    split at h
    · rename_i v hv
      split at h
      · rename_i vs' hvs
        obtain rfl := Option.some.inj h
        obtain ⟨g1, g2, g3⟩ := R.look hv
        obtain ⟨e1, e2⟩ := takeSlots_sound R hvs
        refine ⟨⟨_, _, rfl, ⟨g1, fun _ => g2⟩, e1⟩, fun x hx => ?_⟩
        rcases List.mem_cons.1 hx with rfl | hx
        · simp only [look] at hv
          split at hv
          · rename_i y hy
            exact (R.env s y hy).1
          · cases hv
        · exact e2 x hx
      · cases h
    · cases h

theorem norm_sound (hC : C.Ok) (I : Inv C nt pl σ a w) {key : Nat} (h0 : key ≠ 0) {spec : List (Nat × Mode)} {σ' : St} (h : norm C.n key spec σ = some σ') : ∃ pl', Inv C nt pl' σ' a w := by
  unfold norm at h
  split at h
  · rename_i vs hvs
    obtain ⟨c1, c2⟩ := takeSlots_sound I.rel hvs
    split at h
    · rename_i vs' rows1 k1 hco
      obtain ⟨pl1, S1, R1, c3, _⟩ := coerceL_sound I.size (List.map (fun x : Nat × Mode => x.2) spec) I.rel (I.zlt hC) h0 c1 hco
      have I1 := I.next (env' := σ.env) (a' := a) S1 (Quiet.refl w) R1 I.nt
      split at h
      · rename_i ws rs ids hpk
        obtain rfl := Option.some.inj h
        obtain ⟨p1, p2, p3⟩ := pack_spec hpk
        have hZ : ∀ b, C.Z b → pl1.Z b ∨ Left none pl1 rows1 ids b := fun b hb => .inl (by rw [I1.z]; exact hb)
        have hL : ∀ (p : Prov) (b : Nat), covers none (numbered 1 ids) p = true → Safe w pl1 rows1 p b → C.Z b → C.L b := fun p b _ hs hz => by rw [← I1.l]; exact (hs.2.1 (by rw [I1.z]; exact hz)).1
        simp only [Bool.false_eq_true, if_false] at p1 p2
        have hok := renAll_ok p2
        obtain ⟨m1, m2⟩ := c3.out
        obtain ⟨q1, q2, q3⟩ := pk_vrs (Z := C.Z) (L := C.L) p1 R1.zero hZ hL p2 m1 (m2 hok)
        have R2 := pk_rel (B' := C.B) (G' := C.G) R1 p1 hZ hL (fun r s b o hr hl hloc _ => (R1.own r s b o hr hl hloc).2.2)
        have R3 := putSlots_rel (spec := spec) (ws := ws) R2 (fun j s m v h1 h2 => by
          obtain ⟨u, e1, e2⟩ := vrs_get q3 j v h2
          rw [List.getElem?_map, h1] at e1
          obtain rfl := Option.some.inj e1
          exact ⟨c2 (s, m) (List.mem_of_getElem? h1), mens_mem q1 v (List.mem_of_getElem? h2), fun _ => e2⟩)
        refine ⟨pkPl pl1 ids C.Z C.L, R3, rfl, rfl, I.nt, I.size, I.quiet, I.keep, I.blk, fun i h1 h2 => ?_⟩
        obtain ⟨s, g1, g2⟩ := I1.given i h1 h2
        have hi : ids[i - 1]? = some i := by rw [p3 (i - 1) (by omega)]; congr 1; omega
        obtain ⟨s', x, e1, e2, e3⟩ := p1.get _ _ hi
        simp only at g1
        rw [g1] at e1
        cases e1
        refine ⟨⟨0, x⟩, ?_, fun hl => ?_⟩
        · simp only
          rw [rowsOf_get, if_neg (by omega)]; exact e3
        · simp only [pkPl, if_neg (show ¬ i = 0 by omega), hi, Option.bind_some]
          exact g2 (fun e => hl ((renRow_live e2).2 e))
      · cases h
    · cases h
  · cases h
end
end Go.Proofs.Ytecnlienmpdlaaa.PM
