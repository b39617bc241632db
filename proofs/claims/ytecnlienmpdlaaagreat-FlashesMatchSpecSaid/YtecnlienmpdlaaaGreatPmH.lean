import Derived.Test.YtecnlienmpdlaaaGreatPmY
import Derived.LoopN
import Derived.Tactics
set_option linter.unusedSimpArgs false
set_option linter.unusedVariables false
namespace Go.Proofs.YtecnlienmpdlaaaGreat.PM
open Go
structure Ctx where
 B : Nat
 G : Nat → Prop
 Z : Nat → Prop
 L : Nat → Prop
 n : Nat
 loc0 : Nat → Option (Nat × Nat)
 w0 : World
structure Ctx.Ok (C : Ctx) : Prop where
 z : ∀ b, C.Z b → b < C.B
 size : C.B = C.w0.heap.size
structure Inv (C : Ctx) (nt : Nat) (pl : Pl) (σ : St) (a : Act) (w : World) : Prop where
 rel : Rel C.B C.G pl σ a w
 z : pl.Z = C.Z
 l : pl.L = C.L
 nt : nt ≤ a.tmps.size
 size : C.B ≤ w.heap.size
 quiet : Quiet C.w0 w
 keep : ∀ b, b < C.B → ¬ C.G b → w.heap[b]? = C.w0.heap[b]?
 blk : ∀ (b : Nat) (arr : Array Value) (T : TypeId) (fr : Nat × Nat), C.w0.heap[b]? = some (Obj.cells arr T fr) → ∃ (arr' : Array Value) (T' : TypeId) (fr' : Nat × Nat), w.heap[b]? = some (Obj.cells arr' T' fr') ∧ arr'.size = arr.size
 given : ∀ i, 1 ≤ i → i ≤ C.n → ∃ s, σ.rows i = some s ∧ (s.live → pl.loc i = C.loc0 i)
section
variable {C : Ctx} {nt : Nat} {pl pl' : Pl} {σ : St} {a a' : Act} {w w' : World} {rows' : Rows} {env' : Env}
theorem Inv.zlt (h : Inv C nt pl σ a w) (hC : C.Ok) : ∀ b, pl.Z b → b < C.B := fun b hb => hC.z b (by rw [← h.z]; exact hb)
theorem Inv.next (h : Inv C nt pl σ a w) (S : Step w pl σ.rows w' pl' rows') (q : Quiet w w') (R : Rel C.B C.G pl' ⟨env', rows'⟩ a' w') (hn : nt ≤ a'.tmps.size) : Inv C nt pl' ⟨env', rows'⟩ a' w' := by
 refine ⟨R, S.z.trans h.z, S.l.trans h.l, hn, Nat.le_trans h.size S.size, h.quiet.trans q, fun b hb hG => ?_, fun b arr Te fr hb => ?_, fun i h1 h2 => ?_⟩
 ·refine Eq.trans (S.heap b (Nat.lt_of_lt_of_le hb h.size) fun r s o hr hl hloc => ?_) (h.keep b hb hG)
  obtain ⟨_, _, g⟩ := h.rel.own r s b o hr hl hloc
  rcases g with g | g
  ·omega
  ·exact absurd g hG
 ·obtain ⟨arr1, T1, fr1, h1, h2⟩ := h.blk b arr Te fr hb
  obtain ⟨arr2, T2, fr2, h3, h4⟩ := S.blk b arr1 T1 fr1 h1
  exact ⟨arr2, T2, fr2, h3, by omega⟩
 ·obtain ⟨s, g1, g2⟩ := h.given i h1 h2
  obtain ⟨s', g3, g4, g5⟩ := S.kin i s g1
  exact ⟨s', g3, fun hl => (g5 hl).trans (g2 (g4.live hl))⟩
theorem Q14d {B B' : Nat} {G G' : Nat → Prop} {leave : Option Prov} {ids : List Nat} {rs : List RowS} {Z L : Nat → Prop} (R : Rel B G pl σ a w) (h : Pk leave σ.rows ids rs) (hZ : ∀ b, Z b → pl.Z b ∨ Left leave pl σ.rows ids b)
  (hL : ∀ (p : Prov) (b : Nat), covers leave (Qe 1 ids) p = true → Safe w pl σ.rows p b → Z b → L b)
  (hown : ∀ r s b o, σ.rows r = some s → s.live → pl.at r b o → r ∈ ids → B' ≤ b ∨ G' b) :
  Rel B' G' (pkPl pl ids Z L) ⟨fun _ => none, rowsOf rs⟩ a w := by
 refine ⟨fun s v hv => (by cases hv), fun r s hr => ?_, Q11 rs, fun r r' s s' b o o' hr hl hr' hl' h1 h2 => ?_, fun r s b o hr hl h1 => ?_, R.defers⟩
 ·obtain ⟨k, id, s0, x, rfl, hk, hf, g1, g2, rfl, g3⟩ := h.at (pl := pl) (Z := Z) (L := L) hr
  exact Q1ij h R.zero hZ hL g2 g3 (Q1ab hk) (R.rows id s0 g1)
 ·obtain ⟨k, id, s0, x, rfl, hk, hf, g1, g2, rfl, g3⟩ := h.at (pl := pl) (Z := Z) (L := L) hr
  obtain ⟨k', id', s0', x', rfl, hk', hf', g1', g2', rfl, g3'⟩ := h.at (pl := pl) (Z := Z) (L := L) hr'
  rw [pk_at hk] at h1
  rw [pk_at hk'] at h2
  obtain rfl := R.inj id id' s0 s0' b o o' g1 (fun e => hl ((Q1u g2).2 e)) g1' (fun e => hl' ((Q1u g2').2 e)) h1 h2
  rw [hf] at hf'
  exact oi hf'
 ·obtain ⟨k, id, s0, x, rfl, hk, hf, g1, g2, rfl, g3⟩ := h.at (pl := pl) (Z := Z) (L := L) hr
  rw [pk_at hk] at h1
  have hl0 : s0.live := fun e => hl ((Q1u g2).2 e)
  obtain ⟨q1, q2, q3⟩ := R.own id s0 b o g1 hl0 h1
  refine ⟨q1, fun hz => ?_, hown id s0 b o g1 hl0 h1 (List.mem_of_getElem? hk)⟩
  rcases hZ b hz with hz | ⟨_, r2, s2, o2, e1, e2, e3, e4⟩
  ·exact q2 hz
  ·obtain rfl := R.inj r2 id s2 s0 b o2 o e1 e2 g1 hl0 e3 h1
   exact e4 (List.mem_of_getElem? hk)
theorem Qcv {leave : Bool} {rows : Rows} {n : Nat} {vs ws : List PV} {rs : List RowS} {ids : List Nat} (h : pack leave rows n vs = some (ws, rs, ids)) :
  Pk (if leave then some (lentOf rows ids vs) else none) rows ids rs ∧ ren.renAll (if leave then some (lentOf rows ids vs) else none) (Qe 1 ids) rows vs = some ws ∧ ∀ k, k < n → ids[k]? = some (k + 1) := by
 unfold pack at h
 split at h
 ·rename_i ids' hr
  split at h
  ·rename_i vs' rs' h1 h2
   simp only [Option.some.injEq, Prod.mk.injEq] at h
   obtain ⟨rfl, rfl, rfl⟩ := h
   obtain ⟨g1, l, g2⟩ := Q96 hr (Qg6 n)
   obtain ⟨e1, e2⟩ := Qd2 h2
   refine ⟨⟨g1, e1, e2⟩, h1, fun k hk => ?_⟩
   rw [g2, List.getElem?_append_left (by rw [Qt6]; exact hk)]
   exact Qt5 hk
  ·cases h
 ·cases h
theorem Qap {B : Nat} {G : Nat → Prop} {rows : Rows} : ∀ {spec : List (Nat × Mode)} {ws : List PV} {e : Env}, Rel B G pl ⟨e, rows⟩ a w →
  (∀ (j : Nat) (s : Nat) (m : Mode) (v : PV), spec[j]? = some (s, m) → ws[j]? = some v → s < a.tmps.size ∧ Men rows v ∧ (okPV rows v = true → VR w pl rows v (a.tmps.getD s undef))) →
  Rel B G pl ⟨Q8j spec ws e, rows⟩ a w
 | [], ws, e, R, _ => by cases ws <;> exact R
 | (s, m) :: spec, [], e, R, _ => R
 | (s, m) :: spec, v :: ws, e, R, h => by
   simp only [Q8j]
   refine Qap (spec := spec) (ws := ws) ⟨fun x y hx => ?_, R.rows, R.zero, R.inj, R.own, R.defers⟩ fun j s' m' v' h1 h2 => h (j + 1) s' m' v' (by simpa using h1) (by simpa using h2)
   simp only [Q8] at hx
   by_cases hxs : x = s
   ·rw [if_pos hxs] at hx
    obtain rfl := oi hx
    subst hxs
    exact h 0 x m v rfl rfl
   ·rw [if_neg hxs] at hx
    exact R.env x y hx
theorem Q64 {B : Nat} {G : Nat → Prop} (R : Rel B G pl σ a w) : ∀ {spec : List (Nat × Mode)} {vs : List PV}, Q3s σ spec = some vs →
  CRs w pl σ.rows vs (spec.map fun x => a.tmps.getD x.1 undef) ∧ (∀ x ∈ spec, x.1 < a.tmps.size)
 | [], vs, h => by
   obtain rfl := oi h
   exact ⟨rfl, fun x hx => by cases hx⟩
 | (s, m) :: spec, vs, h => by
   simp only [Q3s] at h
   split at h
   ·rename_i v hv
    split at h
    ·rename_i vs' hvs
     obtain rfl := oi h
     obtain ⟨g1, g2, g3⟩ := R.look hv
     obtain ⟨e1, e2⟩ := Q64 R hvs
     refine ⟨⟨_, _, rfl, ⟨g1, fun _ => g2⟩, e1⟩, fun x hx => ?_⟩
     rcases List.mem_cons.1 hx with rfl | hx
     ·simp only [look] at hv
      split at hv
      ·rename_i y hy
       exact (R.env s y hy).1
      ·cases hv
     ·exact e2 x hx
    ·cases h
   ·cases h
theorem Qtr (hC : C.Ok) (I : Inv C nt pl σ a w) {key : Nat} (h0 : key ≠ 0) {spec : List (Nat × Mode)} {σ' : St} (h : norm C.n key spec σ = some σ') : ∃ pl', Inv C nt pl' σ' a w := by
 unfold norm at h
 split at h
 ·rename_i vs hvs
  obtain ⟨c1, c2⟩ := Q64 I.rel hvs
  split at h
  ·rename_i vs' rows1 k1 hco
   obtain ⟨pl1, S1, R1, c3, _⟩ := Q1k I.size (List.map (fun x : Nat × Mode => x.2) spec) I.rel (I.zlt hC) h0 c1 hco
   have I1 := I.next (env' := σ.env) (a' := a) S1 (Quiet.refl w) R1 I.nt
   split at h
   ·rename_i ws rs ids hpk
    obtain rfl := oi h
    obtain ⟨p1, p2, p3⟩ := Qcv hpk
    have hZ : ∀ b, C.Z b → pl1.Z b ∨ Left none pl1 rows1 ids b := fun b hb => .inl (by rw [I1.z]; exact hb)
    have hL : ∀ (p : Prov) (b : Nat), covers none (Qe 1 ids) p = true → Safe w pl1 rows1 p b → C.Z b → C.L b := fun p b _ hs hz => by rw [← I1.l]; exact (hs.2.1 (by rw [I1.z]; exact hz)).1
    simp only [Bool.false_eq_true, if_false] at p1 p2
    have hok := Q26 p2
    obtain ⟨m1, m2⟩ := c3.out
    obtain ⟨q1, q2, q3⟩ := Qao (Z := C.Z) (L := C.L) p1 R1.zero hZ hL p2 m1 (m2 hok)
    have R2 := Q14d (B' := C.B) (G' := C.G) R1 p1 hZ hL (fun r s b o hr hl hloc _ => (R1.own r s b o hr hl hloc).2.2)
    have R3 := Qap (spec := spec) (ws := ws) R2 (fun j s m v h1 h2 => by
     obtain ⟨u, e1, e2⟩ := Q2s q3 j v h2
     rw [List.getElem?_map, h1] at e1
     obtain rfl := oi e1
     exact ⟨c2 (s, m) (List.mem_of_getElem? h1), Qq q1 v (List.mem_of_getElem? h2), fun _ => e2⟩)
    refine ⟨pkPl pl1 ids C.Z C.L, R3, rfl, rfl, I.nt, I.size, I.quiet, I.keep, I.blk, fun i h1 h2 => ?_⟩
    obtain ⟨s, g1, g2⟩ := I1.given i h1 h2
    have hi : ids[i - 1]? = some i := by rw [p3 (i - 1) (by omega)]; congr 1; omega
    obtain ⟨s', x, e1, e2, e3⟩ := p1.get _ _ hi
    simp only at g1
    rw [g1] at e1
    cases e1
    refine ⟨⟨0, x⟩, ?_, fun hl => ?_⟩
    ·simp only
     rw [Q1b, if_neg (by omega)]; exact e3
    ·simp only [pkPl, if_neg (show ¬ i = 0 by omega), hi, Option.bind_some]
     exact g2 (fun e => hl ((Q1u e2).2 e))
   ·cases h
  ·cases h
 ·cases h
end
noncomputable def gmap (ids : List Nat) (key k : Nat) : Nat := match ids[k]? with
 | some g => g
 | none => key + (k - ids.length)
theorem Q2a : ∀ {ids : List Nat} {key i n x g : Nat}, findN (Q1f key i ids n) x = some g → ∃ k, x = i + k ∧ k < n ∧ g = gmap ids key k
 | ids, key, i, 0, x, g, h => by cases ids <;> cases h
 | a :: ids, key, i, n + 1, x, g, h => by
   simp only [Q1f, findN] at h
   by_cases e : i = x
   ·subst e
    simp at h
    subst h
    exact ⟨0, rfl, by omega, by simp [gmap]⟩
   ·have : (i == x) = false := by simpa using e
    rw [this] at h
    obtain ⟨k, h1, h2, h3⟩ := Q2a (ids := ids) h
    refine ⟨k + 1, by omega, by omega, ?_⟩
    rw [h3]; simp [gmap]
 | [], key, i, n + 1, x, g, h => by
   simp only [Q1f, findN] at h
   by_cases e : i = x
   ·subst e
    simp at h
    subst h
    exact ⟨0, rfl, by omega, by simp [gmap]⟩
   ·have : (i == x) = false := by simpa using e
    rw [this] at h
    obtain ⟨k, h1, h2, h3⟩ := Q2a (ids := []) h
    refine ⟨k + 1, by omega, by omega, ?_⟩
    rw [h3]; simp [gmap]; omega
theorem Q3j : ∀ {ids : List Nat} {key i n k : Nat}, k < n → findN (Q1f key i ids n) (i + k) = some (gmap ids key k)
 | ids, key, i, 0, k, h => by omega
 | a :: ids, key, i, n + 1, k, h => by
   simp only [Q1f, findN]
   cases k with
   | zero => simp [gmap]
   | succ k =>
     have : (i == i + (k + 1)) = false := by simp
     rw [this]
     have := Q3j (ids := ids) (key := key) (i := i + 1) (n := n) (k := k) (by omega)
     rw [show i + (k + 1) = i + 1 + k by omega]
     simp only [Bool.false_eq_true, if_false]
     rw [this]; simp [gmap]
 | [], key, i, n + 1, k, h => by
   simp only [Q1f, findN]
   cases k with
   | zero => simp [gmap]
   | succ k =>
     have : (i == i + (k + 1)) = false := by simp
     rw [this]
     have := Q3j (ids := []) (key := key + 1) (i := i + 1) (n := n) (k := k) (by omega)
     rw [show i + (k + 1) = i + 1 + k by omega]
     simp only [Bool.false_eq_true, if_false]
     rw [this]; simp [gmap]; omega
theorem Q9p {m : List (Nat × Nat)} {rows : Rows} {lp : Prov} : ∀ {l : List RowS} {i : Nat} {ok : Bool} {u : List (Nat × RowS)}, Q7p m rows lp i l = some (ok, u) →
  u.length = l.length ∧ ∀ (k : Nat) (s : RowS), l[k]? = some s → ∃ g x b, findN m (i + k) = some g ∧ Qj m rows lp s.row = some x ∧ Q6p rows g x = some b ∧ (ok = true → b = true) ∧ u[k]? = some (g, ⟨Q2z rows g, x⟩)
 | [], i, ok, u, h => by
   simp only [Q7p, Option.some.injEq, Prod.mk.injEq] at h
   obtain ⟨rfl, rfl⟩ := h
   exact ⟨rfl, fun k s h => by simp at h⟩
 | s :: l, i, ok, u, h => by
   simp only [Q7p] at h
   split at h
   ·rename_i r hr
    split at h
    ·rename_i x hx
     split at h
     ·rename_i b c u' hb hc
      simp only [Option.some.injEq, Prod.mk.injEq] at h
      obtain ⟨rfl, rfl⟩ := h
      obtain ⟨g1, g2⟩ := Q9p hc
      refine ⟨by simp [g1], fun k s' hk => ?_⟩
      cases k with
      | zero =>
        simp at hk
        subst hk
        exact ⟨r, x, b, hr, hx, hb, fun hbc => by simp at hbc; exact hbc.1, rfl⟩
      | succ k =>
        obtain ⟨g, x', b', e1, e2, e3, e4, e5⟩ := g2 k s' (by simpa using hk)
        exact ⟨g, x', b', by rw [show i + (k + 1) = i + 1 + k by omega]; exact e1, e2, e3, fun hbc => e4 (by simp at hbc; exact hbc.2), by simpa using e5⟩
     ·cases h
    ·cases h
   ·cases h
theorem Q9n {β : Type} : ∀ {l : List (Nat × β)} {f : Nat → Option β} {x : Nat}, (∀ q ∈ l, q.1 ≠ x) → updAll f l x = f x
 | [], f, x, _ => rfl
 | (a, b) :: l, f, x, h => by
   simp only [updAll]
   rw [Q9n fun q hq => h q (List.mem_cons_of_mem _ hq), Q8, if_neg (fun e => h (a, b) List.mem_cons_self e.symm)]
theorem Qmw {β : Type} : ∀ {l : List (Nat × β)} {f : Nat → Option β} {x k : Nat} {b : β}, l[k]? = some (x, b) → (∀ j q, l[j]? = some q → q.1 = x → j = k) → updAll f l x = some b
 | [], f, x, k, b, h, _ => by simp at h
 | (a, c) :: l, f, x, k, b, h, hu => by
   simp only [updAll]
   cases k with
   | zero =>
     simp at h
     obtain ⟨rfl, rfl⟩ := h
     rw [Q9n fun q hq e => ?_, Q8, if_pos rfl]
     obtain ⟨j, hj⟩ := List.getElem?_of_mem hq
     have := hu (j + 1) q (by simpa using hj) e
     omega
   | succ k => exact Qmw (by simpa using h) fun j q hj e => by have := hu (j + 1) q (by simpa using hj) e; omega
theorem Q78 {rows : Rows} : ∀ {n : Nat} {l : List (Nat × RowS)}, Q77 rows n l = true → ∀ (k : Nat) (q : Nat × RowS), l[k]? = some q → n ≤ k → rows q.1 = none
 | n, [], _, k, q, hq, _ => by simp at hq
 | n + 1, _ :: l, h, k, q, hq, hk => by
   cases k with
   | zero => omega
   | succ k => exact Q78 (n := n) (l := l) h k q (by simpa using hq) (by omega)
 | 0, (r, s) :: l, h, k, q, hq, _ => by
   simp only [Q77, Bool.and_eq_true] at h
   cases k with
   | zero =>
     simp at hq
     subst hq
     cases hr : rows r with
     | none => rfl
     | some s' => rw [hr] at h; simp at h
   | succ k => exact Q78 (n := 0) (l := l) h.2 k q (by simpa using hq) (by omega)
structure Bk (rows : Rows) (ids : List Nat) (key : Nat) (lp : Prov) (rout : List RowS) (u : List (Nat × RowS)) : Prop where
 lent : ProvIn rows lp
 key0 : key ≠ 0
 zero : rows 0 = none
 nodup : ids.Nodup
 long : ids.length ≤ rout.length
 here : ∀ id ∈ ids, rows id ≠ none
 ulen : u.length = rout.length
 get : ∀ (k : Nat) (s : RowS), rout[k]? = some s → ∃ x, Qj (Q1f key 1 ids rout.length) rows lp s.row = some x ∧ Q6p rows (gmap ids key k) x = some true ∧ u[k]? = some (gmap ids key k, ⟨Q2z rows (gmap ids key k), x⟩)
 free : ∀ k, ids.length ≤ k → k < rout.length → rows (gmap ids key k) = none
section
variable {rows : Rows} {ids : List Nat} {key : Nat} {lp : Prov} {rout : List RowS} {u : List (Nat × RowS)}
theorem Bk.inj (h : Bk rows ids key lp rout u) {j k : Nat} (hj : j < rout.length) (hk : k < rout.length) (e : gmap ids key j = gmap ids key k) : j = k := by
 have here : ∀ {j}, j < ids.length → rows (gmap ids key j) ≠ none := fun {j} hj => by
  rw [gmap, List.getElem?_eq_getElem hj]; exact h.here _ (List.getElem_mem hj)
 by_cases h1 : j < ids.length
 ·by_cases h2 : k < ids.length
  ·simp only [gmap, List.getElem?_eq_getElem h1, List.getElem?_eq_getElem h2] at e
   have a := Q6e (n := 1) h.nodup (List.getElem?_eq_getElem h1)
   have b := Q6e (n := 1) h.nodup (List.getElem?_eq_getElem h2)
   rw [e, b] at a
   have := oi a
   omega
  ·exact absurd (e ▸ h.free k (by omega) hk) (here h1)
 ·by_cases h2 : k < ids.length
  ·exact absurd (e ▸ h.free j (by omega) hj) (here h2)
  ·simp only [gmap, List.getElem?_eq_none (show ids.length ≤ j by omega), List.getElem?_eq_none (show ids.length ≤ k by omega)] at e
   omega
theorem Bk.row (h : Bk rows ids key lp rout u) {k : Nat} {s : RowS} (hk : rout[k]? = some s) :
  ∃ x, Qj (Q1f key 1 ids rout.length) rows lp s.row = some x ∧ Q6p rows (gmap ids key k) x = some true ∧ updAll rows u (gmap ids key k) = some ⟨Q2z rows (gmap ids key k), x⟩ := by
 obtain ⟨x, h1, h2, h3⟩ := h.get k s hk
 refine ⟨x, h1, h2, Qmw h3 fun j q hj e => ?_⟩
 have hj' : j < rout.length := by
  have := (List.getElem?_eq_some_iff.1 hj).1
  rw [h.ulen] at this; exact this
 obtain ⟨x', _, _, g3⟩ := h.get j _ (List.getElem?_eq_getElem hj')
 rw [g3] at hj
 cases hj
 exact h.inj hj' (List.getElem?_eq_some_iff.1 hk).1 e
theorem Bk.other (h : Bk rows ids key lp rout u) {x : Nat} (hx : ∀ k, k < rout.length → gmap ids key k ≠ x) : updAll rows u x = rows x := by
 refine Q9n fun q hq e => ?_
 obtain ⟨j, hj⟩ := List.getElem?_of_mem hq
 have hj' : j < rout.length := by
  have := (List.getElem?_eq_some_iff.1 hj).1
  rw [h.ulen] at this; exact this
 obtain ⟨x', _, _, g3⟩ := h.get j _ (List.getElem?_eq_getElem hj')
 rw [g3] at hj
 cases hj
 exact hx j hj' e
theorem Q2h {m : List (Nat × Nat)} {x y : Row} (h : Qj m rows lp x = some y) : y = .gone ↔ x = .gone := by
 cases x with
 | arr p t l =>
   simp only [Qj] at h
   split at h
   ·obtain rfl := oi h; simp
   ·cases h
 | vars l =>
   simp only [Qj] at h
   split at h
   ·obtain rfl := oi h; simp
   ·cases h
 | gone => obtain rfl := oi h; simp
 | mp it p kt vt bx l tk =>
   simp only [Qj] at h
   split at h
   ·obtain rfl := oi h; simp
   ·cases h
theorem Qe2 {m : List (Nat × Nat)} {x : Row} {it : Nat} {bx : Bool} {p : Prov} {kt vt : Ty} {l : List (kt.D × vt.D)} {tk : Option (kt.D × Nat)} (h : Qj m rows lp x = some (.mp it p kt vt bx l tk)) :
  tk = none ∧ ∃ p0, x = .mp it p0 kt vt bx l none := by
 cases x with
 | arr p t l =>
   simp only [Qj] at h
   split at h <;> cases h
 | gone => cases h
 | vars l =>
   simp only [Qj] at h
   split at h <;> cases h
 | mp it p kt vt bx l tk =>
   simp only [Qj] at h
   split at h
   ·cases h; exact ⟨rfl, _, rfl⟩
   ·cases h
theorem Qgu {m : List (Nat × Nat)} {x y : Row} (h : Qj m rows lp x = some y) (hx : x.plain) : y.plain := by
 cases x with
 | arr p t l =>
   simp only [Qj] at h
   split at h
   ·cases h; trivial
   ·cases h
 | gone => cases h; trivial
 | vars l => exact hx.elim
 | mp it p kt vt bx l tk => exact hx.elim
theorem Q4d {m : List (Nat × Nat)} : ∀ {p p' : Prov}, Q39 m rows lp p = some p' →
  (∀ q ∈ p', q ∈ lp ∨ ∃ i n, (i, n) ∈ p ∧ i ≠ 0 ∧ findN m i = some q.1 ∧ q.2 = Q2z rows q.1) ∧ (∀ i n, (i, n) ∈ p → i ≠ 0 → ∃ g, findN m i = some g ∧ (g, Q2z rows g) ∈ p') ∧ (∀ n, (0, n) ∈ p → ∀ q ∈ lp, q ∈ p')
 | [], p', h => by
   obtain rfl := oi h
   exact ⟨fun q hq => (by cases hq), fun i n h => (by cases h), fun n h => (by cases h)⟩
 | (r, n) :: p, p', h => by
   simp only [Q39] at h
   split at h
   ·rename_i l' h2
    obtain ⟨g1, g2, g3⟩ := Q4d h2
    by_cases hr : r = 0
    ·subst hr
     simp at h
     subst h
     refine ⟨fun q hq => ?_, fun i k hi h0 => ?_, fun k _ q hq => List.mem_append_left _ hq⟩
     ·rcases List.mem_append.1 hq with hq | hq
      ·exact .inl hq
      ·rcases g1 q hq with h | ⟨i, k, e1, e2⟩
       ·exact .inl h
       ·exact .inr ⟨i, k, List.mem_cons_of_mem _ e1, e2⟩
     ·rcases List.mem_cons.1 hi with e | hi
      ·cases e; exact absurd rfl h0
      ·obtain ⟨g, e1, e2⟩ := g2 i k hi h0
       exact ⟨g, e1, List.mem_append_right _ e2⟩
    ·have : (r == 0) = false := by simpa using hr
     rw [this] at h
     simp only [Bool.false_eq_true, if_false] at h
     split at h
     ·rename_i r' h1
      obtain rfl := oi h
      refine ⟨fun q hq => ?_, fun i k hi h0 => ?_, fun k hk q hq => ?_⟩
      ·rcases List.mem_cons.1 hq with rfl | hq
       ·exact .inr ⟨r, n, List.mem_cons_self, hr, h1, rfl⟩
       ·rcases g1 q hq with h | ⟨i, k, e1, e2⟩
        ·exact .inl h
        ·exact .inr ⟨i, k, List.mem_cons_of_mem _ e1, e2⟩
      ·rcases List.mem_cons.1 hi with e | hi
       ·cases e
        exact ⟨r', h1, List.mem_cons_self⟩
       ·obtain ⟨g, e1, e2⟩ := g2 i k hi h0
        exact ⟨g, e1, List.mem_cons_of_mem _ e2⟩
      ·rcases List.mem_cons.1 hk with e | hk
       ·cases e; exact absurd rfl hr
       ·exact List.mem_cons_of_mem _ (g3 k hk q hq)
     ·cases h
   ·cases h
open Classical in
noncomputable def bkPl (pl plc : Pl) (ids : List Nat) (key n : Nat) : Pl :=
 ⟨fun x => if h : ∃ k, k < n ∧ gmap ids key k = x then plc.loc (h.choose + 1) else pl.loc x, pl.Z, pl.L,
  fun x b => if h : ∃ k, k < n ∧ gmap ids key k = x then plc.hid (h.choose + 1) b else pl.hid x b⟩
theorem Bk.loc (h : Bk rows ids key lp rout u) (pl plc : Pl) {k : Nat} (hk : k < rout.length) : (bkPl pl plc ids key rout.length).loc (gmap ids key k) = plc.loc (k + 1) := by
 have hex : ∃ j, j < rout.length ∧ gmap ids key j = gmap ids key k := ⟨k, hk, rfl⟩
 simp only [bkPl, dif_pos hex]
 have := h.inj hex.choose_spec.1 hk hex.choose_spec.2
 rw [this]
theorem Bk.hid (h : Bk rows ids key lp rout u) (pl plc : Pl) {k : Nat} (hk : k < rout.length) : (bkPl pl plc ids key rout.length).hid (gmap ids key k) = plc.hid (k + 1) := by
 have hex : ∃ j, j < rout.length ∧ gmap ids key j = gmap ids key k := ⟨k, hk, rfl⟩
 funext b
 simp only [bkPl, dif_pos hex]
 have := h.inj hex.choose_spec.1 hk hex.choose_spec.2
 rw [this]
theorem Bk.at (h : Bk rows ids key lp rout u) (pl plc : Pl) {k b o : Nat} (hk : k < rout.length) : (bkPl pl plc ids key rout.length).at (gmap ids key k) b o ↔ plc.at (k + 1) b o := by
 unfold Pl.at
 rw [h.loc pl plc hk, h.hid pl plc hk]
theorem Q2i (pl plc : Pl) {x n : Nat} (hx : ∀ k, k < n → gmap ids key k ≠ x) : (bkPl pl plc ids key n).hid x = pl.hid x := by
 have hex : ¬ ∃ j, j < n ∧ gmap ids key j = x := fun ⟨j, h1, h2⟩ => hx j h1 h2
 funext b
 simp only [bkPl, dif_neg hex]
theorem Qjo (pl plc : Pl) {x n : Nat} (hx : ∀ k, k < n → gmap ids key k ≠ x) : (bkPl pl plc ids key n).loc x = pl.loc x := by
 have hex : ¬ ∃ j, j < n ∧ gmap ids key j = x := fun ⟨j, h1, h2⟩ => hx j h1 h2
 simp only [bkPl, dif_neg hex]
end
structure Duo (B : Nat) (G : Nat → Prop) (pl : Pl) (rows : Rows) (ids : List Nat) (lp : Prov) (w w' : World) (plc pl' : Pl) (rout : List RowS) : Prop where
 own : ∀ r s b o, rows r = some s → s.live → pl.at r b o → b < w.heap.size ∧ ¬ pl.Z b ∧ (B ≤ b ∨ G b)
 left : ∀ b, pl.Z b ∨ Left (some lp) pl rows ids b → pl'.Z b
 lent : ∀ b, pl'.Z b → pl'.L b → (pl.Z b → pl.L b ∧ ∃ q ∈ lp, q.1 = 0) ∧ ∀ r s o, rows r = some s → s.live → pl.at r b o → r ∉ ids → ∃ q ∈ lp, q.1 = r
 cown : ∀ r s b o, rowsOf rout r = some s → s.live → pl'.at r b o → b < w'.heap.size ∧ ¬ pl'.Z b ∧ (w.heap.size ≤ b ∨ ∃ r0 s0 o0, rows r0 = some s0 ∧ s0.live ∧ pl.at r0 b o0 ∧ r0 ∈ ids)
 cinj : ∀ r r' s s' b o o', rowsOf rout r = some s → s.live → rowsOf rout r' = some s' → s'.live → pl'.at r b o → pl'.at r' b o' → r = r'
 given : ∀ k id s, ids[k]? = some id → rowsOf rout (k + 1) = some s → s.live → pl'.loc (k + 1) = pl.loc id
 rowr : ∀ r s, rowsOf rout r = some s → RowR w' pl' (rowsOf rout) r s
 size : w.heap.size ≤ w'.heap.size
 keep : ∀ b, b < w.heap.size → ¬ (∃ r s o, rows r = some s ∧ s.live ∧ pl.at r b o ∧ r ∈ ids) → w'.heap[b]? = w.heap[b]?
 blk : ∀ (b : Nat) (arr : Array Value) (T : TypeId) (fr : Nat × Nat), w.heap[b]? = some (Obj.cells arr T fr) → ∃ (arr' : Array Value) (T' : TypeId) (fr' : Nat × Nat), w'.heap[b]? = some (Obj.cells arr' T' fr') ∧ arr'.size = arr.size
section
variable {B : Nat} {G : Nat → Prop} {rows : Rows} {ids : List Nat} {key : Nat} {lp : Prov} {rout : List RowS} {u : List (Nat × RowS)} {pl plc pl' : Pl} {w w' : World}
theorem Bk.cases (h : Bk rows ids key lp rout u) (pl pl' : Pl) (r : Nat) : (∃ k s x, r = gmap ids key k ∧ k < rout.length ∧ rowsOf rout (k + 1) = some s ∧ Qj (Q1f key 1 ids rout.length) rows lp s.row = some x ∧ Q6p rows r x = some true ∧
   updAll rows u r = some ⟨Q2z rows r, x⟩ ∧ (bkPl pl pl' ids key rout.length).loc r = pl'.loc (k + 1)) ∨
  ((∀ k, k < rout.length → gmap ids key k ≠ r) ∧ updAll rows u r = rows r ∧ (bkPl pl pl' ids key rout.length).loc r = pl.loc r) := by
 by_cases hx : ∃ k, k < rout.length ∧ gmap ids key k = r
 ·obtain ⟨k, h1, rfl⟩ := hx
  obtain ⟨x, g1, g2, g3⟩ := h.row (List.getElem?_eq_getElem h1)
  exact .inl ⟨k, _, x, rfl, h1, by rw [Qf]; exact List.getElem?_eq_getElem h1, g1, g2, g3, h.loc pl pl' h1⟩
 ·have hx' : ∀ k, k < rout.length → gmap ids key k ≠ r := fun k h1 h2 => hx ⟨k, h1, h2⟩
  exact .inr ⟨hx', h.other hx', Qjo pl pl' hx'⟩
theorem Qis {k : Nat} {id : Nat} (h : ids[k]? = some id) : gmap ids key k = id := by simp [gmap, h]
theorem Qbn (h : Bk rows ids key lp rout u) (D : Duo B G pl rows ids lp w w' plc pl' rout) : Step w pl rows w' (bkPl pl pl' ids key rout.length) (updAll rows u) := by
 have hereK : ∀ {r k}, rows r ≠ none → r = gmap ids key k → k < rout.length → ids[k]? = some r := by
  intro r k hr e hk
  by_cases h1 : k < ids.length
  ·rw [List.getElem?_eq_getElem h1, e, gmap, List.getElem?_eq_getElem h1]
  ·exact absurd (e ▸ h.free k (by omega) hk) hr
 have changed : ∀ {r s}, rows r = some s → r ∈ ids → updAll rows u r ≠ some s := by
  intro r s hr hm e
  obtain ⟨k, hk⟩ := List.getElem?_of_mem hm
  have hk' : k < ids.length := (List.getElem?_eq_some_iff.1 hk).1
  have hg : gmap ids key k = r := Qis hk
  have hkr : k < rout.length := Nat.lt_of_lt_of_le hk' h.long
  obtain ⟨x, _, _, g3⟩ := h.row (List.getElem?_eq_getElem hkr)
  rw [hg, e] at g3
  have := congrArg RowS.ver (oi g3)
  simp only [Q2z, hr] at this
  omega
 have inside : ∀ {r s}, rows r = some s → updAll rows u r = some s → ∀ k, k < rout.length → gmap ids key k ≠ r := by
  intro r s h1 h2 k hk e
  by_cases hk1 : k < ids.length
  ·refine changed h1 ?_ h2
   rw [← e, gmap, List.getElem?_eq_getElem hk1]
   exact List.getElem_mem hk1
  ·have := h.free k (by omega) hk
   rw [e, h1] at this
   cases this
 have ver : ∀ {r : Nat} {s : RowS} {k : Nat}, rows r = some s → r ∈ ids → ids[k]? = some r → ∃ s1, updAll rows u r = some s1 := by
  intro r s k hr hm hk
  have hk' : k < ids.length := (List.getElem?_eq_some_iff.1 hk).1
  have hg : gmap ids key k = r := Qis hk
  have hkr : k < rout.length := Nat.lt_of_lt_of_le hk' h.long
  obtain ⟨x, _, _, g3⟩ := h.row (List.getElem?_eq_getElem hkr)
  rw [hg] at g3
  exact ⟨_, g3⟩
 refine ⟨rfl, rfl, D.size, fun r s hr => ?_, fun r s h1 h2 hl => Q2i pl pl' (inside h1 h2), fun r s' h2 hl b o h3 => ?_, fun b hb hh => ?_, D.blk, h.zero⟩
 ·rcases h.cases pl pl' r with ⟨k, sk, x, e, hk, g1, g2, g3, g4, g5⟩ | ⟨_, g1, g2⟩
  ·refine ⟨_, g4, ?_, fun hl => ?_⟩
   ·have hv : Q2z rows r = s.ver + 1 := by simp [Q2z, hr]
    rw [hv]
    refine ⟨by simp, ?_⟩
    simp only [Q6p, hr] at g3
    obtain ⟨n, row⟩ := s
    cases row with
    | arr p t l =>
      cases x with
      | arr p' t' l' =>
        simp only at g3
        split at g3
        ·rename_i ht
         subst ht
         have hlen : l'.length = l.length := by simpa using g3
         exact .inr (.inr (.inl ⟨p, p', t, l, l', rfl, rfl, hlen, by simp⟩))
        ·cases g3
      | gone => exact .inr (.inl ⟨rfl, by simp⟩)
      | vars l' => cases g3
      | mp => cases g3
    | mp it p kt vt bx l tk =>
      cases x with
      | gone => exact .inr (.inl ⟨rfl, by simp⟩)
      | vars l' => cases g3
      | arr p' t' l' => cases g3
      | mp => cases g3
    | vars l =>
      cases x with
      | vars l' =>
        simp only at g3
        split at g3
        ·rename_i hlen
         exact .inr (.inr (.inr (.inl ⟨l, l', rfl, rfl, hlen, by simp⟩)))
        ·cases g3
      | gone => cases g3
      | arr p' t' l' => cases g3
      | mp => cases g3
    | gone =>
      cases x with
      | gone => exact .inr (.inl ⟨rfl, by simp⟩)
      | vars l' => cases g3
      | arr p' t' l' => cases g3
      | mp => cases g3
   ·rw [g5]
    exact D.given k r sk (hereK (by rw [hr]; simp) e hk) g1 (fun e' => hl ((Q2h g2).2 e'))
  ·exact ⟨s, g1.trans hr, Kin.refl s, fun _ => g2⟩
 ·rcases h.cases pl pl' r with ⟨k, sk, x, e, hk, g1, g2, g3, g4, g5⟩ | ⟨g0, g1, g2⟩
  ·rw [h2] at g4
   cases g4
   rw [e, h.at pl pl' hk] at h3
   have hlk : sk.live := fun e' => hl ((Q2h g2).2 e')
   obtain ⟨_, _, q⟩ := D.cown _ _ b o g1 hlk h3
   rcases q with q | ⟨r0, s0, o0, f1, f2, f3, f4⟩
   ·exact .inr (.inl q)
   ·obtain ⟨j, hj⟩ := List.getElem?_of_mem f4
    obtain ⟨s1, y3⟩ := ver f1 f4 hj
    exact .inr (.inr ⟨r0, s0, s1, o0, f1, f2, y3, fun e' => changed f1 f4 (e' ▸ y3), f3⟩)
  ·refine .inl ⟨s', o, g1 ▸ h2, hl, ?_⟩
   unfold Pl.at at h3 ⊢
   rw [g2, Q2i pl pl' g0] at h3
   exact h3
 ·refine D.keep b hb ?_
  rintro ⟨r, s, o, f1, f2, f3, f4⟩
  exact changed f1 f4 (hh r s o f1 f2 f3)
theorem Qnc (h : Bk rows ids key lp rout u) (D : Duo B G pl rows ids lp w w' plc pl' rout) {p p' : Prov} (hp : Q39 (Q1f key 1 ids rout.length) rows lp p = some p') {b : Nat} (hs : Safe w' pl' (rowsOf rout) p b) :
  Safe w' (bkPl pl pl' ids key rout.length) (updAll rows u) p' b := by
 obtain ⟨g1, g2, g0⟩ := Q4d hp
 obtain ⟨h1, h2, h3⟩ := hs
 have zz : pl'.Z b → (∀ q ∈ lp, q ∈ p') ∧ (pl.Z b → pl.L b ∧ ∃ q ∈ lp, q.1 = 0) ∧ ∀ r s o, rows r = some s → s.live → pl.at r b o → r ∉ ids → ∃ q ∈ lp, q.1 = r := by
  intro hz
  obtain ⟨hL, ⟨i, n⟩, hq, e⟩ := h2 hz
  simp only at e
  subst e
  exact ⟨g0 n hq, D.lent b hz hL⟩
 refine ⟨h1, fun hz => ?_, fun r s o hr hl hloc => ?_⟩
 ·obtain ⟨z1, z2, _⟩ := zz (D.left b (.inl hz))
  obtain ⟨z3, q, z4, z5⟩ := z2 hz
  exact ⟨z3, q, z1 q z4, z5⟩
 ·rcases h.cases pl pl' r with ⟨k, sk, x, e, hk, f1, f2, f3, f4, f5⟩ | ⟨f0, f1, f2⟩
  ·rw [hr] at f4
   cases f4
   rw [e, h.at pl pl' hk] at hloc
   obtain ⟨⟨i, n⟩, hq, ei⟩ := h3 _ sk o f1 (fun e' => hl ((Q2h f2).2 e')) hloc
   simp only at ei
   subst ei
   obtain ⟨g, e1, e2⟩ := g2 _ n hq (by omega)
   have := Q3j (ids := ids) (key := key) (i := 1) hk
   rw [Nat.add_comm, e1] at this
   cases this
   exact ⟨_, e2, e.symm⟩
  ·rw [f1] at hr
   replace hloc : pl.at r b o := by
    unfold Pl.at at hloc ⊢
    rw [f2, Q2i pl pl' f0] at hloc
    exact hloc
   have hm : r ∉ ids := fun hm => by
    obtain ⟨j, hj⟩ := List.getElem?_of_mem hm
    exact f0 j (Nat.lt_of_lt_of_le (List.getElem?_eq_some_iff.1 hj).1 h.long) (Qis hj)
   obtain ⟨z1, _, z3⟩ := zz (D.left b (.inr ⟨rfl, r, s, o, hr, hl, hloc, hm⟩))
   obtain ⟨q, z4, z5⟩ := z3 r s o hr hl hloc hm
   exact ⟨q, z1 q z4, z5⟩
theorem Qbf (h : Bk rows ids key lp rout u) (D : Duo B G pl rows ids lp w w' plc pl' rout) {p p' : Prov} (hp : Q39 (Q1f key 1 ids rout.length) rows lp p = some p') (hm : ProvIn (rowsOf rout) p) : ProvIn (updAll rows u) p' := by
 obtain ⟨g1, g2, _⟩ := Q4d hp
 rintro ⟨g, n⟩ hq
 rcases g1 _ hq with hl | ⟨i, k, e1, e0, e2, e3⟩
 ·exact (Qbn h D).provIn h.lent _ hl
 ·obtain ⟨j, rfl, hj, e5⟩ := Q2a e2
  simp only at e5 e3
  subst e5
  rcases hm _ e1 with e | ⟨s, f1, f2, f3⟩
  ·simp only at e; omega
  ·simp only [Nat.add_comm 1 j] at f1
   rw [Qf] at f1
   obtain ⟨x, y1, y2, y3⟩ := h.row f1
   exact .inr ⟨_, y3, .inl (by simp only; omega), Qgu y1 f3⟩
mutual
theorem bk_vr (h : Bk rows ids key lp rout u) (D : Duo B G pl rows ids lp w w' plc pl' rout) : ∀ {v v' : PV} {x : Value}, back (Q1f key 1 ids rout.length) rows lp v = some v' → Men (rowsOf rout) v → VR w' pl' (rowsOf rout) v x →
  Men (updAll rows u) v' ∧ VR w' (bkPl pl pl' ids key rout.length) (updAll rows u) v' x
 | .val p t y, v', x, hb, hm, hv => by
   simp only [back] at hb
   split at hb
   ·rename_i p' hp
    obtain rfl := oi hb
    exact ⟨Qbf h D hp hm, Qn (fun b hb => Qnc h D hp hb) (fun _ _ => rfl) hv⟩
   ·cases hb
 | .pvl _ _ _ _ _, v', x, hb, hm, hv => by cases hb
 | .und, v', x, hb, hm, hv => by cases hb
 | .nils, v', x, hb, _, hv => by obtain rfl := oi hb; exact ⟨trivial, hv⟩
 | .nilp, v', x, hb, _, hv => by obtain rfl := oi hb; exact ⟨trivial, hv⟩
 | .lit _, v', x, hb, _, hv => by obtain rfl := oi hb; exact ⟨trivial, hv⟩
 | .rw r, v', x, hb, hm, hv => by
   simp only [back] at hb
   split at hb
   ·rename_i g hg
    obtain rfl := oi hb
    obtain ⟨k, rfl, hk, rfl⟩ := Q2a hg
    obtain ⟨y, y1, y2, y3⟩ := h.row (List.getElem?_eq_getElem hk)
    refine ⟨by simp [Men, y3], ⟨hv.1.1, fun n p kt vt bx l tk hl => ?_⟩, fun n p t l hl => ?_⟩
    ·rw [y3] at hl
     have hrow : rowsOf rout (1 + k) = some rout[k] := by rw [Nat.add_comm, Qf]; exact List.getElem?_eq_getElem hk
     generalize rout[k] = s at *
     obtain ⟨n0, row⟩ := s
     cases hl
     obtain ⟨_, p0, e⟩ := Qe2 y1
     simp only at e
     subst e
     obtain ⟨b, e1, e2⟩ := hv.1.2 _ _ _ _ _ _ _ hrow
     exact ⟨b, by rw [h.loc pl pl' hk, Nat.add_comm]; exact e1, e2⟩
    rw [y3] at hl
    have hrow : rowsOf rout (1 + k) = some rout[k] := by rw [Nat.add_comm, Qf]; exact List.getElem?_eq_getElem hk
    generalize rout[k] = s at *
    obtain ⟨n0, row⟩ := s
    cases row with
    | arr p0 t0 l0 =>
      simp only [Qj] at y1
      split at y1
      ·cases y1
       cases hl
       obtain ⟨A, c, e1, e2, e3⟩ := hv.2 _ _ _ _ hrow
       exact ⟨A, c, e1, e2, fun hc => by rw [h.loc pl pl' hk, Nat.add_comm]; exact e3 hc⟩
      ·cases y1
    | vars l0 => simp only [Qj] at y1; split at y1 <;> cases y1; cases hl
    | gone => cases y1; cases hl
    | mp => simp only [Qj] at y1; split at y1 <;> cases y1; cases hl
   ·cases hb
 | .rs r off len, v', x, hb, hm, hv => by
   simp only [back] at hb
   split at hb
   ·rename_i g hg
    obtain rfl := oi hb
    obtain ⟨k, rfl, hk, rfl⟩ := Q2a hg
    obtain ⟨y, y1, y2, y3⟩ := h.row (List.getElem?_eq_getElem hk)
    refine ⟨by simp [Men, y3], hv.1, fun n p t l hl => ?_⟩
    rw [y3] at hl
    have hrow : rowsOf rout (1 + k) = some rout[k] := by rw [Nat.add_comm, Qf]; exact List.getElem?_eq_getElem hk
    generalize rout[k] = s at *
    obtain ⟨n0, row⟩ := s
    cases row with
    | arr p0 t0 l0 =>
      simp only [Qj] at y1
      split at y1
      ·cases y1
       cases hl
       obtain ⟨hle, A, c, e1, e2, e3⟩ := hv.2 _ _ _ _ hrow
       exact ⟨hle, A, c, e1, e2, fun hc => by rw [h.loc pl pl' hk, Nat.add_comm]; exact e3 hc⟩
      ·cases y1
    | vars l0 => simp only [Qj] at y1; split at y1 <;> cases y1; cases hl
    | gone => cases y1; cases hl
    | mp => simp only [Qj] at y1; split at y1 <;> cases y1; cases hl
   ·cases hb
 | .ptr r off, v', x, hb, hm, hv => by
   simp only [back] at hb
   split at hb
   ·rename_i g hg
    obtain rfl := oi hb
    obtain ⟨k, rfl, hk, rfl⟩ := Q2a hg
    obtain ⟨y, y1, y2, y3⟩ := h.row (List.getElem?_eq_getElem hk)
    refine ⟨by simp [Men, y3], ⟨hv.1.1, hv.1.2.1, fun n i p kt vt bx l tk hl => ?_⟩, fun n l hl => ?_⟩
    ·rw [y3] at hl
     have hrow : rowsOf rout (1 + k) = some rout[k] := by rw [Nat.add_comm, Qf]; exact List.getElem?_eq_getElem hk
     generalize rout[k] = s at *
     obtain ⟨n0, row⟩ := s
     cases hl
     obtain ⟨_, p0, e⟩ := Qe2 y1
     simp only at e
     subst e
     obtain ⟨b, e1, e2⟩ := hv.1.2.2 _ _ _ _ _ _ _ _ hrow
     exact ⟨b, by rw [h.loc pl pl' hk, Nat.add_comm]; exact e1, e2⟩
    rw [y3] at hl
    have hrow : rowsOf rout (1 + k) = some rout[k] := by rw [Nat.add_comm, Qf]; exact List.getElem?_eq_getElem hk
    generalize rout[k] = s at *
    obtain ⟨n0, row⟩ := s
    cases row with
    | vars l0 =>
      obtain ⟨b, e1, e2⟩ := hv.2 _ _ hrow
      exact ⟨b, by rw [h.loc pl pl' hk, Nat.add_comm]; exact e1, e2⟩
    | arr p0 t0 l0 => simp only [Qj] at y1; split at y1 <;> cases y1; cases hl
    | gone => cases y1; cases hl
    | mp => simp only [Qj] at y1; split at y1 <;> cases y1; cases hl
   ·cases hb
 | .pel r i off, v', x, hb, hm, hv => by
   simp only [back] at hb
   split at hb
   ·rename_i g hg
    obtain rfl := oi hb
    obtain ⟨k, rfl, hk, rfl⟩ := Q2a hg
    obtain ⟨y, y1, y2, y3⟩ := h.row (List.getElem?_eq_getElem hk)
    refine ⟨by simp [Men, y3], hv.1, fun n p t l hl => ?_⟩
    rw [y3] at hl
    have hrow : rowsOf rout (1 + k) = some rout[k] := by rw [Nat.add_comm, Qf]; exact List.getElem?_eq_getElem hk
    generalize rout[k] = s at *
    obtain ⟨n0, row⟩ := s
    cases row with
    | arr p0 t0 l0 =>
      simp only [Qj] at y1
      split at y1
      ·cases y1
       cases hl
       obtain ⟨hi, b, o, e1, e2⟩ := hv.2 _ _ _ _ hrow
       exact ⟨hi, b, o, by rw [h.loc pl pl' hk, Nat.add_comm]; exact e1, e2⟩
      ·cases y1
    | vars l0 => simp only [Qj] at y1; split at y1 <;> cases y1; cases hl
    | gone => cases y1; cases hl
    | mp => simp only [Qj] at y1; split at y1 <;> cases y1; cases hl
   ·cases hb
 | .fn f l, v', x, hb, hm, hv => by
   simp only [back] at hb
   split at hb
   ·rename_i l' hl
    obtain rfl := oi hb
    obtain ⟨cs, e, g⟩ := hv
    obtain ⟨q1, q2⟩ := Qjp h D (l := l) hl hm g
    exact ⟨q1, cs, e, q2⟩
   ·cases hb
 | .agg l, v', x, hb, hm, hv => by
   simp only [back] at hb
   split at hb
   ·rename_i l' hl
    obtain rfl := oi hb
    obtain ⟨cs, e, g, g1⟩ := hv
    obtain ⟨q1, q2⟩ := Qjp h D (l := l) hl hm g
    exact ⟨q1, cs, e, q2, g1⟩
   ·cases hb
 | .tup l, v', x, hb, hm, hv => by
   simp only [back] at hb
   split at hb
   ·rename_i l' hl
    obtain rfl := oi hb
    obtain ⟨cs, us, es, e, e2, g⟩ := hv
    obtain ⟨q1, q2⟩ := Qjp h D (l := l) hl hm g
    exact ⟨q1, cs, us, es, e, e2, q2⟩
   ·cases hb
theorem Qjp (h : Bk rows ids key lp rout u) (D : Duo B G pl rows ids lp w w' plc pl' rout) : ∀ {l l' : List PV} {us : List Value}, back.backAll (Q1f key 1 ids rout.length) rows lp l = some l' → Mens (rowsOf rout) l → VRs w' pl' (rowsOf rout) l us →
  Mens (updAll rows u) l' ∧ VRs w' (bkPl pl pl' ids key rout.length) (updAll rows u) l' us
 | [], l', us, hb, _, hv => by
   obtain rfl := oi hb
   exact ⟨trivial, hv⟩
 | v :: l, l', us, hb, hm, hv => by
   simp only [back.backAll] at hb
   split at hb
   ·rename_i v' hv'
    split at hb
    ·rename_i l'' hl
     obtain rfl := oi hb
     obtain ⟨x, us', rfl, g1, g2⟩ := hv
     obtain ⟨q1, q2⟩ := bk_vr h D (v := v) hv' hm.1 g1
     obtain ⟨r1, r2⟩ := Qjp h D (l := l) hl hm.2 g2
     exact ⟨⟨q1, r1⟩, x, us', rfl, q2, r2⟩
    ·cases hb
   ·cases hb
end
end
section
variable {B : Nat} {G : Nat → Prop} {rows : Rows} {ids : List Nat} {key : Nat} {lp : Prov} {rout : List RowS} {u : List (Nat × RowS)} {pl plc pl' : Pl} {w w' : World}
theorem Qbd {m : List (Nat × Nat)} : ∀ {l l' : List PV}, back.backAll m rows lp l = some l' → l'.length = l.length ∧ ∀ (j : Nat) (y : PV), l'[j]? = some y → ∃ x, l[j]? = some x ∧ back m rows lp x = some y
 | [], l', h => by obtain rfl := oi h; exact ⟨rfl, fun j y hy => by simp at hy⟩
 | v :: l, l', h => by
   simp only [back.backAll] at h
   split at h
   ·rename_i v' hv
    split at h
    ·rename_i l'' hl
     obtain rfl := oi h
     obtain ⟨g1, g2⟩ := Qbd hl
     refine ⟨by simp [g1], fun j y hy => ?_⟩
     cases j with
     | zero => simp at hy; subst hy; exact ⟨v, rfl, hv⟩
     | succ j => simpa using g2 j y (by simpa using hy)
    ·cases h
   ·cases h
theorem Q1fo (h : Bk rows ids key lp rout u) (D : Duo B G pl rows ids lp w w' plc pl' rout) {k : Nat} {s : RowS} {x : Row} (hk : k < rout.length) (hs : rowsOf rout (k + 1) = some s) (hok : rowOk (rowsOf rout) s.row)
  (hx : Qj (Q1f key 1 ids rout.length) rows lp s.row = some x) (v : Nat) : RowR w' (bkPl pl pl' ids key rout.length) (updAll rows u) (gmap ids key k) ⟨v, x⟩ := by
 have hR := D.rowr _ _ hs
 have hloc := h.loc pl pl' hk
 obtain ⟨n, row⟩ := s
 cases row with
 | gone => cases hx; trivial
 | arr p t l =>
   simp only [Qj] at hx
   split at hx
   ·rename_i p' hp
    cases hx
    obtain ⟨g1, g2⟩ := hR
    refine ⟨Qbf h D hp g1, ?_⟩
    rw [hloc]
    cases hlr : pl'.loc (k + 1) with
    | none => rw [hlr] at g2; exact g2
    | some bo =>
      obtain ⟨b, o⟩ := bo
      rw [hlr] at g2
      obtain ⟨arr, Te, fr, e1, e2, e3, e4⟩ := g2
      refine ⟨arr, Te, fr, e1, e2, e3, fun _ j y hy => ?_⟩
      obtain ⟨es, q1, q2⟩ := e4 hok j y hy
      exact ⟨es, Qn (fun b hb => Qnc h D hp hb) (fun _ _ => rfl) q1, q2⟩
   ·cases hx
 | vars l =>
   simp only [Qj] at hx
   split at hx
   ·rename_i l' hl
    cases hx
    obtain ⟨g1, b, arr, Te, fr, e0, e1, e2, e3, e4⟩ := hR
    obtain ⟨f1, f2⟩ := Qbd hl
    have ok : okPV.okAll (rowsOf rout) l = true := hok
    refine ⟨Qco fun y hy => ?_, b, arr, Te, fr, hloc.trans e0, e1, by rw [f1]; exact e2, e3, fun j y hy => ?_⟩
    ·obtain ⟨j, hj⟩ := List.getElem?_of_mem hy
     obtain ⟨z, z1, z2⟩ := f2 j y hj
     obtain ⟨c, q1, q2, q3⟩ := e4 j z z1
     exact (bk_vr h D z2 (Qq g1 z (List.mem_of_getElem? z1)) (q3 (Q25 ok z (List.mem_of_getElem? z1)))).1
    ·obtain ⟨z, z1, z2⟩ := f2 j y hy
     obtain ⟨c, q1, q2, q3⟩ := e4 j z z1
     exact ⟨c, q1, q2, fun _ => (bk_vr h D z2 (Qq g1 z (List.mem_of_getElem? z1)) (q3 (Q25 ok z (List.mem_of_getElem? z1)))).2⟩
   ·cases hx
 | mp it p kt vt bx l tk =>
   simp only [Qj] at hx
   split at hx
   ·rename_i p' hp
    cases hx
    have hhid := h.hid pl pl' hk
    obtain ⟨g1, g2, b, es1, st, bs, e1, e2, e4, e5, e6, e7, e8⟩ := hR
    exact ⟨Qbf h D hp g1, g2, b, es1, st, bs, hloc.trans e1, e2.frame (fun x hx => ⟨by rw [hhid]; exact hx, rfl⟩) rfl,
     e4.frame (fun _ => ⟨hok, fun b hb => ⟨Qnc h D hp hb, rfl⟩⟩) (fun _ _ => rfl), e5, e6, e7, fun x hx => by rw [hhid]; exact e8 x hx⟩
   ·cases hx
theorem Q15w {env : Env} {a : Act} {nt : Nat} (h : Bk rows ids key lp rout u) (D : Duo B G pl rows ids lp w w' plc pl' rout) (R : Rel B G pl ⟨env, rows⟩ a w) (hn : nt ≤ a.tmps.size) (hB : B ≤ w.heap.size)
  (hok : ∀ i s, rowsOf rout i = some s → rowOk (rowsOf rout) s.row) {dst : Option Nat} {v : PV} {x : Value} (hm : Men (updAll rows u) v) (hv : VR w' (bkPl pl pl' ids key rout.length) (updAll rows u) v x) :
  Rel B G (bkPl pl pl' ids key rout.length) ⟨putDst nt env dst (some v), updAll rows u⟩ (a.put dst x) w' := by
 have S := Qbn h D
 refine R.stepM S ((Q3m a dst x).trans R.defers) (Qb5 R hn ⟨fun y e => by cases e; exact ⟨hm, fun _ => hv⟩, fun e => by cases e⟩) ?_ ?_ ?_
 ·intro r s' hr hne
  rcases h.cases pl pl' r with ⟨k, sk, y, e, hk, g1, g2, g3, g4, g5⟩ | ⟨_, g1, g2⟩
  ·rw [hr] at g4
   cases g4
   subst e
   exact Q1fo h D hk g1 (hok _ _ g1) g2 _
  ·rw [g1] at hr; exact absurd hr hne
 ·rcases h.cases pl pl' 0 with ⟨k, sk, y, e, hk, g1, g2, g3, g4, g5⟩ | ⟨_, g1, g2⟩
  ·exfalso
   have hk0 := h.key0
   by_cases h1 : k < ids.length
   ·rw [gmap, List.getElem?_eq_getElem h1] at e
    simp only at e
    exact h.here _ (List.getElem_mem h1) (by rw [← e]; exact h.zero)
   ·rw [gmap, List.getElem?_eq_none (by omega)] at e
    simp only at e
    omega
  ·rw [g1]; exact h.zero
 ·intro r s b o h1 l1 h2
  rcases h.cases pl pl' r with ⟨j, sj, z, ej, hj, f1, f2, f3, f4, f5⟩ | ⟨f0, f1, f2⟩
  ·rw [h1] at f4
   cases f4
   rw [ej, h.at pl pl' hj] at h2
   have lj : sj.live := fun e' => l1 ((Q2h f2).2 e')
   obtain ⟨q1, q2, q3⟩ := D.cown _ _ b o f1 lj h2
   refine .inr ⟨⟨q1, fun hz => q2 (D.left b (.inl hz)), ?_⟩, fun r' s' o' h1' l1' h2' => ?_⟩
   ·rcases q3 with q | ⟨r0, s0, o0, p1, p2, p3, p4⟩
    ·exact .inl (Nat.le_trans hB q)
    ·exact (D.own r0 s0 b o0 p1 p2 p3).2.2
   ·rcases h.cases pl pl' r' with ⟨k, sk, y, ek, hk, g1, g2, g3, g4, g5⟩ | ⟨g0, g1, g2⟩
    ·rw [h1'] at g4
     cases g4
     rw [ek, h.at pl pl' hk] at h2'
     have := D.cinj _ _ _ _ b o' o g1 (fun e' => l1' ((Q2h g2).2 e')) f1 lj h2' h2
     have hjk : k = j := by omega
     rw [ej, ek, hjk]
    ·rw [g1] at h1'
     have h2'' : pl.at r' b o' := by
      unfold Pl.at at h2' ⊢
      rw [g2, Q2i pl pl' g0] at h2'
      exact h2'
     refine absurd (D.left b (.inr ⟨rfl, r', s', o', h1', l1', h2'', fun hm => ?_⟩)) q2
     obtain ⟨k, hk⟩ := List.getElem?_of_mem hm
     exact g0 k (Nat.lt_of_lt_of_le (List.getElem?_eq_some_iff.1 hk).1 h.long) (Qis hk)
  ·refine .inl ⟨s, o, by rw [f1] at h1; exact h1, l1, ?_⟩
   unfold Pl.at at h2 ⊢
   rw [f2, Q2i pl pl' f0] at h2
   exact h2
end
mutual
theorem Q176 {rows : Rows} : ∀ {v : PV}, Men rows v → ProvIn rows (Qcy v)
 | .val _ _ _, h => h
 | .pvl _ _ _ _ _, h => h
 | .nils, _ => Qa _
 | .nilp, _ => Qa _
 | .lit _, _ => Qa _
 | .und, _ => Qa _
 | .rw _, _ => Qa _
 | .rs _ _ _, _ => Qa _
 | .ptr _ _, _ => Qa _
 | .pel _ _ _, _ => Qa _
 | .fn _ l, h => Q2c (l := l) h
 | .agg l, h => Q2c (l := l) h
 | .tup l, h => Q2c (l := l) h
theorem Q2c {rows : Rows} : ∀ {l : List PV}, Mens rows l → ProvIn rows (Qcy.provsAll l)
 | [], _ => Qa _
 | v :: l, h => ProvIn.append (Q176 (v := v) h.1) (Q2c (l := l) h.2)
end
theorem Q1cr {w : World} {pl : Pl} {rows : Rows} {ids : List Nat} {vs : List PV} (hm : Mens rows vs) (hr : ∀ r s, rows r = some s → RowR w pl rows r s) : ProvIn rows (lentOf rows ids vs) := by
 intro q hq
 have hq' := (List.mem_filter.1 (Q4i hq)).1
 rcases List.mem_append.1 hq' with h | h
 ·exact Q2c hm q h
 ·obtain ⟨r, _, h⟩ := List.mem_flatMap.1 h
  unfold Qsu at h
  split at h
  ·rename_i n p t l hs
   exact (hr _ _ hs).1 q h
  ·rename_i n l hs
   exact Q2c (hr _ _ hs).1 q h
  ·rename_i hs
   exact (hr _ _ hs).1 q h
  ·cases h
def LentL (pl : Pl) (rows : Rows) (ids : List Nat) (lp : Prov) (b : Nat) : Prop :=
 (pl.Z b → pl.L b ∧ ∃ q ∈ lp, q.1 = 0) ∧ ∀ r s o, rows r = some s → s.live → pl.at r b o → r ∉ ids → ∃ q ∈ lp, q.1 = r
theorem Qor {w : World} {pl : Pl} {rows : Rows} {ids : List Nat} {rs : List RowS} {lp : Prov} (h : Pk (some lp) rows ids rs) (h0 : rows 0 = none) {p : Prov} {b : Nat} (hc : covers (some lp) (Qe 1 ids) p = true) (hs : Safe w pl rows p b) : LentL pl rows ids lp b := by
 obtain ⟨_, h2, h3⟩ := hs
 have out : ∀ q ∈ p, q.1 ∉ ids → ∃ z ∈ lp, z.1 = q.1 := by
  intro q hq hn
  have := List.all_eq_true.1 hc q hq
  rw [Bool.or_eq_true] at this
  rcases this with h' | h'
  ·obtain ⟨i, hi⟩ := Option.isSome_iff_exists.1 h'
   obtain ⟨k, _, _, _, hk, _⟩ := h.found (pl := pl) (Z := pl.Z) (L := pl.L) hi
   exact absurd (List.mem_of_getElem? hk) hn
  ·obtain ⟨z, z1, z2⟩ := List.any_eq_true.1 h'
   exact ⟨z, z1, by simpa using z2⟩
 have nz : 0 ∉ ids := fun hm => by
  obtain ⟨k, hk⟩ := List.getElem?_of_mem hm
  obtain ⟨s, _, g1, _⟩ := h.get k 0 hk
  rw [h0] at g1; cases g1
 refine ⟨fun hz => ?_, fun r s o hr hl hloc hm => ?_⟩
 ·obtain ⟨hL, q, hq, e⟩ := h2 hz
  obtain ⟨z, z1, z2⟩ := out q hq (by rw [e]; exact nz)
  exact ⟨hL, z, z1, z2.trans e⟩
 ·obtain ⟨q, hq, e⟩ := h3 r s o hr hl hloc
  obtain ⟨z, z1, z2⟩ := out q hq (by rw [e]; exact hm)
  exact ⟨z, z1, z2.trans e⟩
noncomputable def tupVal (vs : List Value) : Value := match vs with
 | [x] => x
 | vs => .tuple vs.toArray
def Good (P : Program) (g : Nat) (ws : List PV) (rs : List RowS) (Φ : List PV → List RowS → Prop) : Prop :=
 ∀ (C : Ctx) (pl : Pl) (us : List Value), C.Ok → C.n = rs.length → pl.Z = C.Z → pl.L = C.L → (∀ i, 1 ≤ i → i ≤ C.n → C.loc0 i = pl.loc i) →
   Rel C.B C.G pl ⟨fun _ => none, rowsOf rs⟩ ⟨#[], []⟩ C.w0 → Mens (rowsOf rs) ws → okPV.okAll (rowsOf rs) ws = true → VRs C.w0 pl (rowsOf rs) ws us →
   Calls P g us.toArray C.w0 fun e w' => ∃ res rout vs pl', Φ res rout ∧ e = .returned (tupVal vs) ∧ Inv C 0 pl' ⟨fun _ => none, rowsOf rout⟩ ⟨#[], []⟩ w' ∧ (∀ i s, rowsOf rout i = some s → rowOk (rowsOf rout) s.row) ∧
    Mens (rowsOf rout) res ∧ VRs w' pl' (rowsOf rout) res vs
def Q1o (P : Program) (g : Nat) : Prop := ∃ fn c, P.funcs[g]? = some fn ∧ fn.body = some c ∧ fn.name ≠ "runtime.NumGoroutine"
theorem Q177 {P : Program} {o : Oper} {c : Call} {f : Operand} {g : Nat} {caps : Array Value} {a : Act} {w : World} (hg : Q1o P g) (ho : o.op = .call c) (hc : c.callee = .value f) (hf : a.eval f = .func (.func g) #[] caps) :
  (execOp a.eval o).run P w = .ok (.enter g (c.args.map a.eval ++ caps)) w := by
 have e : execOp a.eval o = (do let d ← resolve a.eval c o.type; invoke d.target d.args) := by simp only [execOp, ho]
 obtain ⟨fn, b, h1, h2, h3⟩ := hg
 rw [e]
 unfold resolve
 rw [hc]
 simp [Deferred.ofValue, hf, invoke, callFunc, h1, h2, h3]
theorem Q1x {P : Program} {g : Nat} {us : Array Value} {w : World} {R R' : Ending → World → Prop} (h : Calls P g us w R) (hr : ∀ e w', R e w' → R' e w') : Calls P g us w R' :=
 fun cs => let ⟨e, w', fr, h1, h2⟩ := h cs; ⟨e, w', fr, hr e w' h1, h2⟩
section
variable {P : Program} {C : Ctx} {nt : Nat} {T : TT} {modes : Nat → List Mode} {R : Type} {callK : Nat → List PV → List RowS → (List PV → List RowS → Oq R) → Oq R}
theorem Qu2 {w : World} {pl : Pl} {rows : Rows} {vs : List PV} {us : List Value} (h : VRs w pl rows vs us) (hm : Mens rows vs) :
  Men rows (oneOf vs) ∧ VR w pl rows (oneOf vs) (tupVal us) := by
 match vs, h with
 | [], h =>
   have h' : us = [] := h
   subst h'
   exact ⟨trivial, #[], [], [], rfl, rfl, rfl⟩
 | [v], h =>
   obtain ⟨u, us', rfl, h1, h2⟩ := h
   have h2' : us' = [] := h2
   subst h2'
   exact ⟨hm.1, h1⟩
 | v :: v2 :: l, h =>
   have h0 := h
   obtain ⟨u, us', rfl, h1, u2, us2, rfl, h2⟩ := h
   exact ⟨hm, (u :: u2 :: us2).toArray, u :: u2 :: us2, [], rfl, by simp, h0⟩
theorem Q8x (hT : TTok P T) (hC : C.Ok) (hcall : ∀ g ws rs K r, callK g ws rs K = some r → Q1o P g ∧ Good P g ws rs (fun res rout => K res rout = some r))
  {pl : Pl} {σ : St} {a : Act} {w : World} (I : Inv C nt pl σ a w) {key : Nat} (h0 : key ≠ 0) {o : Oper} {K : St → Oq R} {r : R} (h : doOp T modes nt callK key o σ K = some r) {next : Act → World → Prop} {Q : Exit → Act → World → Prop}
  (hK : ∀ σ' pl' u w', K σ' = some r → Inv C nt pl' σ' (a.put o.dst u) w' → Step w pl σ.rows w' pl' σ'.rows → next (a.put o.dst u) w') : o.wp P a w next Q := by
 have plain : ∀ {out : Out}, opOut T key o.op (look σ) σ.rows = some out → isFree σ.rows key = true → (bif out.ok then K ⟨putDst nt σ.env o.dst out.v, updAll σ.rows out.upd⟩ else none) = some r → o.wp P a w next Q := by
  intro out ho hfree h
  have hk : σ.rows key = none := by
   unfold isFree at hfree
   split at hfree
   ·assumption
   ·cases hfree
  cases hok : out.ok with
  | false => rw [hok] at h; cases h
  | true =>
    rw [hok] at h
    obtain ⟨pl', w', u, hrun, S, q, Rl⟩ := Q171 hT I.rel I.nt (I.zlt hC) I.size hk h0 ho hok
    have I' := I.next S q Rl (by rw [Q1p]; exact I.nt)
    have := hK _ _ _ _ h I' S
    unfold Oper.wp
    rcases hrun with hrun | ⟨rfl, hrun⟩
    ·rw [hrun]; exact this
    ·rw [hrun]; exact this
 unfold doOp at h
 split at h
 ·rename_i f as ats ho
  split at h
  ·rename_i g caps vs hf hvs
   split at h
   ·rename_i p hp
    obtain ⟨hcl, hgood⟩ := hcall _ _ _ _ _ h
    obtain ⟨m1, v1, _⟩ := I.rel.look hf
    obtain ⟨m2, v2, k2⟩ := Q45 I.rel hvs
    obtain ⟨cs, e1, e2⟩ := v1
    unfold prep at hp
    split at hp
    ·rename_i vs1 rows1 k1 hco
     obtain ⟨pl1, S1, R1, c1, _⟩ := Q1k I.size (modes g) I.rel (I.zlt hC) h0 (CRs.of (Q7c m2 m1) (Q3t v2 e2)) hco
     have I1 := I.next (env' := σ.env) (a' := a) S1 (Quiet.refl w) R1 I.nt
     split at hp
     ·rename_i ws rs ids hpk
      obtain rfl := oi hp
      obtain ⟨p1, p2, p3⟩ := Qcv hpk
      simp only [if_true] at p1 p2
      have hok2 := Q26 p2
      obtain ⟨n1, n2⟩ := c1.out
      have hlent := Q1cr (w := w) (pl := pl1) (ids := ids) n1 R1.rows
      generalize hlp : lentOf rows1 ids vs1 = lp at *
      have hZ : ∀ b, (pl1.Z b ∨ Left (some lp) pl1 rows1 ids b) → pl1.Z b ∨ Left (some lp) pl1 rows1 ids b := fun b hb => hb
      have hL : ∀ (p : Prov) (b : Nat), covers (some lp) (Qe 1 ids) p = true → Safe w pl1 rows1 p b → (pl1.Z b ∨ Left (some lp) pl1 rows1 ids b) → LentL pl1 rows1 ids lp b := fun p b hc hs _ => Qor p1 R1.zero hc hs
      obtain ⟨q1, q2, q3⟩ := Qao (Z := fun b => pl1.Z b ∨ Left (some lp) pl1 rows1 ids b) (L := LentL pl1 rows1 ids lp) p1 R1.zero hZ hL p2 n1 (n2 hok2)
      have R2 := Q14d (B' := w.heap.size) (G' := fun b => ∃ r s o, rows1 r = some s ∧ s.live ∧ pl1.at r b o ∧ r ∈ ids) R1 p1 hZ hL (fun r s b o hr hl hloc hm => .inr ⟨r, s, o, hr, hl, hloc, hm⟩)
      have R3 : Rel w.heap.size (fun b => ∃ r s o, rows1 r = some s ∧ s.live ∧ pl1.at r b o ∧ r ∈ ids) (pkPl pl1 ids (fun b => pl1.Z b ∨ Left (some lp) pl1 rows1 ids b) (LentL pl1 rows1 ids lp)) ⟨fun _ => none, rowsOf rs⟩ ⟨#[], []⟩ w :=
       ⟨fun s v hv => (by cases hv), R2.rows, R2.zero, R2.inj, R2.own, rfl⟩
      have hcalls := hgood ⟨w.heap.size, fun b => ∃ r s o, rows1 r = some s ∧ s.live ∧ pl1.at r b o ∧ r ∈ ids, fun b => pl1.Z b ∨ Left (some lp) pl1 rows1 ids b, LentL pl1 rows1 ids lp, rs.length, (pkPl pl1 ids (fun b => pl1.Z b ∨ Left (some lp) pl1 rows1 ids b) (LentL pl1 rows1 ids lp)).loc, w⟩
       (pkPl pl1 ids (fun b => pl1.Z b ∨ Left (some lp) pl1 rows1 ids b) (LentL pl1 rows1 ids lp)) _
       ⟨fun b hb => by
        rcases hb with hb | ⟨_, r0, s0, o0, f1, f2, f3, _⟩
        ·exact Nat.lt_of_lt_of_le (I1.zlt hC b hb) I.size
        ·exact (R1.own r0 s0 b o0 f1 f2 f3).1, rfl⟩ rfl rfl rfl (fun _ _ _ => rfl) R3 q1 q2 q3
      have hrun := Q177 (w := w) hcl ho rfl e1
      unfold Oper.wp
      rw [hrun]
      have hargs : (List.map a.eval as.toList ++ cs.toList).toArray = as.map a.eval ++ cs := by
       apply Array.ext'; simp
      rw [hargs] at hcalls
      refine Q1x hcalls fun e w' hpost => ?_
      obtain ⟨res, rout, rvs, plr, hres, rfl, Ic, rok, rm, rv⟩ := hpost
      dsimp only at hres
      split at hres
      ·rename_i out hout
       split at hres
       ·rename_i hfree
        cases hok : out.ok with
        | false => rw [hok] at hres; cases hres
        | true =>
          rw [hok] at hres
          simp only [cond_true] at hres
          unfold done at hout
          dsimp only at hout hfree
          split at hout
          ·rename_i bvs ok u hb hbr
           obtain rfl := oi hout
           simp only at hok hfree hres
           obtain ⟨b1, b2⟩ := Q9p hbr
           have hlong : ids.length ≤ rout.length := by
            rw [← p1.len]
            rcases Nat.eq_zero_or_pos rs.length with e | e
            ·omega
            ·obtain ⟨s, g1, _⟩ := Ic.given rs.length (by omega) (Nat.le_refl _)
             simp only at g1
             rw [Q1b, if_neg (by omega)] at g1
             have := (List.getElem?_eq_some_iff.1 g1).1
             omega
           have hbk : Bk rows1 ids (key + 1) lp rout u := by
            refine ⟨hlent, by omega, R1.zero, p1.nodup, hlong, fun id hid => ?_, b1, fun k s hk => ?_, fun k hk1 hk2 => ?_⟩
            ·obtain ⟨j, hj⟩ := List.getElem?_of_mem hid
             obtain ⟨s, x, g1, _⟩ := p1.get j id hj
             rw [g1]; simp
            ·obtain ⟨g, x, bb, f1, f2, f3, f4, f5⟩ := b2 k s hk
             have hkl := (List.getElem?_eq_some_iff.1 hk).1
             have := Q3j (ids := ids) (key := key + 1) (i := 1) hkl
             rw [f1] at this
             cases this
             have hbt := f4 hok
             subst hbt
             exact ⟨x, f2, f3, f5⟩
            ·obtain ⟨g, x, bb, f1, f2, f3, f4, f5⟩ := b2 k _ (List.getElem?_eq_getElem hk2)
             have := Q3j (ids := ids) (key := key + 1) (i := 1) hk2
             rw [f1] at this
             cases this
             exact Q78 hfree k _ f5 hk1
           have hD : Duo C.B C.G pl1 rows1 ids lp w w' (pkPl pl1 ids (fun b => pl1.Z b ∨ Left (some lp) pl1 rows1 ids b) (LentL pl1 rows1 ids lp)) plr rout := by
            refine ⟨fun r s b o h1 h2 h3 => R1.own r s b o h1 h2 h3, fun b hb => ?_, fun b hz hl => ?_, fun r s b o h1 h2 h3 => Ic.rel.own r s b o h1 h2 h3, Ic.rel.inj, fun k id s hk hs hl => ?_, Ic.rel.rows, Ic.size, Ic.keep, Ic.blk⟩
            ·rw [Ic.z]; exact hb
            ·rw [Ic.l] at hl; exact hl
            ·have hkl : k < rs.length := by
              rw [p1.len]; exact (List.getElem?_eq_some_iff.1 hk).1
             obtain ⟨s', g1, g2⟩ := Ic.given (k + 1) (by omega) (by simp only; omega)
             simp only at g1
             rw [hs] at g1
             cases g1
             rw [g2 hl]
             simp [pkPl, hk]
           obtain ⟨bm, bv⟩ := Qjp hbk hD hb rm rv
           obtain ⟨fm, fv⟩ := Qu2 bv bm
           have Sd := Qbn hbk hD
           have Rd := Q15w (dst := o.dst) hbk hD I1.rel I1.nt I1.size rok fm fv
           have Id := I1.next Sd Ic.quiet Rd (by rw [Q1p]; exact I1.nt)
           exact hK _ _ _ _ hres Id (S1.trans' Sd)
          ·cases hout
       ·cases hres
      ·cases hres
     ·cases hp
    ·cases hp
   ·cases h
  ·cases h
 ·rename_i x ho
  split at h
  ·rename_i r hx
   split at h
   ·rename_i n p kt vt bx l hr
    obtain ⟨i, w', u, hi, hrun, S, q, Rl⟩ := Qtq (o := o) I.rel I.nt (I.zlt hC) I.size ho hx hr
    have I' := I.next S q Rl (by rw [Q1p]; exact I.nt)
    have := hK _ _ _ _ (Q4c.1 h i hi) I' S
    unfold Oper.wp
    rw [hrun]; exact this
   ·cases h
  ·cases h
 ·rename_i op hop
  split at h
  ·rename_i out hout
   split at h
   ·rename_i hfree
    exact plain hout hfree h
   ·cases h
  ·cases h
end
end Go.Proofs.YtecnlienmpdlaaaGreat.PM
