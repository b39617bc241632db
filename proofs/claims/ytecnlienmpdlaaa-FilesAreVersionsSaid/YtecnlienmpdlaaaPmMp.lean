/- The small machine PM is sound: maps. What changes the blocks that a map holds, and going over a map. -/
import Derived.Test.YtecnlienmpdlaaaPmX
import Derived.Maps.RangeRun
import Derived.MapKept
set_option linter.unusedSimpArgs false
set_option linter.unusedVariables false
namespace Go.Proofs.Ytecnlienmpdlaaa.PM
open Go

section
variable {P : Program} {B nt : Nat} {G : Nat → Prop} {pl pl' : Pl} {σ : St} {a : Act} {w w' : World} {T : TT}

/-- From one state to the next, the rows that change told by a predicate. -/
theorem Rel.alter (R : Rel B G pl σ a w) (hn : nt ≤ a.tmps.size) (hZ : ∀ b, pl.Z b → b < B) (hB : B ≤ w.heap.size) {rows' : Rows} (chg : Nat → Prop)
    (z : pl'.Z = pl.Z) (l : pl'.L = pl.L) (hsz : w.heap.size ≤ w'.heap.size)
    (same : ∀ r, ¬ chg r → rows' r = σ.rows r ∧ pl'.loc r = pl.loc r ∧ pl'.hid r = pl.hid r)
    (kin : ∀ r s, chg r → σ.rows r = some s → ∃ s', rows' r = some s' ∧ Kin s s' ∧ s' ≠ s ∧ (s'.live → pl'.loc r = pl.loc r))
    (src : ∀ r s b o, chg r → rows' r = some s → s.live → pl'.at r b o → (w.heap.size ≤ b ∧ b < w'.heap.size) ∨ ∃ r0 s0 o0, chg r0 ∧ σ.rows r0 = some s0 ∧ s0.live ∧ pl.at r0 b o0)
    (uni : ∀ r r' s s' b o o', chg r → chg r' → rows' r = some s → s.live → rows' r' = some s' → s'.live → pl'.at r b o → pl'.at r' b o' → r = r')
    (heap : ∀ b, b < w.heap.size → (∀ r s o, chg r → σ.rows r = some s → s.live → ¬ pl.at r b o) → w'.heap[b]? = w.heap[b]?)
    (blk : ∀ (b : Nat) (arr : Array Value) (T : TypeId) (fr : Nat × Nat), w.heap[b]? = some (Obj.cells arr T fr) → ∃ (arr' : Array Value) (T' : TypeId) (fr' : Nat × Nat), w'.heap[b]? = some (Obj.cells arr' T' fr') ∧ arr'.size = arr.size)
    (hz : rows' 0 = none)
    (hrow : Step w pl σ.rows w' pl' rows' → ∀ r s, chg r → rows' r = some s → RowR w' pl' rows' r s)
    {dst : Option Nat} {ov : Option PV} {u : Value}
    (hv : Step w pl σ.rows w' pl' rows' → (∀ v, ov = some v → Men rows' v ∧ (okPV rows' v = true → VR w' pl' rows' v u)) ∧ (ov = none → u = undef)) :
    Step w pl σ.rows w' pl' rows' ∧ Rel B G pl' ⟨putDst nt σ.env dst ov, rows'⟩ (a.put dst u) w' := by
  have at_same : ∀ {r b o}, ¬ chg r → pl'.at r b o → pl.at r b o := by
    intro r b o hc h
    obtain ⟨_, e1, e2⟩ := same r hc
    unfold Pl.at at h ⊢
    rw [← e1, ← e2]; exact h
  have S : Step w pl σ.rows w' pl' rows' := by
    refine ⟨z, l, hsz, fun r s hr => ?_, fun r s h1 h2 hl => ?_, fun r s' h1 hl b o h2 => ?_, fun b hb h => ?_, blk, R.zero⟩
    · by_cases hc : chg r
      · obtain ⟨s', e1, e2, _, e3⟩ := kin r s hc hr
        exact ⟨s', e1, e2, e3⟩
      · obtain ⟨e0, e1, _⟩ := same r hc
        exact ⟨s, e0.trans hr, Kin.refl s, fun _ => e1⟩
    · by_cases hc : chg r
      · obtain ⟨s', e1, _, e2, _⟩ := kin r s hc h1
        rw [h2] at e1
        exact absurd (Option.some.inj e1).symm e2
      · exact (same r hc).2.2
    · by_cases hc : chg r
      · rcases src r s' b o hc h1 hl h2 with h | ⟨r0, s0, o0, g1, g2, g3, g4⟩
        · exact .inr (.inl h.1)
        · obtain ⟨s1, e1, _, e2, _⟩ := kin r0 s0 g1 g2
          exact .inr (.inr ⟨r0, s0, s1, o0, g2, g3, e1, e2, g4⟩)
      · exact .inl ⟨s', o, (same r hc).1 ▸ h1, hl, at_same hc h2⟩
    · refine heap b hb fun r s o hc hr hl ha => ?_
      have := h r s o hr hl ha
      obtain ⟨s', e1, _, e2, _⟩ := kin r s hc hr
      rw [this] at e1
      exact e2 (Option.some.inj e1).symm
  refine ⟨S, R.stepM S ((defers_put a dst u).trans R.defers) (henv_put R hn (hv S)) (fun r s' h1 h2 => ?_) hz fun r s b o h1 hl h2 => ?_⟩
  · by_cases hc : chg r
    · exact hrow S r s' hc h1
    · exact absurd ((same r hc).1 ▸ h1) h2
  · by_cases hc : chg r
    · rcases src r s b o hc h1 hl h2 with ⟨h3, h4⟩ | ⟨r0, s0, o0, g1, g2, g3, g4⟩
      · refine .inr ⟨⟨h4, fun hzb => by have := hZ b hzb; omega, .inl (by omega)⟩, fun r' s' o' h1' hl' h2' => ?_⟩
        by_cases hc' : chg r'
        · exact uni r' r s' s b o' o hc' hc h1' hl' h1 hl h2' h2
        · have := (R.own r' s' b o' ((same r' hc').1 ▸ h1') hl' (at_same hc' h2')).1
          omega
      · obtain ⟨q1, q2, q3⟩ := R.own r0 s0 b o0 g2 g3 g4
        refine .inr ⟨⟨Nat.lt_of_lt_of_le q1 hsz, q2, q3⟩, fun r' s' o' h1' hl' h2' => ?_⟩
        by_cases hc' : chg r'
        · exact uni r' r s' s b o' o hc' hc h1' hl' h1 hl h2' h2
        · have := R.inj r' r0 s' s0 b o' o0 ((same r' hc').1 ▸ h1') hl' g2 g3 (at_same hc' h2') g4
          subst this
          exact absurd g1 hc'
    · exact .inl ⟨s, o, (same r hc).1 ▸ h1, hl, at_same hc h2⟩

end
theorem allOf_iff {R : Type} {m : Nat} {f : Nat → Option R} {r : R} : allOf m f = some r ↔ ∀ i, i ≤ m → f i = some r := by
  unfold allOf
  constructor
  · intro h
    split at h
    · rename_i hr
      obtain ⟨r', hr⟩ := hr
      have := hr 0 (Nat.zero_le _)
      rw [h] at this
      cases this
      exact hr
    · cases h
  · intro h
    rw [if_pos ⟨r, h⟩]
    exact h 0 (Nat.zero_le _)
section
variable {P : Program} {B nt : Nat} {G : Nat → Prop} {pl pl' : Pl} {σ : St} {a : Act} {w w' : World} {T : TT}
/-! ### what a map holds -/
theorem FldR_cells {S : Nat → Prop} {ok : Prop} : ∀ {t : Ty} {x : t.D} {cs : List Value} {bs : List Nat}, FldR w S ok t x cs bs → ∀ b ∈ bs, ∃ (arr : Array Value) (T : TypeId) (fr : Nat × Nat), w.heap[b]? = some (Obj.cells arr T fr) := by
  intro t
  induction t with
  | int k => intro x cs bs h b hb; rw [h.1] at hb; cases hb
  | bool => intro x cs bs h b hb; rw [h.1] at hb; cases hb
  | str => intro x cs bs h b hb; rw [h.1] at hb; cases hb
  | unit => intro x cs bs h b hb; rw [h.1] at hb; cases hb
  | slice t _ =>
    intro x cs bs h b hb
    obtain ⟨u, loc, h1, h2, h3, h4, h5⟩ := h
    subst h5
    cases loc with
    | none => cases hb
    | some bo =>
      obtain ⟨b', o⟩ := bo
      simp at hb
      subst hb
      obtain ⟨arr, T, fr, g, _⟩ := h3
      exact ⟨arr, T, fr, g⟩
  | prod a b iha ihb =>
    intro x cs bs h c hc
    obtain ⟨c1, c2, b1, b2, h1, h2, h3, h4⟩ := h
    subst h2
    rcases List.mem_append.1 hc with hc | hc
    · exact iha h3 c hc
    · exact ihb h4 c hc
theorem HV_cells {S : Nat → Prop} {ok : Prop} {bx : Bool} {t : Ty} {x : t.D} {u : Value} {bs : List Nat} (h : HV w S ok bx t x u bs) : ∀ b ∈ bs, ∃ (arr : Array Value) (T : TypeId) (fr : Nat × Nat), w.heap[b]? = some (Obj.cells arr T fr) := by
  cases bx with
  | false => exact FldR_cells h
  | true =>
    obtain ⟨b, bs', arr, T, fr, h1, h2, h3, h4, h5, h6⟩ := h
    subst h2
    intro c hc
    rcases List.mem_cons.1 hc with rfl | hc
    · exact ⟨arr, T, fr, h3⟩
    · exact FldR_cells h6 c hc
theorem Ents_cells {S : Nat → Prop} {ok : Prop} {kt vt : Ty} {bx : Bool} : ∀ {l : List (kt.D × vt.D)} {es : List MapEntry} {bs : List Nat}, Ents w S ok kt vt bx l es bs → ∀ b ∈ bs, ∃ (arr : Array Value) (T : TypeId) (fr : Nat × Nat), w.heap[b]? = some (Obj.cells arr T fr)
  | [], es, bs, h, b, hb => by rw [h.2] at hb; cases hb
  | (k, v) :: l, es, bs, h, b, hb => by
    obtain ⟨e, es', b1, b2, h1, h2, h3, h4, h5⟩ := h
    subst h2
    rcases List.mem_append.1 hb with hb | hb
    · exact HV_cells h4 b hb
    · exact Ents_cells h5 b hb
theorem Ents_at {S : Nat → Prop} {ok : Prop} {kt vt : Ty} {bx : Bool} : ∀ {l : List (kt.D × vt.D)} {es : List MapEntry} {bs : List Nat}, Ents w S ok kt vt bx l es bs → ∀ (i : Nat) (k : kt.D) (v : vt.D), l[i]? = some (k, v) →
    ∃ e bk bs', es[i]? = some e ∧ KeyR w kt k e.key ∧ HV w S ok bx vt v e.val bk ∧ Ents w S ok kt vt bx (l.eraseIdx i) (es.eraseIdx i) bs' ∧ bs.Perm (bk ++ bs')
  | [], es, bs, h, i, k, v, hi => by simp at hi
  | (k0, v0) :: l, es, bs, h, i, k, v, hi => by
    obtain ⟨e, es', b1, b2, h1, h2, h3, h4, h5⟩ := h
    subst h1
    subst h2
    cases i with
    | zero =>
      simp only [List.getElem?_cons_zero, Option.some.injEq, Prod.mk.injEq] at hi
      obtain ⟨rfl, rfl⟩ := hi
      exact ⟨e, b1, b2, rfl, h3, h4, h5, List.Perm.refl _⟩
    | succ i =>
      obtain ⟨e1, bk, bs', g1, g2, g3, g4, g5⟩ := Ents_at h5 i k v (by simpa using hi)
      refine ⟨e1, bk, b1 ++ bs', by simpa using g1, g2, g3, ⟨e, _, b1, bs', rfl, rfl, h3, h4, g4⟩, ?_⟩
      have : (b1 ++ b2).Perm (b1 ++ (bk ++ bs')) := List.Perm.append_left b1 g5
      refine this.trans ?_
      rw [← List.append_assoc, ← List.append_assoc]
      exact List.Perm.append_right bs' List.perm_append_comm
theorem Ents_append {S : Nat → Prop} {ok : Prop} {kt vt : Ty} {bx : Bool} : ∀ {l l2 : List (kt.D × vt.D)} {es es2 : List MapEntry} {bs bs2 : List Nat}, Ents w S ok kt vt bx l es bs → Ents w S ok kt vt bx l2 es2 bs2 → Ents w S ok kt vt bx (l ++ l2) (es ++ es2) (bs ++ bs2)
  | [], l2, es, es2, bs, bs2, h, h2 => by rw [h.1, h.2]; exact h2
  | (k, v) :: l, l2, es, es2, bs, bs2, h, h2 => by
    obtain ⟨e, es', b1, b2, h3, h4, h5, h6, h7⟩ := h
    subst h3
    subst h4
    exact ⟨e, es' ++ es2, b1, b2 ++ bs2, rfl, by simp, h5, h6, Ents_append h7 h2⟩
theorem Ents_mono {S S' : Nat → Prop} {ok ok' : Prop} (hf : ok' → ok ∧ ∀ b, S b → S' b) {kt vt : Ty} {bx : Bool} {l : List (kt.D × vt.D)} {es : List MapEntry} {bs : List Nat} (h : Ents w S ok kt vt bx l es bs) : Ents w S' ok' kt vt bx l es bs :=
  h.frame (fun hk => ⟨(hf hk).1, fun b hb => ⟨(hf hk).2 b hb, rfl⟩⟩) fun _ _ => rfl

theorem erase_at {α : Type} [DecidableEq α] : ∀ {l : List α} {i : Nat} {x : α}, l[i]? = some x → l.Perm (x :: l.eraseIdx i)
  | [], i, x, h => by simp at h
  | y :: l, 0, x, h => by
    simp only [List.getElem?_cons_zero, Option.some.injEq] at h
    subst h
    exact List.Perm.refl _
  | y :: l, i + 1, x, h => by
    have := erase_at (l := l) (i := i) (x := x) (by simpa using h)
    exact (List.Perm.cons y this).trans (List.Perm.swap x y _)
theorem erase_at' {α : Type} : ∀ {l : List α} {i : Nat} {x : α}, l[i]? = some x → l.Perm (x :: l.eraseIdx i)
  | [], i, x, h => by simp at h
  | y :: l, 0, x, h => by
    simp only [List.getElem?_cons_zero, Option.some.injEq] at h
    subst h
    exact List.Perm.refl _
  | y :: l, i + 1, x, h => by
    have := erase_at' (l := l) (i := i) (x := x) (by simpa using h)
    exact (List.Perm.cons y this).trans (List.Perm.swap x y _)

theorem bring_perm {α : Type} (i : Nat) (l : List α) : (bring i l).Perm l := by
  unfold bring
  split
  · rename_i x hx
    exact (erase_at' hx).symm
  · exact List.Perm.refl _

theorem ne_block {w : World} {x b : Nat} {o : Obj} (h : ∃ (arr : Array Value) (T : TypeId) (fr : Nat × Nat), w.heap[x]? = some (Obj.cells arr T fr)) (hb : w.heap[b]? = some o) (ho : ∀ arr T fr, o ≠ .cells arr T fr) : x ≠ b := by
  rintro rfl
  obtain ⟨arr, T, fr, h⟩ := h
  rw [hb] at h
  exact ho _ _ _ (Option.some.inj h)

theorem notSeen_push {es : Array MapEntry} {seen : Array Nat} {c : MapEntry} {rest : List MapEntry} (hn : (es.toList.map (·.born)).Nodup) (h : (notSeen es seen).toList.Perm (c :: rest)) : (notSeen es (seen.push c.born)).toList.Perm rest := by
  have e1 : (notSeen es (seen.push c.born)).toList = ((notSeen es seen).toList).filter (fun e => decide (e.born ≠ c.born)) := by
    unfold notSeen
    simp only [Array.toList_filter, List.filter_filter]
    congr 1
    funext e
    simp only [Array.contains_push]
    by_cases hc : e.born = c.born
    · cases seen.contains e.born <;> simp [hc]
    · have : (e.born == c.born) = false := by simpa using hc
      cases seen.contains e.born <;> simp [hc, this]
  rw [e1]
  have hnd : ((notSeen es seen).toList.map (·.born)).Nodup := by
    unfold notSeen
    rw [Array.toList_filter]
    exact hn.sublist (List.Sublist.map _ List.filter_sublist)
  have h2 := h.filter (fun e => decide (e.born ≠ c.born))
  refine h2.trans ?_
  have hnd2 : ((c :: rest).map (·.born)).Nodup := (List.Perm.nodup_iff (h.map _)).1 hnd
  rw [List.map_cons, List.nodup_cons] at hnd2
  rw [List.filter_cons_of_neg (by simp)]
  rw [List.filter_eq_self.2 (fun x hx => by
    simp only [ne_eq, decide_eq_true_eq]
    intro e
    exact hnd2.1 (e ▸ List.mem_map.2 ⟨x, hx, rfl⟩))]

/-- A step over a map. -/
theorem next_sound (R : Rel B G pl σ a w) (hn : nt ≤ a.tmps.size) (hZ : ∀ b, pl.Z b → b < B) (hB : B ≤ w.heap.size) {o : Oper} {x : Operand} (ho : o.op = .next x false) {r n : Nat} {p : Prov} {kt vt : Ty} {bx : Bool} {l : List (kt.D × vt.D)}
    (hx : look σ x = some (.ptr r 0)) (hr : σ.rows r = some ⟨n, .mp 1 p kt vt bx l none⟩) :
    ∃ i w' u, i ≤ l.length ∧ (execOp a.eval o).run P w = .ok (.value u) w' ∧ Step w pl σ.rows w' pl (upd σ.rows r (some ⟨n + 1, .mp 2 p kt vt bx (bring i l) none⟩)) ∧ Quiet w w' ∧
      Rel B G pl ⟨putDst nt σ.env o.dst (some (.tup [mb (!l.isEmpty)])), upd σ.rows r (some ⟨n + 1, .mp 2 p kt vt bx (bring i l) none⟩)⟩ (a.put o.dst u) w' := by
  obtain ⟨g1, g2, b, es1, st, bs, e1, e2, e4, e5, e6, e7, e8⟩ := R.rows _ _ hr
  obtain ⟨hst, bm, es, clock, seen, m1, m2, m3, m4, m5, m6⟩ := e2
  have m6 : (notSeen es seen).toList.Perm es1 := m6
  have r0 : r ≠ 0 := by rintro rfl; rw [R.zero] at hr; cases hr
  have hlv : RowS.live ⟨n, .mp 1 p kt vt bx l none⟩ := by simp [RowS.live]
  obtain ⟨b', k1, k2⟩ := (R.look hx).2.1.1.2.2 _ _ _ _ _ _ _ _ hr
  rw [e1] at k1
  obtain rfl : b = b' := by cases k1; rfl
  have hbs : ∀ x ∈ bs, x ≠ b := fun x hx => ne_block (Ents_cells e4 x hx) m1 (by simp)
  have hbm : bm ≠ b := by
    rintro rfl
    rw [m1] at m3; cases m3
  have hexec : execOp a.eval o = (do let v ← Instr.next (a.eval x) false o.type; pure (.value v)) := by simp only [execOp, ho]
  have key : ∀ (i : Nat) (w' : World) (u : Value) (es2 : List MapEntry) (bs2 : List Nat) (o' : Obj), i ≤ l.length → (execOp a.eval o).run P w = .ok (.value u) w' → w'.heap.size = w.heap.size → Quiet w w' → (∀ c, c ≠ b → w'.heap[c]? = w.heap[c]?) →
      Ents w (Safe w pl σ.rows p) (okProv σ.rows p = true) kt vt bx (bring i l) es2 bs2 → bs2.Perm bs → MapAt w' pl r 2 b es2 [] → VR w pl σ.rows (.tup [mb (!l.isEmpty)]) u →
      ∃ i w' u, i ≤ l.length ∧ (execOp a.eval o).run P w = .ok (.value u) w' ∧ Step w pl σ.rows w' pl (upd σ.rows r (some ⟨n + 1, .mp 2 p kt vt bx (bring i l) none⟩)) ∧ Quiet w w' ∧
        Rel B G pl ⟨putDst nt σ.env o.dst (some (.tup [mb (!l.isEmpty)])), upd σ.rows r (some ⟨n + 1, .mp 2 p kt vt bx (bring i l) none⟩)⟩ (a.put o.dst u) w' := by
    intro i w' u es2 bs2 o' hi hrun hsz hq hh hents hperm hmap hvr
    obtain ⟨S, Q⟩ := R.alter (nt := nt) (w' := w') (pl' := pl) (rows' := upd σ.rows r (some ⟨n + 1, .mp 2 p kt vt bx (bring i l) none⟩)) (dst := o.dst) (ov := some (.tup [mb (!l.isEmpty)])) (u := u) hn hZ hB (· = r) rfl rfl (by omega)
      (fun x hx => ⟨by rw [upd_at, if_neg hx], rfl, rfl⟩)
      (fun x s hx hs => by
        subst hx
        rw [hr] at hs
        cases hs
        exact ⟨_, by rw [upd_at, if_pos rfl], ⟨by simp, .inr (.inr (.inr (.inr ⟨_, _, _, _, _, _, _, _, _, _, _, rfl, rfl, by simp, by simp⟩)))⟩, by simp, fun _ => rfl⟩)
      (fun x s c o hx hs hl ha => .inr ⟨r, _, o, rfl, hr, hlv, hx ▸ ha⟩)
      (fun x x' s s' c o o' hx hx' _ _ _ _ _ _ => hx.trans hx'.symm)
      (fun c hc h => hh c fun e => h r _ 0 rfl hr hlv (.inl (e ▸ e1)))
      (fun c arr Te fr hc => ⟨arr, Te, fr, (hh c (ne_block ⟨arr, Te, fr, hc⟩ m1 (by simp))).trans hc, rfl⟩)
      (by rw [upd_at, if_neg (Ne.symm r0)]; exact R.zero)
      (fun S x s hx hs => by
        subst hx
        rw [upd_at, if_pos rfl] at hs
        cases hs
        refine ⟨S.provIn g1, g2, b, es2, [], bs2, e1, hmap, ?_, rfl, ?_, ?_, fun x hx => e8 x (hperm.mem_iff.1 hx)⟩
        · exact hents.frame (fun hok => ⟨S.okProv g1 hok, fun b hb => S.safe g1 hok hb⟩) fun x hx => hh x (hbs x (hperm.mem_iff.1 hx))
        · have := (bring_perm i l).map (·.1)
          simp only [keysOf, Option.map_none, Option.toList_none, List.append_nil] at e6 ⊢
          exact (List.Perm.nodup_iff this).2 e6
        · exact (List.Perm.nodup_iff hperm).2 e7)
      (fun S => ⟨fun v ev => by
        cases ev
        exact ⟨⟨men_bool _ _, trivial⟩, fun _ => hvr⟩, fun ev => by cases ev⟩)
    exact ⟨i, w', u, hi, hrun, S, hq, Q⟩
  rcases run_next_at (P := P) w o.type b bm clock clock seen es clock m1 m3 m4 (Nat.le_refl _) with ⟨h1, h2⟩ | ⟨e, he, w1, hw1, h2⟩
  · have hnil : (notSeen es seen).toList = [] := by
      have : (notSeen es seen).size = 0 := h1
      simpa using this
    have hes1 : es1 = [] := by
      rw [hnil] at m6
      exact List.Perm.nil_eq m6 ▸ rfl
    have hl0 : l = [] := by
      have := Ents_len e4
      rw [hes1] at this
      exact List.length_eq_zero_iff.1 this.symm
    subst hl0
    refine key 0 w (.tuple #[.bool false]) es1 bs (.mapIter (some bm) clock seen clock) (Nat.zero_le _) ?_ rfl (Quiet.refl w) (fun _ _ => rfl) e4 (List.Perm.refl _) ⟨rfl, bm, es, clock, seen, m1, m2, m3, m4, m5, .inl ⟨hes1, hnil⟩⟩ ⟨#[.bool false], [.bool false], [], rfl, rfl, _, [], rfl, rfl, rfl⟩
    rw [hexec, k2]
    simp [h2]
  · have hmem : e ∈ es1 := m6.mem_iff.1 he
    obtain ⟨i, hi⟩ := List.getElem?_of_mem hmem
    have hil : i < l.length := by
      have := (List.getElem?_eq_some_iff.1 hi).1
      rw [Ents_len e4] at this; exact this
    obtain ⟨⟨k, v⟩, hkv⟩ : ∃ q, l[i]? = some q := ⟨_, List.getElem?_eq_getElem hil⟩
    obtain ⟨e', bk, bs', f1, f2, f3, f4, f5⟩ := Ents_at e4 i k v hkv
    rw [hi] at f1
    cases f1
    have hb1 : bring i l = (k, v) :: l.eraseIdx i := by simp [bring, hkv]
    have heap1 : w1.heap = w.heap := by rcases hw1 with rfl | rfl <;> rfl
    have q1 : Quiet w w1 := by rcases hw1 with rfl | rfl <;> exact ⟨rfl, rfl, rfl⟩
    have hblt : b < w.heap.size := (Array.getElem?_eq_some_iff.1 m1).1
    have hne : l.isEmpty = false := by cases l with
      | nil => simp at hil
      | cons y l => rfl
    have heap' : ∀ c, c ≠ b → (ChangeMaps.setBlock w1 b (.mapIter (some bm) clock (seen.push e.born) clock)).heap[c]? = w.heap[c]? := by
      intro c hc
      simp only [ChangeMaps.setBlock, heap1]
      rw [Array.getElem?_setIfInBounds, if_neg (Ne.symm hc)]
    refine key i (ChangeMaps.setBlock w1 b (.mapIter (some bm) clock (seen.push e.born) clock)) (.tuple #[.bool true, e.key, e.val]) (e :: es1.eraseIdx i) (bk ++ bs') (.mapIter (some bm) clock seen clock) (Nat.le_of_lt hil) ?_ (by simp [ChangeMaps.setBlock, heap1])
      (q1.trans ⟨rfl, rfl, rfl⟩) heap' ?_ f5.symm ?_ ?_
    · rw [hexec, k2]
      simp [h2]
    · rw [hb1]
      exact ⟨e, _, bk, bs', rfl, rfl, f2, f3, f4⟩
    · refine ⟨rfl, bm, es, clock, seen.push e.born, ?_, m2, (heap' bm hbm).trans m3, m4, m5, .inr ⟨e, _, rfl, ?_, ?_, seen, rfl⟩⟩
      · simp only [ChangeMaps.setBlock, heap1]
        rw [Array.getElem?_setIfInBounds, if_pos rfl, if_pos hblt]
      · exact notSeen_push m5 (m6.trans (erase_at' hi))
      · have : e ∈ (notSeen es seen).toList := he
        unfold notSeen at this
        rw [Array.toList_filter] at this
        exact (List.mem_filter.1 this).1
    · rw [hne]
      exact ⟨_, [.bool true], [e.key, e.val], rfl, rfl, _, [], rfl, rfl, rfl⟩
end
end Go.Proofs.Ytecnlienmpdlaaa.PM
