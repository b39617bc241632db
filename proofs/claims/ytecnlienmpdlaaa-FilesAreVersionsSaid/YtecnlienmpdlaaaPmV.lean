/- The small machine PM is sound, fourth part: operations that make or write memory. -/
import Derived.Test.YtecnlienmpdlaaaPmU
import Derived.Laws.MakeOwn
import Derived.Laws.IdiomCopy
set_option linter.unusedSimpArgs false
set_option linter.unusedVariables false
namespace Go.Proofs.Ytecnlienmpdlaaa.PM
open Go

/-- The world's other parts stay. -/
structure Quiet (w w' : World) : Prop where
  os : w'.os = w.os
  tape : w'.tape = w.tape
  output : w'.output = w.output
theorem Quiet.refl (w : World) : Quiet w w := ⟨rfl, rfl, rfl⟩
theorem Quiet.trans {a b c : World} (h : Quiet a b) (k : Quiet b c) : Quiet a c := ⟨k.os.trans h.os, k.tape.trans h.tape, k.output.trans h.output⟩

noncomputable def Pl.put (pl : Pl) (key : Nat) (kl : Option (Nat × Nat)) : Pl := ⟨upd pl.loc key kl, pl.Z, pl.L, fun r b => r ≠ key ∧ pl.hid r b⟩
theorem hid_put (pl : Pl) {key : Nat} (kl : Option (Nat × Nat)) {x : Nat} (h : x ≠ key) : (pl.put key kl).hid x = pl.hid x := by
  funext b
  simp [Pl.put, h]
theorem hid_key (pl : Pl) (key : Nat) (kl : Option (Nat × Nat)) (b : Nat) : ¬ (pl.put key kl).hid key b := fun h => h.1 rfl
theorem loc_put (pl : Pl) (key : Nat) (kl : Option (Nat × Nat)) (x : Nat) : (pl.put key kl).loc x = if x = key then kl else pl.loc x := by
  simp [Pl.put, upd]
theorem upd_at {β : Type} (f : Nat → β) (a x : Nat) (b : β) : upd f a b x = if x = a then b else f x := by simp [upd]

section
variable {P : Program} {B nt : Nat} {G : Nat → Prop} {pl pl' : Pl} {σ : St} {a : Act} {w w' : World} {T : TT}

theorem Kin.refl (s : RowS) : Kin s s := ⟨Nat.le_refl _, .inl rfl⟩

theorem Step.refl (w : World) (pl : Pl) {rows : Rows} (h0 : rows 0 = none) : Step w pl rows w pl rows :=
  ⟨rfl, rfl, Nat.le_refl _, fun r s hr => ⟨s, hr, Kin.refl s, fun _ => rfl⟩, fun _ _ _ _ _ => rfl, fun r s' h1 h2 b o h3 => .inl ⟨s', o, h1, h2, h3⟩, fun b _ _ => rfl, fun b arr T fr h => ⟨arr, T, fr, h, rfl⟩, h0⟩

/-- What an operation does: to slots, rows and memory. -/
def Goes (P : Program) (B nt : Nat) (G : Nat → Prop) (pl : Pl) (σ : St) (a : Act) (w : World) (o : Oper) (out : Out) : Prop :=
  ∃ pl' w' u, RunsTo P o a w u w' ∧ Step w pl σ.rows w' pl' (updAll σ.rows out.upd) ∧ Quiet w w' ∧ Rel B G pl' ⟨putDst nt σ.env o.dst out.v, updAll σ.rows out.upd⟩ (a.put o.dst u) w'

theorem Still.goes {o : Oper} {out : Out} (R : Rel B G pl σ a w) (hn : nt ≤ a.tmps.size) (h : Still P pl σ.rows a w o out) : Goes P B nt G pl σ a w o out := by
  obtain ⟨h1, v, h2, h3, u, h4, h5⟩ := h
  refine ⟨pl, w, u, h4, ?_, Quiet.refl w, ?_⟩
  · rw [h1]; exact Step.refl w pl R.zero
  · rw [h1, h2]; exact R.put hn o.dst h3 h5

/-- Rows that stay, or go. -/
def Wane (rows rows1 : Rows) : Prop := ∀ x, rows1 x = rows x ∨ ∃ s n, rows x = some s ∧ (∀ l, s.row ≠ .vars l) ∧ s.ver ≤ n ∧ rows1 x = some ⟨n, .gone⟩

theorem Wane.refl (rows : Rows) : Wane rows rows := fun _ => .inl rfl
theorem Wane.one {rows : Rows} {r n : Nat} {p : Prov} {t : Ty} {l : List t.D} (h : rows r = some ⟨n, .arr p t l⟩) : Wane rows (upd rows r (some ⟨n, .gone⟩)) := by
  intro x
  rw [upd_at]
  by_cases e : x = r
  · subst e; rw [if_pos rfl]; exact .inr ⟨_, n, h, by simp, Nat.le_refl _, rfl⟩
  · rw [if_neg e]; exact .inl rfl

/-- A block of a row that has gone. -/
def Freed (pl : Pl) (rows rows1 : Rows) (b : Nat) : Prop := ∃ r s0 n o0, rows r = some s0 ∧ s0.live ∧ rows1 r = some ⟨n, .gone⟩ ∧ pl.loc r = some (b, o0)

theorem grow_step {rows rows1 : Rows} {key : Nat} {s : RowS} {kl : Option (Nat × Nat)} (h0 : rows 0 = none) (hk : rows key = none) (hw : Wane rows rows1)
    (hsz : w.heap.size ≤ w'.heap.size) (heap : ∀ b, b < w.heap.size → w'.heap[b]? = w.heap[b]? ∨ Freed pl rows rows1 b)
    (blk : ∀ (b : Nat) (arr : Array Value) (T : TypeId) (fr : Nat × Nat), w.heap[b]? = some (Obj.cells arr T fr) → ∃ (arr' : Array Value) (T' : TypeId) (fr' : Nat × Nat), w'.heap[b]? = some (Obj.cells arr' T' fr') ∧ arr'.size = arr.size)
    (hloc : ∀ b o, kl = some (b, o) → w.heap.size ≤ b ∨ Freed pl rows rows1 b) :
    Step w pl rows w' (pl.put key kl) (upd rows1 key (some s)) := by
  have ne : ∀ {x : Nat} {s0 : RowS}, rows x = some s0 → x ≠ key := fun h e => by subst e; rw [hk] at h; cases h
  have fd : ∀ {b : Nat}, Freed pl rows rows1 b → ∃ r s0 n o0, rows r = some s0 ∧ s0.live ∧ upd rows1 key (some s) r = some ⟨n, .gone⟩ ∧ pl.loc r = some (b, o0) := by
    rintro b ⟨r, s0, n, o0, g1, g2, g3, g4⟩
    exact ⟨r, s0, n, o0, g1, g2, by rw [upd_at, if_neg (ne g1)]; exact g3, g4⟩
  refine Step.mk0 rfl rfl hsz (fun r s0 hr => ?_) (fun r hr => hid_put pl kl (fun e => hr (e ▸ hk))) (fun r s' h1 h2 _ b h3 => ?_) (fun r s' h1 h2 _ b o h3 => ?_) (fun b hb h => ?_) blk h0
  · have hne := ne hr
    rw [upd_at, if_neg hne, loc_put, if_neg hne]
    rcases hw r with e | ⟨s1, n, e1, e2, e3, e4⟩
    · exact ⟨s0, e.trans hr, Kin.refl s0, fun _ => rfl⟩
    · rw [hr] at e1
      obtain rfl := Option.some.inj e1
      exact ⟨_, e4, ⟨e3, .inr (.inl ⟨rfl, e2⟩)⟩, fun _ => rfl⟩
  · rw [upd_at] at h2
    by_cases e : r = key
    · exact h3.1 e
    · rw [if_neg e] at h2
      rcases hw r with e' | ⟨s1, n, e1, _⟩
      · rw [e', h1] at h2; cases h2
      · rw [h1] at e1; cases e1
  · rw [upd_at] at h2
    rw [loc_put] at h3
    by_cases e : r = key
    · rw [if_pos e] at h3
      rcases hloc b o h3 with h | h
      · exact .inl h
      · exact .inr (fd h)
    · rw [if_neg e] at h2
      rcases hw r with e' | ⟨s1, n, e1, _⟩
      · rw [e', h1] at h2; cases h2
      · rw [h1] at e1; cases e1
  · rcases heap b hb with e | hf
    · exact e
    · obtain ⟨r, s0, n, o0, g1, g2, g3, g4⟩ := fd hf
      have := h r s0 o0 g1 g2 (.inl g4)
      rw [g3] at this
      obtain rfl := Option.some.inj this
      exact absurd rfl g2

/-- From one state to the next, with a slot put. -/
theorem henv_put (R : Rel B G pl σ a w) (hn : nt ≤ a.tmps.size) {rows' : Rows} {dst : Option Nat} {ov : Option PV} {u : Value}
    (hv : (∀ v, ov = some v → Men rows' v ∧ (okPV rows' v = true → VR w' pl' rows' v u)) ∧ (ov = none → u = undef)) :
    ∀ s v, putDst nt σ.env dst ov s = some v → (σ.env s = some v ∧ s < (a.put dst u).tmps.size ∧ (a.put dst u).tmps.getD s undef = a.tmps.getD s undef) ∨
      (s < (a.put dst u).tmps.size ∧ Men rows' v ∧ (okPV rows' v = true → VR w' pl' rows' v ((a.put dst u).tmps.getD s undef))) := by
  intro s v h
  rw [size_put]
  cases dst with
  | none =>
    exact .inl ⟨h, (R.env s v h).1, rfl⟩
  | some d =>
    have other : ∀ {x : Option PV}, upd σ.env d x s = some v → s ≠ d → σ.env s = some v ∧ s < a.tmps.size ∧ (a.put (some d) u).tmps.getD s undef = a.tmps.getD s undef := by
      intro x h hs
      rw [upd_at, if_neg hs] at h
      refine ⟨h, (R.env s v h).1, ?_⟩
      by_cases hd : d < a.tmps.size
      · rw [getD_put a d s u hd, if_neg hs]
      · have : a.put (some d) u = a := by simp [Act.put, Array.setIfInBounds, hd]
        rw [this]
    have same : ∀ {x : Option PV}, upd σ.env d (if d < nt then x else none) s = some v → s = d → d < nt ∧ x = some v := by
      intro x h hs
      rw [upd_at, if_pos hs] at h
      by_cases hlt : d < nt
      · rw [if_pos hlt] at h; exact ⟨hlt, h⟩
      · rw [if_neg hlt] at h; cases h
    cases ov with
    | none =>
      by_cases hs : s = d
      · obtain ⟨h1, h2⟩ := same (x := some .und) h hs
        obtain rfl := Option.some.inj h2
        subst hs
        refine .inr ⟨by omega, trivial, fun _ => ?_⟩
        rw [getD_put a s s u (by omega), if_pos rfl, hv.2 rfl]
        rfl
      · exact .inl (other h hs)
    | some x =>
      by_cases hs : s = d
      · obtain ⟨h1, h2⟩ := same (x := some x) h hs
        subst hs
        obtain ⟨g1, g2⟩ := hv.1 v h2
        refine .inr ⟨by omega, g1, fun hk => ?_⟩
        rw [getD_put a s s u (by omega), if_pos rfl]
        exact g2 hk
      · exact .inl (other h hs)

theorem Rel.grow (R : Rel B G pl σ a w) (hn : nt ≤ a.tmps.size) (hZ : ∀ b, pl.Z b → b < B) (hB : B ≤ w.heap.size) {rows1 : Rows} {key : Nat} {s : RowS} {kl : Option (Nat × Nat)} (hk : σ.rows key = none) (h0 : key ≠ 0) (hw : Wane σ.rows rows1)
    (hsz : w.heap.size ≤ w'.heap.size) (heap : ∀ b, b < w.heap.size → w'.heap[b]? = w.heap[b]? ∨ Freed pl σ.rows rows1 b)
    (blk : ∀ (b : Nat) (arr : Array Value) (T : TypeId) (fr : Nat × Nat), w.heap[b]? = some (Obj.cells arr T fr) → ∃ (arr' : Array Value) (T' : TypeId) (fr' : Nat × Nat), w'.heap[b]? = some (Obj.cells arr' T' fr') ∧ arr'.size = arr.size)
    (hloc : ∀ b o, kl = some (b, o) → b < w'.heap.size ∧ (w.heap.size ≤ b ∨ Freed pl σ.rows rows1 b))
    (hrow : Step w pl σ.rows w' (pl.put key kl) (upd rows1 key (some s)) → RowR w' (pl.put key kl) (upd rows1 key (some s)) key s)
    {dst : Option Nat} {ov : Option PV} {u : Value}
    (hv : Step w pl σ.rows w' (pl.put key kl) (upd rows1 key (some s)) → (∀ v, ov = some v → Men (upd rows1 key (some s)) v ∧ (okPV (upd rows1 key (some s)) v = true → VR w' (pl.put key kl) (upd rows1 key (some s)) v u)) ∧ (ov = none → u = undef)) :
    Step w pl σ.rows w' (pl.put key kl) (upd rows1 key (some s)) ∧ Rel B G (pl.put key kl) ⟨putDst nt σ.env dst ov, upd rows1 key (some s)⟩ (a.put dst u) w' := by
  have S := grow_step (s := s) R.zero hk hw hsz heap blk (fun b o h => (hloc b o h).2)
  refine ⟨S, ?_⟩
  have old : ∀ {x : Nat} {s1 : RowS}, x ≠ key → upd rows1 key (some s) x = some s1 → s1.live → σ.rows x = some s1 ∧ rows1 x = some s1 := by
    intro x s1 hx h hl
    rw [upd_at, if_neg hx] at h
    rcases hw x with e | ⟨s2, n, e1, e2, e3, e4⟩
    · exact ⟨e ▸ h, h⟩
    · rw [e4] at h
      obtain rfl := Option.some.inj h
      exact absurd rfl hl
  have clash : ∀ {x : Nat} {s1 : RowS} {b o o' : Nat}, x ≠ key → upd rows1 key (some s) x = some s1 → s1.live → (pl.put key kl).at x b o → kl = some (b, o') → False := by
    intro x s1 b o o' hx h hl h1 h2
    obtain ⟨e1, e2⟩ := old hx h hl
    replace h1 : pl.at x b o := by
      rcases h1 with h1 | h1
      · rw [loc_put, if_neg hx] at h1; exact .inl h1
      · exact .inr h1.2
    rcases (hloc b o' h2).2 with h3 | ⟨r, s0, n, o0, g1, g2, g3, g4⟩
    · have := (R.own x s1 b o e1 hl h1).1
      omega
    · obtain rfl := R.inj r x s0 s1 b o0 o g1 g2 e1 hl (.inl g4) h1
      rw [e2] at g3
      obtain rfl := Option.some.inj g3
      exact hl rfl
  have isnew : ∀ {x : Nat} {s1 : RowS}, upd rows1 key (some s) x = some s1 → σ.rows x = none → x = key := by
    intro x s1 h h1
    by_cases e : x = key
    · exact e
    · rw [upd_at, if_neg e] at h
      rcases hw x with e' | ⟨s2, n, e1, _⟩
      · rw [e', h1] at h; cases h
      · rw [h1] at e1; cases e1
  refine R.step S (fun r hr => hid_put pl kl (fun e => hr (e ▸ hk))) (fun r s1 h1 h2 _ b h3 => h3.1 (isnew h2 h1)) ((defers_put a dst u).trans R.defers) (henv_put R hn (hv S)) ?_ ?_ ?_ ?_ ?_
  · intro r s' hr hne
    by_cases e : r = key
    · subst e
      rw [upd_at, if_pos rfl] at hr
      obtain rfl := Option.some.inj hr
      exact hrow S
    · rw [upd_at, if_neg e] at hr
      rcases hw r with e' | ⟨s2, n, e1, e2, e3, e4⟩
      · exact absurd (e' ▸ hr) hne
      · rw [e4] at hr
        obtain rfl := Option.some.inj hr
        exact trivial
  · rw [upd_at, if_neg (Ne.symm h0)]
    rcases hw 0 with e | ⟨s2, n, e1, _⟩
    · exact e.trans R.zero
    · rw [R.zero] at e1; cases e1
  · intro r r' s1 s2 b o o' h1 l1 h2 l2 h3 h4 h5 h6
    have e := isnew h2 h6
    subst e
    rw [loc_put, if_pos rfl] at h4
    exact clash (fun e => by subst e; exact h5 hk) h1 l1 h3 h4
  · intro r r' s1 s2 b o o' h1 l1 h2 l2 h3 h4 h5 h6
    rw [isnew h1 h5, isnew h2 h6]
  · intro r s1 b o h1 l1 h2 h3
    have e := isnew h1 h3
    subst e
    rw [loc_put, if_pos rfl] at h2
    obtain ⟨g1, g2⟩ := hloc b o h2
    refine ⟨g1, ?_⟩
    rcases g2 with g | ⟨r, s0, n, o0, f1, f2, f3, f4⟩
    · exact ⟨fun hz => by have := hZ b hz; omega, .inl (by omega)⟩
    · obtain ⟨_, q2, q3⟩ := R.own r s0 b o0 f1 f2 (.inl f4)
      exact ⟨q2, q3⟩

/-- A row written. -/
theorem write_step {rows : Rows} {r : Nat} {s s' : RowS} (h0 : rows 0 = none) (hr : rows r = some s) (hl : s.live) (hk : Kin s s') (hlt : s.ver < s'.ver)
    (hsz : w'.heap.size = w.heap.size) (heap : ∀ c, (∀ o, pl.loc r ≠ some (c, o)) → w'.heap[c]? = w.heap[c]?)
    (blk : ∀ (b : Nat) (arr : Array Value) (T : TypeId) (fr : Nat × Nat), w.heap[b]? = some (Obj.cells arr T fr) → ∃ (arr' : Array Value) (T' : TypeId) (fr' : Nat × Nat), w'.heap[b]? = some (Obj.cells arr' T' fr') ∧ arr'.size = arr.size) :
    Step w pl rows w' pl (upd rows r (some s')) := by
  refine Step.mk0 rfl rfl (by omega) (fun x s0 hx => ?_) (fun _ _ => rfl) (fun x s1 h1 h2 _ b h3 => ?_) (fun x s1 h1 h2 _ b o h3 => ?_) (fun c hc h => ?_) blk h0
  · rw [upd_at]
    by_cases e : x = r
    · subst e
      rw [hr] at hx
      obtain rfl := Option.some.inj hx
      rw [if_pos rfl]
      exact ⟨s', rfl, hk, fun _ => rfl⟩
    · rw [if_neg e]; exact ⟨s0, hx, Kin.refl s0, fun _ => rfl⟩
  · rw [upd_at] at h2
    by_cases e : x = r
    · subst e; rw [hr] at h1; cases h1
    · rw [if_neg e, h1] at h2; cases h2
  · rw [upd_at] at h2
    by_cases e : x = r
    · subst e; rw [hr] at h1; cases h1
    · rw [if_neg e, h1] at h2; cases h2
  · refine heap c fun o hloc => ?_
    have := h r s o hr hl (.inl hloc)
    rw [upd_at, if_pos rfl] at this
    obtain rfl := Option.some.inj this
    omega

theorem Rel.write (R : Rel B G pl σ a w) (hn : nt ≤ a.tmps.size) {r : Nat} {s s' : RowS} (hr : σ.rows r = some s) (hl : s.live) (hk : Kin s s') (hlt : s.ver < s'.ver)
    (hsz : w'.heap.size = w.heap.size) (heap : ∀ c, (∀ o, pl.loc r ≠ some (c, o)) → w'.heap[c]? = w.heap[c]?)
    (blk : ∀ (b : Nat) (arr : Array Value) (T : TypeId) (fr : Nat × Nat), w.heap[b]? = some (Obj.cells arr T fr) → ∃ (arr' : Array Value) (T' : TypeId) (fr' : Nat × Nat), w'.heap[b]? = some (Obj.cells arr' T' fr') ∧ arr'.size = arr.size)
    (hrow : Step w pl σ.rows w' pl (upd σ.rows r (some s')) → RowR w' pl (upd σ.rows r (some s')) r s')
    {dst : Option Nat} {ov : Option PV} {u : Value}
    (hv : Step w pl σ.rows w' pl (upd σ.rows r (some s')) → (∀ v, ov = some v → Men (upd σ.rows r (some s')) v ∧ (okPV (upd σ.rows r (some s')) v = true → VR w' pl (upd σ.rows r (some s')) v u)) ∧ (ov = none → u = undef)) :
    Step w pl σ.rows w' pl (upd σ.rows r (some s')) ∧ Rel B G pl ⟨putDst nt σ.env dst ov, upd σ.rows r (some s')⟩ (a.put dst u) w' := by
  have S := write_step (s' := s') R.zero hr hl hk hlt hsz heap blk
  refine ⟨S, ?_⟩
  have hold : ∀ {x : Nat} {s1 : RowS}, upd σ.rows r (some s') x = some s1 → σ.rows x ≠ none := by
    intro x s1 h
    rw [upd_at] at h
    by_cases e : x = r
    · subst e; rw [hr]; simp
    · rw [if_neg e] at h; rw [h]; simp
  refine R.step S (fun _ _ => rfl) (fun x s1 h1 h2 _ => absurd h1 (hold h2)) ((defers_put a dst u).trans R.defers) (henv_put R hn (hv S)) ?_ ?_ ?_ ?_ ?_
  · intro x s1 h hne
    rw [upd_at] at h
    by_cases e : x = r
    · subst e
      rw [if_pos rfl] at h
      obtain rfl := Option.some.inj h
      exact hrow S
    · rw [if_neg e] at h; exact absurd h hne
  · rw [upd_at]
    by_cases e : 0 = r
    · subst e; rw [R.zero] at hr; cases hr
    · rw [if_neg e]; exact R.zero
  · intro _ _ _ _ _ _ _ _ _ h2 _ _ _ _ h6
    exact absurd h6 (hold h2)
  · intro _ _ _ _ _ _ _ h1 _ _ _ _ _ h5 _
    exact absurd h5 (hold h1)
  · intro _ _ _ _ h1 _ _ h3
    exact absurd h3 (hold h1)

/-! ### new variables -/
theorem heap_new (w : World) (o : Obj) (b : Nat) (h : b < w.heap.size) : (w.alloc o).heap[b]? = w.heap[b]? := by
  show (w.heap.push o)[b]? = _
  rw [Array.getElem?_push, if_neg (by omega)]
theorem heap_at (w : World) (o : Obj) : (w.alloc o).heap[w.heap.size]? = some o := by
  show (w.heap.push o)[w.heap.size]? = _
  simp
theorem blk_of {w w' : World} (hsz : ∀ b, b < w.heap.size → w'.heap[b]? = w.heap[b]?) : ∀ (b : Nat) (arr : Array Value) (T : TypeId) (fr : Nat × Nat), w.heap[b]? = some (Obj.cells arr T fr) → ∃ (arr' : Array Value) (T' : TypeId) (fr' : Nat × Nat), w'.heap[b]? = some (Obj.cells arr' T' fr') ∧ arr'.size = arr.size := by
  intro b arr Te fr h
  obtain ⟨hb, _⟩ := Array.getElem?_eq_some_iff.1 h
  exact ⟨arr, Te, fr, (hsz b hb).trans h, rfl⟩

/-- A new row of variables. -/
theorem new_vars (R : Rel B G pl σ a w) (hn : nt ≤ a.tmps.size) (hZ : ∀ b, pl.Z b → b < B) (hB : B ≤ w.heap.size) {key : Nat} (hk : σ.rows key = none) (h0 : key ≠ 0) {o : Oper} {l : List PV} {cs : Array Value} {t : TypeId}
    (hv : VRs w pl σ.rows l cs.toList) (hm : Mens σ.rows l) (h1 : ∀ u ∈ cs.toList, u.oneCell' = true)
    (hrun : (execOp a.eval o).run P w = .ok (.value (.pointer (some ⟨w.heap.size, 0, none⟩))) (w.alloc (.cells cs t))) :
    Goes P B nt G pl σ a w o ⟨true, some (.ptr key 0), [(key, ⟨0, .vars l⟩)]⟩ := by
  have hold := fun b hb => heap_new w (.cells cs t) b hb
  obtain ⟨S, Q⟩ := R.grow (w' := w.alloc (.cells cs t)) (rows1 := σ.rows) (s := ⟨0, .vars l⟩) (kl := some (w.heap.size, 0)) (dst := o.dst) (ov := some (.ptr key 0)) (u := .pointer (some ⟨w.heap.size, 0, none⟩)) hn hZ hB hk h0 (Wane.refl _) (by simp)
    (fun b hb => .inl (hold b hb)) (blk_of hold) (fun b o h => by cases h; exact ⟨by simp, .inl (Nat.le_refl _)⟩)
    (fun S => by
      refine ⟨S.mens hm, w.heap.size, cs, t, (0, 0), by rw [loc_put, if_pos rfl], heap_at w _, by simpa using vrs_len hv, .inl rfl, fun j x hx => ?_⟩
      obtain ⟨u, g1, g2⟩ := vrs_get hv j x hx
      exact ⟨u, by simpa using g1, h1 u (List.mem_of_getElem? g1), fun hok => S.vr (mens_mem hm x (List.mem_of_getElem? hx)) hok (fun _ => g2)⟩)
    (fun S => by
      refine ⟨fun v e => ?_, fun e => by cases e⟩
      obtain rfl := Option.some.inj e
      refine ⟨by simp [Men, upd_at], fun _ => ⟨⟨rfl, ⟨_, rfl⟩, fun n i p kt vt bx l' tk hr => (by rw [upd_at, if_pos rfl] at hr; cases hr)⟩, fun n l' hr => ⟨w.heap.size, by rw [loc_put, if_pos rfl], rfl⟩⟩⟩)
  exact ⟨_, _, _, .inl hrun, S, ⟨rfl, rfl, rfl⟩, Q⟩

theorem op_alloc {o : Oper} {t : Nat} {out : Out} {key : Nat} (hT : TTok P T) (R : Rel B G pl σ a w) (hn : nt ≤ a.tmps.size) (hZ : ∀ b, pl.Z b → b < B) (hB : B ≤ w.heap.size) (hk : σ.rows key = none) (h0 : key ≠ 0) (ho : o.op = .alloc t)
    (h : opOut T key o.op (look σ) σ.rows = some out) : Goes P B nt G pl σ a w o out := by
  rw [ho] at h
  simp only [opOut] at h
  split at h
  · rename_i i hi
    split at h
    · rename_i hz
      obtain rfl := Option.some.inj h
      obtain ⟨x, z, f1, f2, f3, f4, f5⟩ := (hT _ _ hi).infos
      obtain ⟨q1, q2, q3⟩ := zeros_vrs w pl σ.rows hz
      refine new_vars (cs := z.cells) (t := t) R hn hZ hB hk h0 (by rw [f5]; exact q1) q2 (by rw [f5]; exact q3) ?_
      have e : execOp a.eval o = (do let v ← Instr.alloc t true (.tuple #[]); pure (.value v)) := by simp only [execOp, ho]
      rw [e]
      simp [Instr.alloc, zeroValue, typeInfo, f1, f4, newVar, newRow]
    · cases h
  · cases h

theorem op_box {o : Oper} {t : Nat} {x : Operand} {out : Out} {key : Nat} (R : Rel B G pl σ a w) (hn : nt ≤ a.tmps.size) (hZ : ∀ b, pl.Z b → b < B) (hB : B ≤ w.heap.size) (hk : σ.rows key = none) (h0 : key ≠ 0) (ho : o.op = .box t x)
    (h : opOut T key o.op (look σ) σ.rows = some out) : Goes P B nt G pl σ a w o out := by
  rw [ho] at h
  simp only [opOut] at h
  split at h
  · rename_i i v hi hx
    split at h
    · rename_i vs hvs
      split at h
      · obtain rfl := Option.some.inj h
        obtain ⟨g1, g2, g3⟩ := R.look hx
        obtain ⟨f1, f2⟩ := vr_cells g2 hvs
        refine new_vars (cs := (a.eval x).cells) (t := t) R hn hZ hB hk h0 f1 (men_cells g1 hvs) f2 ?_
        have e : execOp a.eval o = (do let v ← Instr.box t (a.eval x); pure (.value v)) := by simp only [execOp, ho]
        rw [e]
        simp [Instr.box, newVar, newRow]
      · cases h
    · cases h
  · cases h

/-! ### new rows -/
theorem new_arr (R : Rel B G pl σ a w) (hn : nt ≤ a.tmps.size) (hZ : ∀ b, pl.Z b → b < B) (hB : B ≤ w.heap.size) {key : Nat} (hk : σ.rows key = none) (h0 : key ≠ 0) {rows1 : Rows} (hw : Wane σ.rows rows1)
    {ty : Ty} {l : List ty.D} {p : Prov} {cs : Array Value} {t : TypeId} {fr : Nat × Nat} {cap : Nat} (hp : ProvIn σ.rows p)
    (hsz : w'.heap.size = w.heap.size + 1) (hold : ∀ b, b < w.heap.size → w'.heap[b]? = w.heap[b]?) (hnew : w'.heap[w.heap.size]? = some (.cells cs t fr)) (hfr : UnfrozenT ty fr cs.size)
    (hc : ∀ (i : Nat) (x : ty.D), l[i]? = some x → ∃ es, RD w (Safe w pl σ.rows p) ty x es ∧ ∀ (j : Nat) (v : Value), es[j]? = some v → cs[i * ty.size + j]? = some v)
    (hcap : l.length ≤ cap) (hfit : cap * ty.size ≤ cs.size) (hc63 : cap ≤ 9223372036854775807) (dst : Option Nat) :
    ∃ pl', Step w pl σ.rows w' pl' (upd rows1 key (some ⟨0, .arr p ty l⟩)) ∧
      Rel B G pl' ⟨putDst nt σ.env dst (some (.rw key)), upd rows1 key (some ⟨0, .arr p ty l⟩)⟩ (a.put dst (.slice (some ⟨w.heap.size, 0, none⟩) l.length cap)) w' := by
  have hlen : l.length * ty.size ≤ cs.size := Nat.le_trans (Nat.mul_le_mul_right _ hcap) hfit
  refine ⟨pl.put key (some (w.heap.size, 0)), R.grow (w' := w') (rows1 := rows1) (s := ⟨0, .arr p ty l⟩) (kl := some (w.heap.size, 0)) (dst := dst) (ov := some (.rw key)) hn hZ hB hk h0 hw (by omega)
    (fun b hb => .inl (hold b hb)) (blk_of hold) (fun b o h => by cases h; exact ⟨by omega, .inl (Nat.le_refl _)⟩) (fun S => ?_) (fun S => ?_)⟩
  · refine ⟨S.provIn hp, ?_⟩
    rw [loc_put, if_pos rfl]
    refine ⟨cs, t, fr, hnew, by omega, hfr, fun hok i x hx => ?_⟩
    obtain ⟨es, g1, g2⟩ := hc i x hx
    refine ⟨es, S.rd hp hok g1, fun j v hj => ?_⟩
    rw [add_at]
    simp only [World.cell?, hnew, Nat.zero_add]
    simpa using g2 j v hj
  · refine ⟨fun v e => ?_, fun e => by cases e⟩
    obtain rfl := Option.some.inj e
    refine ⟨by simp [Men, upd_at], fun _ => ⟨⟨rfl, fun n p kt vt bx l' tk hr => (by rw [upd_at, if_pos rfl] at hr; cases hr)⟩, fun n p' t' l' hr => ?_⟩⟩
    rw [upd_at, if_pos rfl] at hr
    cases hr
    refine ⟨_, _, rfl, hcap, fun hc => ⟨w.heap.size, 0, by rw [loc_put, if_pos rfl], by simp, cs, t, fr, hnew, by simpa using hfit, hc63⟩⟩

theorem made_at (z : Array Value) (n i j : Nat) (v : Value) (hj : z[j]? = some v) (hi : i * z.size + j < n) : (madeCells z n)[i * z.size + j]? = some v := by
  obtain ⟨h1, h2⟩ := Array.getElem?_eq_some_iff.1 hj
  have hm : (i * z.size + j) % z.size = j := by rw [Nat.add_comm, Nat.add_mul_mod_self_right]; exact Nat.mod_eq_of_lt h1
  simp [madeCells, hi, hm, h1, h2]

theorem zero_rows {t : Nat} {i : TI} {ty : Ty} (hi : TIok P t i) (hty : i.ty = some ty) : ∃ x z, P.info? t = some x ∧ x.size = ty.size ∧ x.bytes = i.bytes ∧ x.zero = some z ∧ z.cells.toList = zeroCells ty ∧ z.cells.size = ty.size := by
  obtain ⟨x, z, f1, f2, f3, f4, f5⟩ := hi.infos
  obtain ⟨e1, e2⟩ := hi.ty ty hty
  refine ⟨x, z, f1, by omega, f3, f4, by rw [f5, e2], ?_⟩
  have := RD_len (zeroCells_rd default (fun _ => True) ty)
  rw [← e2, ← f5] at this
  simpa using this

theorem make_bounds (b : Nat) (m : Int) (h : m ≤ ((LIM b : Nat) : Int)) : (b : Int) * m ≤ 140737488355328 ∧ m ≤ 9223372036854775807 := by
  have hb : LIM b * b ≤ 140737488355328 := Nat.div_mul_le_self _ _
  have h3 : LIM b ≤ 140737488355328 := Nat.div_le_self _ _
  generalize LIM b = L at *
  have h1 : (b : Int) * m ≤ (b : Int) * (L : Int) := Int.mul_le_mul_of_nonneg_left h (by omega)
  have h2 : (b : Int) * (L : Int) ≤ 140737488355328 := by
    have h4 := Int.ofNat_le.2 hb
    rw [Int.natCast_mul] at h4
    rw [Int.mul_comm]; exact h4
  exact ⟨Int.le_trans h1 h2, by omega⟩

theorem op_makeSlice {o : Oper} {t : Nat} {x y : Operand} {out : Out} {key : Nat} (hT : TTok P T) (R : Rel B G pl σ a w) (hn : nt ≤ a.tmps.size) (hZ : ∀ b, pl.Z b → b < B) (hB : B ≤ w.heap.size) (hk : σ.rows key = none) (h0 : key ≠ 0) (ho : o.op = .makeSlice t x y)
    (h : opOut T key o.op (look σ) σ.rows = some out) (hok : out.ok = true) : Goes P B nt G pl σ a w o out := by
  rw [ho] at h
  simp only [opOut] at h
  split at h
  · rename_i e i ty p k n q k' m he hx hy
    obtain rfl := Option.some.inj h
    simp only [Bool.and_eq_true, decide_eq_true_eq] at hok
    obtain ⟨c1, c2, c3⟩ := hok
    replace c1 : (0 : Int) ≤ n := c1
    replace c2 : (n : Int) ≤ m := c2
    replace c3 : (m : Int) ≤ ((LIM i.bytes : Nat) : Int) := c3
    obtain ⟨k1, k2, k3, k4⟩ := elemTy_spec hT he
    obtain ⟨_, g1, _⟩ := R.look hx
    obtain ⟨_, g2, _⟩ := R.look hy
    obtain ⟨f0, z, f1, f2, f3, f4, f5, f6⟩ := zero_rows (hT _ _ k2) k3
    obtain ⟨hmul, h63⟩ := make_bounds i.bytes m c3
    have hnm : Int.toNat n ≤ Int.toNat m := Int.toNat_le_toNat c2
    have hr := run_make (P := P) w t e f0 z k1 f1 f4 k k' n m c1 c2 (by rw [f3]; exact Int.le_trans hmul (by decide)) h63
    obtain ⟨pl', S, Q⟩ := new_arr (w' := w.alloc (.cells (madeCells z.cells (m.toNat * f0.size)) e)) (ty := ty) (l := List.replicate n.toNat ty.zero) (p := []) (cap := m.toNat) R hn hZ hB hk h0 (Wane.refl _) (provIn_nil _) (by simp)
      (fun b hb => heap_new w _ b hb) (heap_at w _) (.inl rfl)
      (fun i x hx => by
        refine ⟨zeroCells ty, ?_, fun j v hj => ?_⟩
        · have : x = ty.zero := (List.mem_replicate.1 (List.mem_of_getElem? hx)).2
          rw [this]; exact zeroCells_rd _ _ _
        · have hj' : z.cells[j]? = some v := by rw [← Array.getElem?_toList, f5]; exact hj
          obtain ⟨q1, _⟩ := Array.getElem?_eq_some_iff.1 hj'
          obtain ⟨q2, _⟩ := List.getElem?_eq_some_iff.1 hx
          have q3 : i < Int.toNat m := by rw [List.length_replicate] at q2; exact Nat.lt_of_lt_of_le q2 hnm
          rw [← f6]
          refine made_at _ _ _ _ _ hj' ?_
          rw [f2, f6]
          rw [f6] at q1
          calc i * ty.size + j < i * ty.size + ty.size := by omega
            _ = (i + 1) * ty.size := by rw [Nat.add_mul, Nat.one_mul]
            _ ≤ m.toNat * ty.size := Nat.mul_le_mul_right _ q3)
      (by rw [List.length_replicate]; exact hnm) (by rw [size_madeCells, f2]; exact Nat.le_refl _) (by omega) o.dst
    refine ⟨pl', _, _, .inl ?_, S, ⟨rfl, rfl, rfl⟩, Q⟩
    have e : execOp a.eval o = (do let v ← Instr.makeSlice t (a.eval x) (a.eval y); pure (.value v)) := by simp only [execOp, ho]
    rw [e, isInt g1, isInt g2]
    simp [hr]
  · cases h
end

/-! ### cells in line -/
/-- These cells, in line, read as a list. -/
def Laid (w : World) (S : Nat → Prop) (ty : Ty) (l : List ty.D) (arr : List Value) : Prop :=
  ∀ (i : Nat) (x : ty.D), l[i]? = some x → ∃ es, RD w S ty x es ∧ ∀ (j : Nat) (v : Value), es[j]? = some v → arr[i * ty.size + j]? = some v

section
variable {w : World} {S S' : Nat → Prop} {ty : Ty}

theorem splice_get {α : Type} (l vs : List α) (off : Nat) (h : off + vs.length ≤ l.length) (k : Nat) :
    (l.take off ++ vs ++ l.drop (off + vs.length))[k]? = if off ≤ k ∧ k < off + vs.length then vs[k - off]? else l[k]? := by
  by_cases h1 : k < off
  · rw [if_neg (by omega), List.append_assoc, List.getElem?_append_left (by simp; omega), List.getElem?_take, if_pos h1]
  · by_cases h2 : k < off + vs.length
    · rw [if_pos ⟨by omega, h2⟩, List.append_assoc, List.getElem?_append_right (by simp; omega), List.getElem?_append_left (by simp; omega)]
      simp; congr 1; omega
    · rw [if_neg (by omega), List.getElem?_append_right (by simp; omega), List.getElem?_drop]
      simp; congr 1; omega

theorem Laid.nil (w : World) (S : Nat → Prop) (ty : Ty) (arr : List Value) : Laid w S ty [] arr := fun i x h => by simp at h
theorem Laid.mono (hS : ∀ b, S b → S' b) {l : List ty.D} {arr : List Value} (h : Laid w S ty l arr) : Laid w S' ty l arr := fun i x hx => by
  obtain ⟨es, g1, g2⟩ := h i x hx
  exact ⟨es, RD_frame hS (fun _ _ => rfl) g1, g2⟩

theorem row_lt {i n sz j : Nat} (hi : i < n) (hj : j < sz) : i * sz + j < n * sz :=
  calc i * sz + j < i * sz + sz := by omega
    _ = (i + 1) * sz := by rw [Nat.add_mul, Nat.one_mul]
    _ ≤ n * sz := Nat.mul_le_mul_right _ hi
theorem row_ne {i k sz j m : Nat} (h : i ≠ k) (hj : j < sz) (hm : m < sz) : i * sz + j ≠ k * sz + m := by
  intro e
  rcases Nat.lt_or_gt_of_ne h with h | h
  · have := row_lt (sz := sz) h hj; omega
  · have := row_lt (sz := sz) h hm; omega

theorem Laid.set {l : List ty.D} {arr : List Value} (h : Laid w S ty l arr) (hlen : arr.length = l.length * ty.size) {k : Nat} (hk : k < l.length) {y : ty.D} {es : List Value} (hy : RD w S ty y es) :
    Laid w S ty (l.set k y) (arr.take (k * ty.size) ++ es ++ arr.drop (k * ty.size + es.length)) := by
  have hes := RD_len hy
  have hle : k * ty.size + es.length ≤ arr.length := by
    rw [hlen, hes]
    calc k * ty.size + ty.size = (k + 1) * ty.size := by rw [Nat.add_mul, Nat.one_mul]
      _ ≤ l.length * ty.size := Nat.mul_le_mul_right _ hk
  intro i x hx
  rw [List.getElem?_set] at hx
  by_cases e : k = i
  · subst e
    rw [if_pos rfl, if_pos hk] at hx
    obtain rfl := Option.some.inj hx
    refine ⟨es, hy, fun j v hj => ?_⟩
    obtain ⟨hj1, _⟩ := List.getElem?_eq_some_iff.1 hj
    rw [splice_get _ _ _ hle, if_pos ⟨by omega, by omega⟩]
    rwa [Nat.add_sub_cancel_left]
  · rw [if_neg e] at hx
    obtain ⟨fs, g1, g2⟩ := h i x hx
    refine ⟨fs, g1, fun j v hj => ?_⟩
    obtain ⟨hj1, _⟩ := List.getElem?_eq_some_iff.1 hj
    rw [splice_get _ _ _ hle, if_neg ?_]
    · exact g2 j v hj
    · rintro ⟨q1, q2⟩
      have hfs := RD_len g1
      have := row_ne (sz := ty.size) (j := j) (m := i * ty.size + j - k * ty.size) (Ne.symm e) (by omega) (by omega)
      omega

theorem Laid.append {l1 l2 : List ty.D} {a1 a2 : List Value} (h1 : Laid w S ty l1 a1) (hlen : a1.length = l1.length * ty.size) (h2 : Laid w S ty l2 a2) : Laid w S ty (l1 ++ l2) (a1 ++ a2) := by
  intro i x hx
  by_cases hi : i < l1.length
  · rw [List.getElem?_append_left hi] at hx
    obtain ⟨es, g1, g2⟩ := h1 i x hx
    refine ⟨es, g1, fun j v hj => ?_⟩
    have := g2 j v hj
    obtain ⟨q, _⟩ := List.getElem?_eq_some_iff.1 this
    rw [List.getElem?_append_left q]; exact this
  · rw [List.getElem?_append_right (by omega)] at hx
    obtain ⟨es, g1, g2⟩ := h2 _ x hx
    refine ⟨es, g1, fun j v hj => ?_⟩
    have hm : l1.length * ty.size ≤ i * ty.size := Nat.mul_le_mul_right _ (by omega)
    rw [List.getElem?_append_right (by omega)]
    have := g2 j v hj
    rw [Nat.sub_mul] at this
    rw [hlen, show i * ty.size + j - l1.length * ty.size = i * ty.size - l1.length * ty.size + j by omega]
    exact this
theorem Laid.more {l : List ty.D} {a1 a2 : List Value} (h : Laid w S ty l a1) : Laid w S ty l (a1 ++ a2) := fun i x hx => by
  obtain ⟨es, g1, g2⟩ := h i x hx
  refine ⟨es, g1, fun j v hj => ?_⟩
  have := g2 j v hj
  obtain ⟨q, _⟩ := List.getElem?_eq_some_iff.1 this
  rw [List.getElem?_append_left q]; exact this

theorem laid_zero {z : Array Value} (hz : z.toList = zeroCells ty) (n : Nat) : Laid w S ty (List.replicate n ty.zero) (madeCells z (n * ty.size)).toList := by
  intro i x hx
  have hsz : z.size = ty.size := by
    have := RD_len (zeroCells_rd default (fun _ => True) ty)
    rw [← hz] at this; simpa using this
  refine ⟨zeroCells ty, ?_, fun j v hj => ?_⟩
  · have : x = ty.zero := (List.mem_replicate.1 (List.mem_of_getElem? hx)).2
    rw [this]; exact zeroCells_rd _ _ _
  · have hj' : z[j]? = some v := by rw [← Array.getElem?_toList, hz]; exact hj
    obtain ⟨q1, _⟩ := Array.getElem?_eq_some_iff.1 hj'
    obtain ⟨q2, _⟩ := List.getElem?_eq_some_iff.1 hx
    rw [List.length_replicate] at q2
    rw [Array.getElem?_toList, ← hsz]
    exact made_at _ _ _ _ _ hj' (by rw [hsz]; exact row_lt q2 (by omega))

/-- A list in memory, as cells in line. -/
theorem laid_cells {ad : Addr} : ∀ {l : List ty.D}, (∀ (i : Nat) (x : ty.D), l[i]? = some x → ∃ es, RD w S ty x es ∧ CellsAt w (ad.add (i * ty.size)) es) →
    ∃ arr : List Value, arr.length = l.length * ty.size ∧ Laid w S ty l arr ∧ (∀ (j : Nat) (v : Value), arr[j]? = some v → w.cell? (ad.add j) = some v) ∧ ∀ v ∈ arr, v.oneCell' = true := by
  intro l
  induction l generalizing ad with
  | nil => intro _; exact ⟨[], by simp, Laid.nil _ _ _ _, fun j v h => by simp at h, fun v h => by cases h⟩
  | cons x l ih =>
    intro h
    obtain ⟨es, g1, g2⟩ := h 0 x rfl
    obtain ⟨arr, f1, f2, f3, f4⟩ := ih (ad := ad.add ty.size) fun i y hy => by
      obtain ⟨fs, q1, q2⟩ := h (i + 1) y (by simpa using hy)
      refine ⟨fs, q1, ?_⟩
      rw [Addr.add_add]
      rw [Nat.add_mul, Nat.one_mul, Nat.add_comm] at q2
      exact q2
    have hes := RD_len g1
    refine ⟨es ++ arr, by simp [hes, f1, Nat.add_mul]; omega, ?_, fun j v hj => ?_, fun v hv => ?_⟩
    · refine Laid.append (l1 := [x]) ?_ (by simpa using hes) f2
      intro i y hy
      cases i with
      | zero => simp at hy; subst hy; exact ⟨es, g1, fun j v hj => by simpa using hj⟩
      | succ i => simp at hy
    · by_cases hj' : j < es.length
      · rw [List.getElem?_append_left hj'] at hj
        have := g2 j v hj
        rwa [Addr.add_add, Nat.zero_mul, Nat.zero_add] at this
      · rw [List.getElem?_append_right (by omega)] at hj
        have := f3 _ v hj
        rwa [Addr.add_add, hes, show ty.size + (j - ty.size) = j by omega] at this
    · rcases List.mem_append.1 hv with hv | hv
      · exact RD_one g1 v hv
      · exact f4 v hv
end

end Go.Proofs.Ytecnlienmpdlaaa.PM
