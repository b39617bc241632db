/- The small machine PM is sound: what an operation comes to there it comes to in the model. First part: slots, constants, types, and operations that leave memory alone. -/
import Derived.Test.YtecnlienmpdlaaaPmR
set_option linter.unusedSimpArgs false
set_option linter.unusedVariables false
namespace Go.Proofs.Ytecnlienmpdlaaa.PM
open Go

/-! ### slots -/
theorem getD_put (a : Act) (d s : Nat) (u : Value) (hd : d < a.tmps.size) : (a.put (some d) u).tmps.getD s undef = if s = d then u else a.tmps.getD s undef := by
  simp only [Act.put, Array.getD_eq_getD_getElem?, Array.getElem?_setIfInBounds]
  by_cases h : d = s
  · subst h; simp [hd]
  · have h' : ¬ s = d := fun e => h e.symm
    simp [h, h']

theorem size_put (a : Act) (d : Option Nat) (u : Value) : (a.put d u).tmps.size = a.tmps.size := by cases d <;> simp [Act.put]
theorem defers_put (a : Act) (d : Option Nat) (u : Value) : (a.put d u).defers = a.defers := by cases d <;> rfl

section
variable {B nt : Nat} {G : Nat → Prop} {pl : Pl} {σ : St} {a : Act} {w : World}

theorem Rel.put (R : Rel B G pl σ a w) (hn : nt ≤ a.tmps.size) (dst : Option Nat) {v : PV} {u : Value} (hm : Men σ.rows v) (hv : okPV σ.rows v = true → VR w pl σ.rows v u) :
    Rel B G pl ⟨putDst nt σ.env dst (some v), σ.rows⟩ (a.put dst u) w := by
  refine ⟨?_, R.rows, R.zero, R.inj, R.own, (defers_put a dst u).trans R.defers⟩
  intro s x hx
  rw [size_put]
  cases dst with
  | none => exact R.env s x hx
  | some d =>
    simp only [putDst, upd] at hx
    by_cases hs : s = d
    · subst hs
      by_cases hlt : s < nt
      · simp [hlt] at hx
        subst hx
        exact ⟨by omega, hm, fun hk => by rw [getD_put a s s u (by omega), if_pos rfl]; exact hv hk⟩
      · simp [hlt] at hx
    · have hb : (s == d) = false := by simpa using hs
      rw [hb] at hx
      obtain ⟨h1, h2, h3⟩ := R.env s x hx
      refine ⟨h1, h2, fun hk => ?_⟩
      by_cases hd : d < a.tmps.size
      · rw [getD_put a d s u hd, if_neg hs]; exact h3 hk
      · have : a.put (some d) u = a := by simp [Act.put, Array.setIfInBounds, hd]
        rw [this]; exact h3 hk

theorem Rel.putUnd (R : Rel B G pl σ a w) (hn : nt ≤ a.tmps.size) (dst : Option Nat) :
    Rel B G pl ⟨putDst nt σ.env dst none, σ.rows⟩ (a.put dst undef) w := by
  have h := R.put hn dst (v := .und) (u := undef) trivial (fun _ => rfl)
  cases dst with
  | none => exact h
  | some d => exact h

/-! ### constants and operands -/
theorem vr_const (w : World) (pl : Pl) (rows : Rows) (v : Value) (h1 : v.oneCell' = true) : VR w pl rows (constPV v) v ∧ Men rows (constPV v) := by
  unfold constPV
  split
  · exact ⟨rfl, fun q hq => by cases hq⟩
  · exact ⟨rfl, fun q hq => by cases hq⟩
  · exact ⟨rfl, fun q hq => by cases hq⟩
  · exact ⟨rfl, trivial⟩
  · exact ⟨rfl, trivial⟩
  · exact ⟨⟨rfl, h1⟩, trivial⟩

theorem Rel.look (R : Rel B G pl σ a w) {x : Operand} {v : PV} (h : look σ x = some v) : Men σ.rows v ∧ VR w pl σ.rows v (a.eval x) ∧ okPV σ.rows v = true := by
  cases x with
  | tmp t =>
    simp only [PM.look] at h
    cases he : σ.env t with
    | none => rw [he] at h; cases h
    | some y =>
      rw [he] at h
      simp only at h
      by_cases hk : okPV σ.rows y = true
      · rw [if_pos hk] at h
        obtain rfl := Option.some.inj h
        obtain ⟨_, h2, h3⟩ := R.env t y he
        exact ⟨h2, h3 hk, hk⟩
      · rw [if_neg hk] at h; cases h
  | const u =>
    simp only [PM.look] at h
    split at h
    · rename_i h1
      obtain rfl := Option.some.inj h
      refine ⟨(vr_const w pl σ.rows u h1).2, (vr_const w pl σ.rows u h1).1, ?_⟩
      unfold constPV; split <;> rfl
    · cases h
  | global g => cases h
  | func f =>
    obtain rfl := Option.some.inj h
    exact ⟨trivial, ⟨#[], rfl, rfl⟩, rfl⟩
end

/-! ### types -/
noncomputable def tdOf : TypeDesc → TD
  | .int k => .int k
  | .bool => .bool
  | .string => .str
  | .slice e => .slice e
  | .struct fs => .struct (fs.toList.map fun f => (f.type, f.offset))
  | .pointer e => .ptr e
  | .func .. => .func
  | .map k e => .map k e
  | _ => .other

noncomputable def zeroCells : Ty → List Value
  | .int k => [.int k 0]
  | .bool => [.bool false]
  | .str => [.string ⟨#[]⟩]
  | .unit => []
  | .slice _ => [.slice none 0 0]
  | .prod a b => zeroCells a ++ zeroCells b

/-! ### comparing two values of a type that leads nowhere -/
noncomputable def cmpG (P : Program) : Ty → Option (List Field × Nat) → Nat → Bool
  | .int k, none, t => match P.underlying t with
    | some (.int k') => decide (k = k')
    | _ => false
  | .bool, none, t => match P.underlying t with
    | some .bool => true
    | _ => false
  | .str, none, t => match P.underlying t with
    | some .string => true
    | _ => false
  | .prod a b, none, t => match P.underlying t with
    | some (.struct fs) => !(P.stoodInHeld t) && (match fs.toList with
      | f :: rest => decide (f.offset = 0) && (f.name != "_") && (match P.info? f.type with
        | some i => decide (i.size = a.size)
        | none => false) && cmpG P a none f.type && cmpG P b (some (rest, 0 + a.size)) 0
      | [] => false)
    | _ => false
  | .unit, some ([], _), _ => true
  | .prod a b, some (f :: rest, off), _ => decide (f.offset = off) && (f.name != "_") && (match P.info? f.type with
        | some i => decide (i.size = a.size)
        | none => false) && cmpG P a none f.type && cmpG P b (some (rest, off + a.size)) 0
  | _, _, _ => false
noncomputable def cmpB (P : Program) (ty : Ty) (t : Nat) : Bool := match ty with
  | .prod a b => cmpG P (.prod a b) none t && !(P.eqGuardType P.depth t)
  | _ => true

/-- Cells of such a type. -/
theorem implode_flat {w : World} {pl : Pl} {rows : Rows} {S : Nat → Prop} : ∀ (ty : Ty) {l l' : List PV} {x : ty.D} {us : List Value}, ty.flat = true → VRs w pl rows l us → implode ty l = some (x, l') →
    ∃ c1 c2, us = c1 ++ c2 ∧ RD w S ty x c1 ∧ VRs w pl rows l' c2 := by
  have leaf : ∀ {t : Ty} {v : PV} {x : t.D} {u : Value}, (∀ e, t ≠ .slice e) → (∀ (w : World) (S S' : Nat → Prop) (x : t.D) (cs : List Value), RD w S t x cs → RD w S' t x cs) → leafOf t v = some x → VR w pl rows v u → RD w S t x [u] := by
    intro t v x u hns hS h hv
    cases v with
    | val p t' y =>
      simp only [leafOf] at h
      split at h
      · rename_i e
        subst e
        obtain rfl := Option.some.inj h
        exact hS _ _ _ _ _ hv
      · cases h
    | nils =>
      simp only [leafOf] at h
      cases t <;> first
        | cases h
        | exact absurd rfl (hns _)
    | _ => cases h
  intro ty
  induction ty with
  | int k =>
    intro l l' x us _ hv h
    cases l with
    | nil => cases h
    | cons v l =>
      obtain ⟨u, us', rfl, h1, h2⟩ := hv
      simp only [implode, Option.map_eq_some_iff, Prod.mk.injEq] at h
      obtain ⟨y, e, rfl, rfl⟩ := h
      exact ⟨[u], us', rfl, leaf (by simp) (fun _ _ _ _ _ h => h) e h1, h2⟩
  | bool =>
    intro l l' x us _ hv h
    cases l with
    | nil => cases h
    | cons v l =>
      obtain ⟨u, us', rfl, h1, h2⟩ := hv
      simp only [implode, Option.map_eq_some_iff, Prod.mk.injEq] at h
      obtain ⟨y, e, rfl, rfl⟩ := h
      exact ⟨[u], us', rfl, leaf (by simp) (fun _ _ _ _ _ h => h) e h1, h2⟩
  | str =>
    intro l l' x us _ hv h
    cases l with
    | nil => cases h
    | cons v l =>
      obtain ⟨u, us', rfl, h1, h2⟩ := hv
      simp only [implode, Option.map_eq_some_iff, Prod.mk.injEq] at h
      obtain ⟨y, e, rfl, rfl⟩ := h
      exact ⟨[u], us', rfl, leaf (by simp) (fun _ _ _ _ _ h => h) e h1, h2⟩
  | unit =>
    intro l l' x us _ hv h
    cases l <;> (simp only [implode, Option.some.injEq, Prod.mk.injEq] at h; obtain ⟨_, rfl⟩ := h; exact ⟨[], us, rfl, rfl, hv⟩)
  | slice t _ => intro l l' x us hf; simp [Ty.flat] at hf
  | prod a b iha ihb =>
    intro l l' x us hf hv h
    simp only [Ty.flat, Bool.and_eq_true] at hf
    have h' : (match implode a l with
      | some (x, l1) => match implode b l1 with
        | some (y, l2) => some ((x, y), l2)
        | none => none
      | none => none) = some (x, l') := by cases l <;> exact h
    split at h'
    · rename_i x1 l1 e1
      split at h'
      · rename_i y1 l2 e2
        cases h'
        obtain ⟨c1, c2, rfl, r1, r2⟩ := iha hf.1 hv e1
        obtain ⟨c3, c4, rfl, r3, r4⟩ := ihb hf.2 r2 e2
        exact ⟨c1 ++ c3, c4, by simp, ⟨c1, c3, rfl, r1, r3⟩, r4⟩
      · cases h'
    · cases h'

section
variable {P : Program} {w : World}
theorem bne_of {s t : String} (h : (s != t) = true) : s ≠ t := by simpa using h

theorem equal_fields {S S' : Nat → Prop} {d : Nat} {xs ys : Array Value} {cx cy : List Value} (hx : xs.toList = cx) (hy : ys.toList = cy) :
    ∀ (ty : Ty) (fs : List Field) (off : Nat) (x y : ty.D), (∀ (a : Ty) (t : Nat) (x y : a.D) (c1 c2 : List Value), a.depth ≤ d → cmpG P a none t = true → RD w S a x c1 → RD w S' a y c2 → (Op.equalIn d t (valAg a c1) (valAg a c2)).run P w = .ok (a.beq x y) w) →
      cmpG P ty (some (fs, off)) 0 = true → ty.depth ≤ d + 1 → RD w S ty x (cx.drop off) → RD w S' ty y (cy.drop off) →
      (Sem.run P (forIn fs ((none : Option Bool), ()) fun f _ =>
        if f.name = "_" then pure (ForInStep.yield (none, ()))
        else isAgg f.type >>= fun x =>
          (if x = true then (fun a => Value.agg (xs.extract f.offset (f.offset + a))) <$> sizeOf f.type
            else
              match xs[f.offset]? with
              | some v => pure v
              | none => stuck "part: no such cell") >>= fun a => isAgg f.type >>= fun x =>
          (if x = true then (fun a => Value.agg (ys.extract f.offset (f.offset + a))) <$> sizeOf f.type
            else
              match ys[f.offset]? with
              | some v => pure v
              | none => stuck "part: no such cell") >>= fun b => Op.equalIn d f.type a b >>= fun r =>
          if r = false then pure (ForInStep.done (some false, ())) else pure (ForInStep.yield (none, ()))) w) = .ok (if ty.beq x y then none else some false, ()) w := by
  intro ty
  induction ty with
  | unit =>
    intro fs off x y _ h _ _ _
    cases fs with
    | nil => simp [Ty.beq, go_sem]
    | cons f fs => simp [cmpG] at h
  | prod a b _ ihb =>
    intro fs off x y ih h hd h1 h2
    cases fs with
    | nil => simp [cmpG] at h
    | cons f rest =>
      simp only [cmpG, Bool.and_eq_true, decide_eq_true_eq] at h
      obtain ⟨⟨⟨⟨e1, e2⟩, e3⟩, e4⟩, e5⟩ := h
      have e2' := bne_of e2
      obtain ⟨i, hi, e3⟩ : ∃ i, P.info? f.type = some i ∧ i.size = a.size := by
        cases hi : P.info? f.type with
        | none => rw [hi] at e3; cases e3
        | some i => rw [hi] at e3; exact ⟨i, rfl, by simpa using e3⟩
      obtain ⟨cx1, cx2, f1, f2, f3⟩ := h1
      obtain ⟨cy1, cy2, g1, g2, g3⟩ := h2
      have hda : a.depth ≤ d := by have := hd; simp only [Ty.depth] at this; omega
      have hdb : b.depth ≤ d + 1 := by have := hd; simp only [Ty.depth] at this; omega
      have lx := RD_len f2
      have ly := RD_len g2
      have cut : ∀ {zs : Array Value} {cz c1 c2 : List Value}, zs.toList = cz → cz.drop off = c1 ++ c2 → c1.length = a.size →
          ∃ g, (Go.isAgg f.type).run P w = .ok g w ∧ (Sem.run P (
            if g = true then (fun a => Value.agg (zs.extract f.offset (f.offset + a))) <$> sizeOf f.type
            else
              match zs[f.offset]? with
              | some v => pure v
              | none => stuck "part: no such cell") w) = .ok (valAg a c1) w := by
        intro zs cz c1 c2 hz hc hl
        have hsz : (sizeOf f.type).run P w = .ok a.size w := by simp [Go.sizeOf, Go.typeInfo, hi, e3, go_sem]
        have hex : zs.extract off (off + a.size) = c1.toArray := by
          apply Array.ext'
          rw [Array.toList_extract, List.extract_eq_take_drop, hz]
          rw [hc]
          have : off + a.size - off = a.size := by omega
          rw [this, ← hl, List.take_left]
        have hat : a.size = 1 → zs[off]? = c1.head? := by
          intro h1'
          have : c1.head? = (c1 ++ c2)[0]? := by cases c1 with
            | nil => simp at hl; omega
            | cons z c1 => rfl
          rw [this, ← hc, List.getElem?_drop, ← hz, Array.getElem?_toList]
          rfl
        have single : ∀ {td : TypeDesc}, P.underlying f.type = some td → (Go.isAgg f.type).run P w = .ok false w → a.size = 1 → valAg a c1 = c1.headD undef →
            ∃ g, (Go.isAgg f.type).run P w = .ok g w ∧ (Sem.run P (
              if g = true then (fun a => Value.agg (zs.extract f.offset (f.offset + a))) <$> sizeOf f.type
              else
                match zs[f.offset]? with
                | some v => pure v
                | none => stuck "part: no such cell") w) = .ok (valAg a c1) w := by
          intro td hu hag h1' hv
          cases c1 with
          | nil => simp at hl; omega
          | cons z c1 =>
            have := hat h1'
            simp at this
            subst e1
            exact ⟨false, hag, by simp [this, hv, go_sem]⟩
        cases a with
        | int k =>
          simp only [cmpG] at e4
          split at e4
          · rename_i k' hu
            exact single hu (by simp [Go.isAgg, run_underlying hu, go_sem]) rfl rfl
          · cases e4
        | bool =>
          simp only [cmpG] at e4
          split at e4
          · rename_i hu
            exact single hu (by simp [Go.isAgg, run_underlying hu, go_sem]) rfl rfl
          · cases e4
        | str =>
          simp only [cmpG] at e4
          split at e4
          · rename_i hu
            exact single hu (by simp [Go.isAgg, run_underlying hu, go_sem]) rfl rfl
          · cases e4
        | unit => cases hfs : (none : Option (List Field × Nat)) <;> simp [cmpG] at e4
        | slice t => simp [cmpG] at e4
        | prod p q =>
          simp only [cmpG] at e4
          split at e4
          · rename_i fs hu
            have hag : (Go.isAgg f.type).run P w = .ok true w := by simp [Go.isAgg, run_underlying hu, go_sem]
            subst e1
            exact ⟨true, hag, by simp [hsz, hex, valAg, go_sem]⟩
          · cases e4
      obtain ⟨g, hg, hA⟩ := cut hx f1 lx
      obtain ⟨g', hg', hB⟩ := cut hy g1 ly
      rw [hg] at hg'
      cases hg'
      have hE := ih a f.type x.1 y.1 cx1 cy1 hda e4 f2 g2
      rw [List.forIn_cons]
      rw [if_neg e2']
      have hr := ihb rest (off + a.size) x.2 y.2 ih e5 hdb (by rw [← List.drop_drop, f1, ← lx, List.drop_left]; exact f3) (by rw [← List.drop_drop, g1, ← ly, List.drop_left]; exact g3)
      have bindE : ∀ {α β : Type} (m : Sem α) (k : α → Sem β), (m >>= k).run P w = (m.run P w).andThen fun a w' => (k a).run P w' := by
        intro α β m k; simp [go_sem]
      simp only [bindE, hg, hA, hB, hE, Result.andThen]
      cases hb : a.beq x.1 y.1 with
      | false => simp [Ty.beq, hb, go_sem]
      | true =>
        simp only [Ty.beq, hb, Bool.true_and, Bool.true_eq_false, if_false, Sem.run_pure]
        exact hr
  | _ =>
    intro fs off x y _ h _ _ _
    simp [cmpG] at h

theorem equal_ty {S S' : Nat → Prop} : ∀ (d : Nat) (ty : Ty) (t : Nat) (x y : ty.D) (cx cy : List Value), ty.depth ≤ d → cmpG P ty none t = true → RD w S ty x cx → RD w S' ty y cy →
    (Op.equalIn d t (valAg ty cx) (valAg ty cy)).run P w = .ok (ty.beq x y) w
  | 0, ty, _, _, _, _, _, h, _, _, _ => by cases ty <;> simp [Ty.depth] at h
  | d + 1, ty, t, x, y, cx, cy, hd, h, h1, h2 => by
    cases ty with
    | int k =>
      simp only [cmpG] at h
      split at h
      · rename_i k' hu
        have hk : k = k' := by simpa using h
        subst hk
        rw [show cx = _ from h1, show cy = _ from h2]
        simp [valAg, Op.equalIn, run_underlying hu, Ty.beq, go_sem]
      · cases h
    | bool =>
      simp only [cmpG] at h
      split at h
      · rename_i hu
        rw [show cx = _ from h1, show cy = _ from h2]
        simp [valAg, Op.equalIn, run_underlying hu, Ty.beq, go_sem]
      · cases h
    | str =>
      simp only [cmpG] at h
      split at h
      · rename_i hu
        rw [show cx = _ from h1, show cy = _ from h2]
        simp [valAg, Op.equalIn, run_underlying hu, Ty.beq, go_sem]
      · cases h
    | unit => simp [cmpG] at h
    | slice t => simp [cmpG] at h
    | prod a b =>
      obtain ⟨fs, hu, hst, hf⟩ : ∃ fs, P.underlying t = some (.struct fs) ∧ P.stoodInHeld t = false ∧ cmpG P (.prod a b) (some (fs.toList, 0)) 0 = true := by
        simp only [cmpG] at h
        split at h
        · rename_i fs hu
          simp only [Bool.and_eq_true, Bool.not_eq_true'] at h
          refine ⟨fs, hu, h.1, ?_⟩
          have h2 := h.2
          cases hl : fs.toList with
          | nil => rw [hl] at h2; cases h2
          | cons f rest => rw [hl] at h2; simp only [cmpG]; simpa using h2
        · cases h
      have := equal_fields (P := P) (w := w) (S := S) (S' := S') (d := d) (xs := cx.toArray) (ys := cy.toArray) (cx := cx) (cy := cy) rfl rfl (.prod a b) fs.toList 0 x y (fun a t x y c1 c2 => equal_ty d a t x y c1 c2) hf hd h1 h2
      simp only [valAg]
      simp [Op.equalIn, run_underlying hu, hst, go_sem] at this ⊢
      refine (congrArg (fun r => Result.andThen r _) this).trans ?_
      generalize (Ty.prod a b).beq x y = r
      cases r <;> simp [go_sem]
end

structure TIok (P : Program) (t : Nat) (i : TI) : Prop where
  desc : (P.underlying t).map tdOf = some i.d
  info : (P.info? t).map (fun x => (x.size, x.bytes, x.zero.map fun z => z.cells.toList)) = some (i.size, i.bytes, some i.zero)
  ty : ∀ ty, i.ty = some ty → ty.size = i.size ∧ i.zero = zeroCells ty
  cmp : ∀ ty, i.ty = some ty → ty.flat = true → cmpB P ty t = true
  one : ∀ ty, i.ty = some ty → oneTy ty = true → (P.info? t).map (·.zero) = some (some ((zeroCells ty).headD undef))

def TTok (P : Program) (T : TT) : Prop := ∀ t i, T.at t = some i → TIok P t i

theorem TTok.nil (P : Program) : TTok P [] := fun _ _ h => by cases h
theorem TTok.cons {P : Program} {T : TT} {t : Nat} {i : TI} (h : TIok P t i) (hT : TTok P T) : TTok P ((t, i) :: T) := by
  intro u j hj
  simp only [TT.at] at hj
  by_cases e : t = u
  · subst e; simp at hj; subst hj; exact h
  · have : (t == u) = false := by simpa using e
    rw [this] at hj
    exact hT u j hj

theorem zeroCells_rd (w : World) (S : Nat → Prop) : ∀ t : Ty, RD w S t t.zero (zeroCells t)
  | .int _ => rfl
  | .bool => rfl
  | .str => rfl
  | .unit => rfl
  | .slice _ => ⟨none, 0, rfl, Nat.le_refl _, fun h => absurd rfl h⟩
  | .prod a b => ⟨zeroCells a, zeroCells b, rfl, zeroCells_rd w S a, zeroCells_rd w S b⟩

section
variable {P : Program} {t : Nat} {i : TI}
theorem TIok.int (h : TIok P t i) {k : IntKind} (e : i.d = .int k) : P.underlying t = some (.int k) := by
  have := h.desc; rw [e] at this
  obtain ⟨d, h1, h2⟩ := Option.map_eq_some_iff.1 this
  cases d <;> simp [tdOf] at h2
  subst h2; exact h1
theorem TIok.str (h : TIok P t i) (e : i.d = .str) : P.underlying t = some .string := by
  have := h.desc; rw [e] at this
  obtain ⟨d, h1, h2⟩ := Option.map_eq_some_iff.1 this
  cases d <;> simp [tdOf] at h2
  exact h1
theorem TIok.bool (h : TIok P t i) (e : i.d = .bool) : P.underlying t = some .bool := by
  have := h.desc; rw [e] at this
  obtain ⟨d, h1, h2⟩ := Option.map_eq_some_iff.1 this
  cases d <;> simp [tdOf] at h2
  exact h1
theorem TIok.ptr (h : TIok P t i) {x : Nat} (e : i.d = .ptr x) : P.underlying t = some (.pointer x) := by
  have := h.desc; rw [e] at this
  obtain ⟨d, h1, h2⟩ := Option.map_eq_some_iff.1 this
  cases d <;> simp [tdOf] at h2
  subst h2; exact h1
theorem TIok.slice (h : TIok P t i) {x : Nat} (e : i.d = .slice x) : P.underlying t = some (.slice x) := by
  have := h.desc; rw [e] at this
  obtain ⟨d, h1, h2⟩ := Option.map_eq_some_iff.1 this
  cases d <;> simp [tdOf] at h2
  subst h2; exact h1
theorem TIok.map (h : TIok P t i) {x y : Nat} (e : i.d = .map x y) : P.underlying t = some (.map x y) := by
  have := h.desc; rw [e] at this
  obtain ⟨d, h1, h2⟩ := Option.map_eq_some_iff.1 this
  cases d <;> simp [tdOf] at h2
  obtain ⟨rfl, rfl⟩ := h2; exact h1
theorem TIok.struct (h : TIok P t i) {fs : List (Nat × Nat)} (e : i.d = .struct fs) : ∃ fl, P.underlying t = some (.struct fl) ∧ fl.toList.map (fun f => (f.type, f.offset)) = fs := by
  have := h.desc; rw [e] at this
  obtain ⟨d, h1, h2⟩ := Option.map_eq_some_iff.1 this
  cases d <;> simp [tdOf] at h2
  exact ⟨_, h1, h2⟩
theorem TIok.infos (h : TIok P t i) : ∃ x z, P.info? t = some x ∧ x.size = i.size ∧ x.bytes = i.bytes ∧ x.zero = some z ∧ z.cells.toList = i.zero := by
  obtain ⟨x, h1, h2⟩ := Option.map_eq_some_iff.1 h.info
  simp only [Prod.mk.injEq, Option.map_eq_some_iff] at h2
  obtain ⟨e1, e2, z, e3, e4⟩ := h2
  exact ⟨x, z, h1, e1, e2, e3, e4⟩
/-- Whether a type's values are aggregates. -/
theorem TIok.agg (h : TIok P t i) {g : Bool} (hg : aggOf i.d = some g) (w : World) : (Go.isAgg t).run P w = .ok g w := by
  obtain ⟨d, h1, h2⟩ := Option.map_eq_some_iff.1 h.desc
  rw [← h2] at hg
  cases d <;> simp [tdOf, aggOf] at hg <;> subst hg <;> simp [Go.isAgg, run_underlying h1, go_sem]
theorem TIok.sizeOf (h : TIok P t i) (w : World) : (Go.sizeOf t).run P w = .ok i.size w := by
  obtain ⟨x, z, h1, h2, h3, h4, h5⟩ := h.infos
  simp [Go.sizeOf, Go.typeInfo, h1, h2, go_sem]
end

/-! ### operations that leave memory alone -/
section
variable {P : Program} {B nt : Nat} {G : Nat → Prop} {pl : Pl} {σ : St} {a : Act} {w : World} {T : TT}

/-- What an operation's run is to be. -/
def RunsTo (P : Program) (o : Oper) (a : Act) (w : World) (v : Value) (w' : World) : Prop :=
  (execOp a.eval o).run P w = .ok (.value v) w' ∨ (v = undef ∧ (execOp a.eval o).run P w = .ok .skip w')

theorem isInt {w : World} {pl : Pl} {rows : Rows} {p : Prov} {k : IntKind} {n : Int} {u : Value} (h : VR w pl rows (.val p (.int k) n) u) : u = .int k n := by
  simpa [VR, RD] using h
theorem isBool {w : World} {pl : Pl} {rows : Rows} {p : Prov} {b : Bool} {u : Value} (h : VR w pl rows (.val p .bool b) u) : u = .bool b := by
  simpa [VR, RD] using h
theorem isStr {w : World} {pl : Pl} {rows : Rows} {p : Prov} {s : ByteArray} {u : Value} (h : VR w pl rows (.val p .str s) u) : u = .string s := by
  simpa [VR, RD] using h
theorem vr_int (w : World) (pl : Pl) (rows : Rows) (k : IntKind) (n : Int) : VR w pl rows (mi k n) (.int k n) := rfl
theorem vr_bool (w : World) (pl : Pl) (rows : Rows) (b : Bool) : VR w pl rows (mb b) (.bool b) := rfl
theorem men_int (rows : Rows) (k : IntKind) (n : Int) : Men rows (mi k n) := fun q hq => by cases hq
theorem men_bool (rows : Rows) (b : Bool) : Men rows (mb b) := fun q hq => by cases hq

/-- An operation whose value alone is new. -/
def Still (P : Program) (pl : Pl) (rows : Rows) (a : Act) (w : World) (o : Oper) (out : Out) : Prop :=
  out.upd = [] ∧ ∃ v, out.v = some v ∧ Men rows v ∧ ∃ u, RunsTo P o a w u w ∧ (okPV rows v = true → VR w pl rows v u)

theorem Still.mk' {o : Oper} {c : Bool} {v : PV} {u : Value} (hm : Men σ.rows v) (hr : (execOp a.eval o).run P w = .ok (.value u) w) (hv : VR w pl σ.rows v u) : Still P pl σ.rows a w o ⟨c, some v, []⟩ :=
  ⟨rfl, v, rfl, hm, u, .inl hr, fun _ => hv⟩

theorem op_move {o : Oper} {x : Operand} {out : Out} {key : Nat} (R : Rel B G pl σ a w) (ho : o.op = .move x ∨ o.op = .assign x) (h : opOut T key o.op (look σ) σ.rows = some out) :
    Still P pl σ.rows a w o out := by
  have h' : (match look σ x with | some v => one v | none => none) = some out := by
    rcases ho with e | e <;> rw [e] at h <;> exact h
  cases hx : look σ x with
  | none => rw [hx] at h'; cases h'
  | some v =>
    rw [hx] at h'
    obtain rfl := Option.some.inj h'
    obtain ⟨g1, g2, _⟩ := R.look hx
    refine Still.mk' g1 ?_ g2
    rcases ho with e | e <;> simp [execOp, e, go_sem]

theorem bin_int {op : BinOp} {k k' : IntKind} {m n : Int} {out : Out} {xt : Nat} (h : intBin op k m k' n = some out) (hok : out.ok = true) :
    ∃ v u, out.upd = [] ∧ out.v = some v ∧ Men σ.rows v ∧ VR w pl σ.rows v u ∧ (binOp op xt (.int k m) (.int k' n)).run P w = .ok u w := by
  cases op
  case shl =>
    obtain rfl := Option.some.inj h
    have h0 : 0 ≤ n := of_decide_eq_true hok
    exact ⟨_, _, rfl, rfl, men_int _ _ _, rfl, by simp [binOp, Op.shift, show ¬ n < 0 by omega, go_sem]⟩
  case shr =>
    obtain rfl := Option.some.inj h
    have h0 : 0 ≤ n := of_decide_eq_true hok
    exact ⟨_, _, rfl, rfl, men_int _ _ _, rfl, by simp [binOp, Op.shift, show ¬ n < 0 by omega, go_sem]⟩
  all_goals
    simp only [intBin] at h
    split at h
    next hk => 
      subst hk
      first
      | (cases h; done)
      | (obtain rfl := Option.some.inj h; refine ⟨_, _, rfl, rfl, men_int _ _ _, rfl, ?_⟩; simp [binOp, Op.intArith, go_sem]; done)
      | (obtain rfl := Option.some.inj h; refine ⟨_, _, rfl, rfl, men_int _ _ _, rfl, ?_⟩; simp [binOp, Op.intBits, bits, go_sem]; done)
      | (obtain rfl := Option.some.inj h; refine ⟨_, _, rfl, rfl, men_bool _ _, rfl, ?_⟩; simp [binOp, Op.intCmp, go_sem]; done)
      | (obtain rfl := Option.some.inj h
         have hn : n ≠ 0 := by
           rintro rfl
           exact absurd hok (by simp)
         refine ⟨_, _, rfl, rfl, men_int _ _ _, rfl, ?_⟩; simp [binOp, Op.intDiv, hn, go_sem])
    next => cases h

theorem guard_int (op : BinOp) (t : TypeId) (x y : Operand) (k k' : IntKind) (m n : Int) (w : World) : (eqGuard op t x y (.int k m) (.int k' n)).run P w = .ok () w := by
  unfold eqGuard
  split <;> simp [go_sem]
theorem guard_str (op : BinOp) (t : TypeId) (x y : Operand) (m n : ByteArray) (w : World) : (eqGuard op t x y (.string m) (.string n)).run P w = .ok () w := by
  unfold eqGuard
  split <;> simp [go_sem]
theorem guard_bool (op : BinOp) (t : TypeId) (x y : Operand) (m n : Bool) (w : World) : (eqGuard op t x y (.bool m) (.bool n)).run P w = .ok () w := by
  unfold eqGuard
  split <;> simp [go_sem]
theorem guard_agg (op : BinOp) (t : TypeId) (x y : Operand) (m n : Array Value) (w : World) (h : P.eqGuardType P.depth t = false) : (eqGuard op t x y (.agg m) (.agg n)).run P w = .ok () w := by
  unfold eqGuard
  split <;> first
    | (simp [go_sem]; done)
    | (simp [go_sem]; intro h'; rw [h] at h'; cases h')
theorem guard_ptr (op : BinOp) (t : TypeId) (x y : Operand) (m n : Option Addr) (w : World) : (eqGuard op t x y (.pointer m) (.pointer n)).run P w = .ok () w := by
  unfold eqGuard
  split <;> simp [go_sem]

theorem run_bin {o : Oper} {op : BinOp} {xt yt : Nat} {x y : Operand} {u1 u2 u : Value} (ho : o.op = .binOp op xt x y yt) (ex : a.eval x = u1) (ey : a.eval y = u2)
    (hg : (eqGuard op xt x y u1 u2).run P w = .ok () w) (hb : (binOp op xt u1 u2).run P w = .ok u w) : (execOp a.eval o).run P w = .ok (.value u) w := by
  have e : execOp a.eval o = (do let v ← (do eqGuard op xt x y (a.eval x) (a.eval y); binOp op xt (a.eval x) (a.eval y)); pure (.value v)) := by simp only [execOp, ho]
  rw [e, ex, ey]
  simp [hg, hb, go_sem]

theorem bin_str {op : BinOp} {m n : ByteArray} {out : Out} {xt : Nat} (h : strBin op m n = some out) (hok : out.ok = true) :
    ∃ v u, out.upd = [] ∧ out.v = some v ∧ Men σ.rows v ∧ VR w pl σ.rows v u ∧ (binOp op xt (.string m) (.string n)).run P w = .ok u w := by
  cases op <;> simp only [strBin] at h <;> first
    | (cases h; done)
    | (obtain rfl := Option.some.inj h; refine ⟨_, _, rfl, rfl, men_bool _ _, rfl, ?_⟩; simp [binOp, Op.stringOp, go_sem]; done)
    | (obtain rfl := Option.some.inj h
       have h0 : m.size + n.size ≤ 9223372036854775807 := of_decide_eq_true hok
       refine ⟨_, .string (m ++ n), rfl, rfl, (fun q hq => by cases hq), rfl, ?_⟩
       have hm : IntKind.i64.max = 9223372036854775807 := by decide
       have : ¬ (((m.size + n.size : Nat) : Int) > IntKind.i64.max) := by omega
       simp only [binOp, Op.stringOp]
       rw [if_neg this]
       simp [go_sem])

theorem run_equalIn_bool (d : Nat) {t : TypeId} (hx : P.underlying t = some .bool) (m n : Bool) : (Op.equalIn (d + 1) t (.bool m) (.bool n)).run P w = .ok (m == n) w := by
  simp [Op.equalIn, run_underlying hx, go_sem]

theorem bin_bool {op : BinOp} {m n : Bool} {out : Out} {xt : Nat} (hx : P.underlying xt = some .bool) (h : boolBin op m n = some out) :
    ∃ v u, out.upd = [] ∧ out.v = some v ∧ Men σ.rows v ∧ VR w pl σ.rows v u ∧ (binOp op xt (.bool m) (.bool n)).run P w = .ok u w := by
  cases op <;> simp only [boolBin] at h <;> first
    | (cases h; done)
    | (obtain rfl := Option.some.inj h; refine ⟨_, _, rfl, rfl, men_bool _ _, rfl, ?_⟩; simp only [binOp]; simp [Op.equal, Op.maxDepth, run_equalIn_bool 9999 hx, go_sem])

theorem op_binOp {o : Oper} {op : BinOp} {xt yt : Nat} {x y : Operand} {out : Out} {key : Nat} (hT : TTok P T) (R : Rel B G pl σ a w) (ho : o.op = .binOp op xt x y yt)
    (h : opOut T key o.op (look σ) σ.rows = some out) (hok : out.ok = true) : Still P pl σ.rows a w o out := by
  rw [ho] at h
  simp only [opOut] at h
  cases hx : look σ x with
  | none => rw [hx] at h; cases h
  | some v =>
    cases hy : look σ y with
    | none => rw [hx, hy] at h; cases h
    | some v2 =>
      rw [hx, hy] at h
      simp only at h
      obtain ⟨_, gx, _⟩ := R.look hx
      obtain ⟨_, gy, _⟩ := R.look hy
      unfold binop at h
      split at h
      · rename_i l l' _ _
        unfold aggBin at h
        split at h
        · rename_i fs z2 z3 z4 A Bt hti
          split at h
          · rename_i hfl
            simp only [Bool.and_eq_true, decide_eq_true_eq] at hfl
            split at h
            · rename_i x1 y1 e1 e2
              obtain ⟨cx, hux, vx, _⟩ := gx
              obtain ⟨cy, huy, vy, _⟩ := gy
              obtain ⟨c1, c2, q1, q2, q3⟩ := implode_flat (S := fun _ => True) _ hfl.1 vx e1
              obtain ⟨d1, d2, r1, r2, r3⟩ := implode_flat (S := fun _ => True) _ hfl.1 vy e2
              have q3' : c2 = [] := q3
              have r3' : d2 = [] := r3
              subst q3' r3'
              rw [List.append_nil] at q1 r1
              have hcm := (hT _ _ hti).cmp _ rfl hfl.1
              simp only [cmpB, Bool.and_eq_true, Bool.not_eq_true'] at hcm
              have hE := equal_ty (P := P) (w := w) Op.maxDepth (.prod A Bt) xt x1 y1 c1 d1 (by unfold Op.maxDepth; omega) hcm.1 q2 r2
              have ex : valAg (.prod A Bt) c1 = .agg cx := by simp [valAg, ← q1]
              have ey : valAg (.prod A Bt) d1 = .agg cy := by simp [valAg, ← r1]
              rw [ex, ey] at hE
              have hg : (eqGuard op xt x y (.agg cx) (.agg cy)).run P w = .ok () w := guard_agg _ _ _ _ _ _ _ hcm.2
              have hE' : (Op.equal xt (.agg cx) (.agg cy)).run P w = .ok ((Ty.prod A Bt).beq x1 y1) w := hE
              cases op <;> first
                | (cases h; done)
                | (obtain rfl := Option.some.inj h
                   exact ⟨rfl, _, rfl, men_bool _ _, _, .inl (run_bin ho hux huy hg (by simp only [binOp]; simp [hE', go_sem])), fun _ => vr_bool _ _ _ _⟩)
            · cases h
          · cases h
        · cases h
      · obtain ⟨v, u, h1, h2, h3, h4, h5⟩ := bin_int (P := P) (w := w) (pl := pl) (σ := σ) (xt := xt) h hok
        exact ⟨h1, v, h2, h3, u, .inl (run_bin ho (isInt gx) (isInt gy) (guard_int _ _ _ _ _ _ _ _ _) h5), fun _ => h4⟩
      · obtain ⟨v, u, h1, h2, h3, h4, h5⟩ := bin_str (P := P) (w := w) (pl := pl) (σ := σ) (xt := xt) h hok
        exact ⟨h1, v, h2, h3, u, .inl (run_bin ho (isStr gx) (isStr gy) (guard_str _ _ _ _ _ _ _) h5), fun _ => h4⟩
      · split at h
        · rename_i z1 z2 z3 z4 hti
          obtain ⟨v, u, h1, h2, h3, h4, h5⟩ := bin_bool (P := P) (w := w) (pl := pl) (σ := σ) (xt := xt) ((hT _ _ hti).bool rfl) h
          exact ⟨h1, v, h2, h3, u, .inl (run_bin ho (isBool gx) (isBool gy) (guard_bool _ _ _ _ _ _ _) h5), fun _ => h4⟩
        · cases h
      · cases h

/-! ### lists of cells -/
theorem vrs_len {w : World} {pl : Pl} {rows : Rows} : ∀ {l : List PV} {us : List Value}, VRs w pl rows l us → us.length = l.length
  | [], _, h => by rw [show _ = [] from h]; rfl
  | _ :: _, _, h => by
    obtain ⟨u, us, rfl, _, h2⟩ := h
    simp [vrs_len h2]
theorem vrs_get {w : World} {pl : Pl} {rows : Rows} : ∀ {l : List PV} {us : List Value}, VRs w pl rows l us → ∀ (j : Nat) (x : PV), l[j]? = some x → ∃ u, us[j]? = some u ∧ VR w pl rows x u
  | [], _, _, j, x, hx => by simp at hx
  | y :: l, _, h, j, x, hx => by
    obtain ⟨u, us, rfl, h1, h2⟩ := h
    cases j with
    | zero => simp at hx; subst hx; exact ⟨u, rfl, h1⟩
    | succ j => simp at hx; obtain ⟨u2, g1, g2⟩ := vrs_get h2 j x hx; exact ⟨u2, by simpa using g1, g2⟩
theorem vrs_of {w : World} {pl : Pl} {rows : Rows} : ∀ {l : List PV} {us : List Value}, us.length = l.length → (∀ (j : Nat) (x : PV) (u : Value), l[j]? = some x → us[j]? = some u → VR w pl rows x u) → VRs w pl rows l us
  | [], us, h, _ => by simpa [VRs] using h
  | y :: l, [], h, _ => by simp at h
  | y :: l, u :: us, h, g => ⟨u, us, rfl, g 0 y u rfl rfl, vrs_of (by simpa using h) fun j x v hx hv => g (j + 1) x v (by simpa using hx) (by simpa using hv)⟩
theorem vrs_cut {w : World} {pl : Pl} {rows : Rows} {l : List PV} {us : List Value} (h : VRs w pl rows l us) (o n : Nat) : VRs w pl rows ((l.drop o).take n) ((us.drop o).take n) := by
  refine vrs_of (by simp [vrs_len h]) fun j x u hx hu => ?_
  simp only [List.getElem?_take, List.getElem?_drop] at hx hu
  by_cases hj : j < n
  · rw [if_pos hj] at hx hu
    obtain ⟨u2, g1, g2⟩ := vrs_get h _ x hx
    rw [hu] at g1
    obtain rfl := Option.some.inj g1
    exact g2
  · rw [if_neg hj] at hx; cases hx
theorem vrs_append {w : World} {pl : Pl} {rows : Rows} : ∀ {l l2 : List PV} {us us2 : List Value}, VRs w pl rows l us → VRs w pl rows l2 us2 → VRs w pl rows (l ++ l2) (us ++ us2)
  | [], _, _, _, h, h2 => by rw [show _ = [] from h]; exact h2
  | _ :: _, _, _, _, h, h2 => by
    obtain ⟨u, us, rfl, g1, g2⟩ := h
    exact ⟨u, us ++ _, rfl, g1, vrs_append g2 h2⟩

theorem cells_one {u : Value} (h : u.oneCell' = true) : u.cells.toList = [u] := by cases u <;> first | rfl | cases h

theorem vr_cells {w : World} {pl : Pl} {rows : Rows} {v : PV} {u : Value} {vs : List PV} (hv : VR w pl rows v u) (hc : cells v = some vs) :
    VRs w pl rows vs u.cells.toList ∧ ∀ x ∈ u.cells.toList, x.oneCell' = true := by
  have single : ∀ {v : PV} {u : Value}, VR w pl rows v u → u.oneCell' = true → VRs w pl rows [v] u.cells.toList ∧ ∀ x ∈ u.cells.toList, x.oneCell' = true := by
    intro v u h1 h2
    rw [cells_one h2]
    exact ⟨⟨u, [], rfl, h1, rfl⟩, by simpa using h2⟩
  cases v with
  | agg l =>
    obtain rfl := Option.some.inj hc
    obtain ⟨cs, rfl, h1, h2⟩ := hv
    exact ⟨h1, h2⟩
  | tup l => cases hc
  | und => cases hc
  | val p t x => obtain rfl := Option.some.inj hc; exact single hv (RD_one hv u (by simp))
  | nils => obtain rfl := Option.some.inj hc; exact single hv (by rw [show u = _ from hv]; rfl)
  | nilp => obtain rfl := Option.some.inj hc; exact single hv (by rw [show u = _ from hv]; rfl)
  | lit c => obtain rfl := Option.some.inj hc; exact single hv (by obtain ⟨rfl, h⟩ := hv; exact h)
  | rw r => obtain rfl := Option.some.inj hc; exact single hv hv.1.1
  | rs r o n => obtain rfl := Option.some.inj hc; exact single hv hv.1
  | ptr r o => obtain rfl := Option.some.inj hc; exact single hv hv.1.1
  | pel r i o => obtain rfl := Option.some.inj hc; exact single hv hv.1.1
  | pvl p t l i o => obtain rfl := Option.some.inj hc; exact single hv (by obtain ⟨_, _, _, _, ad, rfl, _⟩ := hv; rfl)
  | fn f l => obtain rfl := Option.some.inj hc; exact single hv (by obtain ⟨cs, rfl, _⟩ := hv; rfl)

theorem men_cells {rows : Rows} {v : PV} {vs : List PV} (hm : Men rows v) (hc : cells v = some vs) : Mens rows vs := by
  cases v <;> first
    | (cases hc; done)
    | (obtain rfl := Option.some.inj hc; exact hm)
    | (obtain rfl := Option.some.inj hc; exact ⟨hm, trivial⟩)
theorem ok_cells {rows : Rows} {v : PV} {vs : List PV} (hm : okPV rows v = true) (hc : cells v = some vs) : okPV.okAll rows vs = true := by
  cases v <;> first
    | (cases hc; done)
    | (obtain rfl := Option.some.inj hc; exact hm)
    | (obtain rfl := Option.some.inj hc; simpa [okPV.okAll] using hm)

theorem mens_cut {rows : Rows} {l : List PV} (h : Mens rows l) (o n : Nat) : Mens rows ((l.drop o).take n) := by
  have of : ∀ {k : List PV}, (∀ v ∈ k, Men rows v) → Mens rows k := by
    intro k
    induction k with
    | nil => intro _; trivial
    | cons x k ih => intro hk; exact ⟨hk x (by simp), ih fun v hv => hk v (by simp [hv])⟩
  exact of fun v hv => mens_mem h v (List.mem_of_mem_drop (List.mem_of_mem_take hv))
theorem mens_append {rows : Rows} : ∀ {l l2 : List PV}, Mens rows l → Mens rows l2 → Mens rows (l ++ l2)
  | [], _, _, h2 => h2
  | _ :: _, _, h, h2 => ⟨h.1, mens_append h.2 h2⟩

theorem vr_fromCells {w : World} {pl : Pl} {rows : Rows} {g : Bool} {l : List PV} {us : List Value} {v : PV} (h : VRs w pl rows l us) (h1 : ∀ x ∈ us, x.oneCell' = true) (hf : fromCells g l = some v) :
    ∃ u, VR w pl rows v u ∧ (if g then u = .agg us.toArray else us = [u]) := by
  cases g with
  | true =>
    obtain rfl := Option.some.inj hf
    exact ⟨.agg us.toArray, ⟨us.toArray, rfl, by simpa using h, by simpa using h1⟩, by simp⟩
  | false =>
    match l, hf with
    | [x], hf =>
      obtain rfl := Option.some.inj hf
      obtain ⟨u, us', rfl, g1, g2⟩ := h
      have : us' = [] := g2
      subst this
      exact ⟨u, g1, by simp⟩
theorem men_fromCells {rows : Rows} {g : Bool} {l : List PV} {v : PV} (h : Mens rows l) (hf : fromCells g l = some v) : Men rows v := by
  cases g with
  | true => obtain rfl := Option.some.inj hf; exact h
  | false =>
    match l, hf with
    | [x], hf => obtain rfl := Option.some.inj hf; exact h.1

theorem vr_explode {w : World} {pl : Pl} {rows : Rows} {p : Prov} : ∀ {t : Ty} {x : t.D} {es : List Value}, RD w (Safe w pl rows p) t x es → VRs w pl rows (explode p t x) es := by
  intro t
  induction t with
  | int k => intro x es h; rw [show es = _ from h]; exact ⟨_, [], rfl, rfl, rfl⟩
  | bool => intro x es h; rw [show es = _ from h]; exact ⟨_, [], rfl, rfl, rfl⟩
  | str => intro x es h; rw [show es = _ from h]; exact ⟨_, [], rfl, rfl, rfl⟩
  | unit => intro x es h; exact h
  | slice t ih => intro x es h; obtain ⟨A, c, rfl, g⟩ := h; exact ⟨_, [], rfl, ⟨A, c, rfl, g⟩, rfl⟩
  | prod a b iha ihb =>
    intro x es h
    obtain ⟨c1, c2, rfl, h1, h2⟩ := h
    exact vrs_append (iha h1) (ihb h2)
theorem provIn_nil (rows : Rows) : ProvIn rows [] := fun q hq => by cases hq
theorem men_explode {rows : Rows} {p : Prov} (hp : ProvIn rows p) : ∀ {t : Ty} {x : t.D}, Mens rows (explode p t x) := by
  intro t
  induction t with
  | int k => intro x; exact ⟨provIn_nil rows, trivial⟩
  | bool => intro x; exact ⟨provIn_nil rows, trivial⟩
  | str => intro x; exact ⟨provIn_nil rows, trivial⟩
  | unit => intro x; trivial
  | slice t ih => intro x; exact ⟨hp, trivial⟩
  | prod a b iha ihb => intro x; exact mens_append iha ihb

theorem okAll_mem {rows : Rows} : ∀ {l : List PV}, okPV.okAll rows l = true → ∀ v ∈ l, okPV rows v = true
  | _ :: _, h, v, hv => by
    simp only [okPV.okAll, Bool.and_eq_true] at h
    rcases List.mem_cons.1 hv with rfl | hv
    · exact h.1
    · exact okAll_mem h.2 v hv

/-- A part of some cells, as the model takes it. -/
theorem part_sound {P : Program} {T : TT} (hT : TTok P T) {t : Nat} {l : List PV} {off : Nat} {v : PV} (hs : subAt T t l off = some v) {w : World} {pl : Pl} {rows : Rows} {us : List Value}
    (hlen : us.length = l.length) (h : ∀ (j : Nat) (x : PV) (u : Value), l[j]? = some x → us[j]? = some u → okPV rows x = true → VR w pl rows x u) (h1 : ∀ x ∈ us, x.oneCell' = true) (hm : Mens rows l) :
    Men rows v ∧ ∃ i g u, T.at t = some i ∧ aggOf i.d = some g ∧ off + i.size ≤ us.length ∧ (okPV rows v = true → VR w pl rows v u) ∧
      (if g then u = .agg ((us.drop off).take i.size).toArray else us[off]? = some u ∧ i.size = 1) := by
  unfold subAt at hs
  split at hs
  · rename_i i hi
    split at hs
    · rename_i g hg
      split at hs
      · rename_i hle
        have hlen2 : ((us.drop off).take i.size).length = ((l.drop off).take i.size).length := by simp [hlen]
        have hcut : okPV.okAll rows ((l.drop off).take i.size) = true → VRs w pl rows ((l.drop off).take i.size) ((us.drop off).take i.size) := fun hk =>
          vrs_of hlen2 fun j x u hx hu => by
            have hx' := List.mem_of_getElem? hx
            simp only [List.getElem?_take, List.getElem?_drop] at hx hu
            by_cases hj : j < i.size
            · rw [if_pos hj] at hx hu
              exact h _ x u hx hu (okAll_mem hk x hx')
            · rw [if_neg hj] at hx; cases hx
        refine ⟨men_fromCells (mens_cut hm off i.size) hs, ?_⟩
        cases g with
        | true =>
          obtain rfl := Option.some.inj hs
          refine ⟨i, true, _, hi, hg, by omega, fun hk => ?_, by simp; rfl⟩
          exact ⟨_, rfl, by simpa using hcut hk, by simpa using fun x hx => h1 x (List.mem_of_mem_drop (List.mem_of_mem_take hx))⟩
        | false =>
          generalize hc : (l.drop off).take i.size = c at hs hlen2 hcut
          match c, hs with
          | [x], hs =>
            obtain rfl := Option.some.inj hs
            have h2 : i.size = 1 := by
              have := congrArg List.length hc
              simp at this
              omega
            have h3 : off < us.length := by omega
            refine ⟨i, false, us[off], hi, hg, by omega, fun hk => ?_, by simp [h2]⟩
            have hl : l[off]? = some x := by
              have := congrArg (fun l => l[0]?) hc
              simpa [h2] using this
            exact h off x _ hl (List.getElem?_eq_getElem h3) hk
      · cases hs
    · cases hs
  · cases hs
end

end Go.Proofs.Ytecnlienmpdlaaa.PM
