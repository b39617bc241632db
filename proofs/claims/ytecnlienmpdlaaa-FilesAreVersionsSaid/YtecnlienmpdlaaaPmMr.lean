/- The small machine PM is sound: operations on maps. -/
import Derived.Test.YtecnlienmpdlaaaPmMq
set_option linter.unusedSimpArgs false
set_option linter.unusedVariables false
namespace Go.Proofs.Ytecnlienmpdlaaa.PM
open Go

section
variable {P : Program} {B nt : Nat} {G : Nat → Prop} {pl pl' : Pl} {σ : St} {a : Act} {w w' : World} {T : TT}

theorem mapTys_spec (hT : TTok P T) {t : Nat} {kt vt : Ty} {bx : Bool} (h : mapTys T t = some (kt, vt, bx)) :
    ∃ k e, P.underlying t = some (.map k e) ∧ KeyT P kt k ∧ keyTy kt = true ∧ (bx = false → ∃ i, TIok P e i ∧ i.ty = some vt ∧ oneTy vt = true) := by
  unfold mapTys at h
  split at h
  · rename_i k e _ _ _ _ ht
    have hu := (hT _ _ ht).map rfl
    split at h
    · rename_i kd _ _ _ kt' s _ _ _ hk he
      split at h
      · split at h
        · rename_i hc
          cases h
          simp only [Bool.and_eq_true] at hc
          exact ⟨k, e, hu, ⟨_, _, hT _ _ hk, rfl, rfl, hc.1.2⟩, hc.1.1, fun hb => by cases hb⟩
        · cases h
      · cases h
    · rename_i kd _ _ _ kt' vd _ _ _ vt' hk he
      split at h
      · rename_i hc
        cases h
        simp only [Bool.and_eq_true] at hc
        exact ⟨k, e, hu, ⟨_, _, hT _ _ hk, rfl, rfl, hc.1.1.2⟩, hc.1.1.1, fun _ => ⟨_, hT _ _ he, rfl, hc.2⟩⟩
      · cases h
    · cases h
  · cases h

theorem keyOf_sound {kt : Ty} (hk : keyTy kt = true) {v : PV} {u : Value} {k : kt.D} (hv : VR w pl σ.rows v u) (h : keyOf kt v = some k) : u = keyVal kt k := by
  cases v with
  | agg l =>
    simp only [keyOf] at h
    split at h
    · rename_i hp
      split at h
      · rename_i k' hi
        cases h
        obtain ⟨cs, rfl, g1, g2⟩ := hv
        obtain ⟨c1, c2, e1, e2, e3⟩ := implode_flat (S := fun _ => False) _ (keyTy_flat hk) g1 hi
        have e3' : c2 = [] := e3
        subst e3'
        rw [List.append_nil] at e1
        refine (keyR_iff (w := w) hk).1 ⟨c1, e2, ?_⟩
        cases kt <;> simp [isProd] at hp
        simp [valAg, ← e1]
      · cases h
    · cases h
  | val p t x =>
    simp only [keyOf] at h
    split at h
    · cases h
    · rename_i hp
      simp only [leafOf] at h
      split at h
      · rename_i e
        subst e
        cases h
        have hv' : RD w (Safe w pl σ.rows p) t x [u] := hv
        cases t with
        | int i => have : [u] = [.int i x] := hv'; simpa [keyVal] using this
        | bool => have : [u] = [.bool x] := hv'; simpa [keyVal] using this
        | str => have : [u] = [.string x] := hv'; simpa [keyVal] using this
        | unit => cases hk
        | slice t => cases hk
        | prod a b => exact absurd rfl hp
      · cases h
  | nils =>
    simp only [keyOf] at h
    split at h
    · cases h
    · cases kt with
      | slice t => cases hk
      | _ => cases h
  | _ =>
    simp only [keyOf] at h
    split at h
    · cases h
    · cases h

/-! ### entries by their keys -/
theorem mget_none {kt : Ty} (hk : keyTy kt = true) {β : Type} {k : kt.D} {l : List (kt.D × β)} (h : ∀ q ∈ l, q.1 ≠ k) : mget kt k l = none ∧ mdel kt k l = l := by
  have hb : ∀ q ∈ l, kt.beq k q.1 = false := fun q hq => by
    cases hb : kt.beq k q.1 with
    | false => rfl
    | true => exact absurd ((beq_iff hk).1 hb).symm (h q hq)
  constructor
  · unfold mget
    rw [List.find?_eq_none.2 (fun q hq => by rw [hb q hq]; simp)]
    rfl
  · unfold mdel
    exact List.filter_eq_self.2 fun q hq => by rw [hb q hq]; rfl
theorem mget_at {kt : Ty} (hk : keyTy kt = true) {β : Type} {k : kt.D} {v : β} : ∀ {l : List (kt.D × β)} {j : Nat}, (l.map (·.1)).Nodup → l[j]? = some (k, v) → mget kt k l = some v ∧ mdel kt k l = l.eraseIdx j
  | [], j, _, h => by simp at h
  | (k0, v0) :: l, 0, hn, h => by
    simp only [List.getElem?_cons_zero, Option.some.injEq, Prod.mk.injEq] at h
    obtain ⟨rfl, rfl⟩ := h
    rw [List.map_cons, List.nodup_cons] at hn
    have hb : kt.beq k0 k0 = true := (beq_iff hk).2 rfl
    obtain ⟨_, h2⟩ := mget_none (l := l) hk (k := k0) fun q hq e => hn.1 (e ▸ List.mem_map.2 ⟨q, hq, rfl⟩)
    constructor
    · simp [mget, List.find?_cons, hb]
    · unfold mdel at h2 ⊢
      rw [List.filter_cons_of_neg (by simp [hb]), h2]
      rfl
  | (k0, v0) :: l, j + 1, hn, h => by
    have h' : l[j]? = some (k, v) := by simpa using h
    rw [List.map_cons, List.nodup_cons] at hn
    have hne : kt.beq k k0 = false := by
      cases hb : kt.beq k k0 with
      | false => rfl
      | true =>
        have e := (beq_iff hk).1 hb
        subst e
        exact absurd (List.mem_map.2 ⟨_, List.mem_of_getElem? h', rfl⟩) hn.1
    obtain ⟨h1, h2⟩ := mget_at hk (l := l) hn.2 h'
    constructor
    · unfold mget at h1 ⊢
      rw [List.find?_cons, hne]
      exact h1
    · unfold mdel at h2 ⊢
      rw [List.filter_cons_of_pos (by simp [hne]), h2]
      rfl

theorem Ents_key {S : Nat → Prop} {ok : Prop} {kt vt : Ty} {bx : Bool} : ∀ {l : List (kt.D × vt.D)} {es : List MapEntry} {bs : List Nat}, Ents w S ok kt vt bx l es bs → ∀ (j : Nat) (e : MapEntry), es[j]? = some e → ∃ k v, l[j]? = some (k, v) ∧ KeyR w kt k e.key
  | [], es, bs, h, j, e, hj => by rw [h.1] at hj; simp at hj
  | (k, v) :: l, es, bs, h, j, e, hj => by
    obtain ⟨e0, es', b1, b2, rfl, h2, h3, h4, h5⟩ := h
    cases j with
    | zero =>
      simp at hj
      subst hj
      exact ⟨k, v, rfl, h3⟩
    | succ j => simpa using Ents_key h5 j e (by simpa using hj)

theorem map_keys {S : Nat → Prop} {ok : Prop} {kt vt : Ty} {bx : Bool} (hk : keyTy kt = true) {l : List (kt.D × vt.D)} {es1 st es : List MapEntry} {bs : List Nat} {tk : Option (kt.D × Nat)} (h : Ents w S ok kt vt bx l es1 bs) (ht : Taken w pl σ.rows kt bx tk st)
    (hp : es.Perm (es1 ++ st)) : ∀ e ∈ es, ∃ k', e.key = keyVal kt k' := by
  intro e he
  rcases List.mem_append.1 (hp.mem_iff.1 he) with he | he
  · obtain ⟨j, hj⟩ := List.getElem?_of_mem he
    obtain ⟨k, v, _, g⟩ := Ents_key h j e hj
    exact ⟨k, (keyR_iff hk).1 g⟩
  · cases tk with
    | none =>
      have : st = [] := ht
      rw [this] at he; cases he
    | some q =>
      obtain ⟨k, r⟩ := q
      rcases ht.2 with ⟨_, h0⟩ | ⟨e', h0, h1, _⟩
      · rw [h0] at he; cases he
      · rw [h0] at he
        simp at he
        subst he
        exact ⟨k, (keyR_iff hk).1 h1⟩

theorem isMap {r n : Nat} {p : Prov} {kt vt : Ty} {bx : Bool} {l : List (kt.D × vt.D)} {tk : Option (kt.D × Nat)} {u : Value} (hv : VR w pl σ.rows (.rw r) u) (hr : σ.rows r = some ⟨n, .mp 0 p kt vt bx l tk⟩) :
    ∃ b, pl.loc r = some (b, 0) ∧ u = .map (some b) := hv.1.2 _ _ _ _ _ _ _ hr

theorem op_makeMap {o : Oper} {t : Nat} {out : Out} {key : Nat} (hT : TTok P T) (R : Rel B G pl σ a w) (hn : nt ≤ a.tmps.size) (hZ : ∀ b, pl.Z b → b < B) (hB : B ≤ w.heap.size) (hk : σ.rows key = none) (h0 : key ≠ 0) (ho : o.op = .makeMap t none)
    (h : opOut T key o.op (look σ) σ.rows = some out) : Goes P B nt G pl σ a w o out := by
  rw [ho] at h
  simp only [opOut] at h
  split at h
  · rename_i kt vt bx hm
    obtain rfl := Option.some.inj h
    obtain ⟨k, e, hu, hkt, hky, _⟩ := mapTys_spec hT hm
    have hold := fun b hb => heap_new w (.map #[] 0) b hb
    obtain ⟨S, Q⟩ := R.grow (w' := w.alloc (.map #[] 0)) (rows1 := σ.rows) (s := ⟨0, .mp 0 [] kt vt bx [] none⟩) (kl := some (w.heap.size, 0)) (dst := o.dst) (ov := some (.rw key)) (u := .map (some w.heap.size)) hn hZ hB hk h0 (Wane.refl _) (by simp)
      (fun b hb => .inl (hold b hb)) (blk_of hold) (fun b o h => by cases h; exact ⟨by simp, .inl (Nat.le_refl _)⟩)
      (fun S => ⟨provIn_nil _, hky, w.heap.size, [], [], [], by rw [loc_put, if_pos rfl], ⟨#[], 0, heap_at w _, List.Perm.refl _, fun e he => (by simp at he), by simp⟩, ⟨rfl, rfl⟩, rfl, by simp [keysOf], List.nodup_nil, fun x hx => by cases hx⟩)
      (fun S => ⟨fun v ev => by
        cases ev
        refine ⟨by simp [Men, upd_at], fun _ => ⟨⟨rfl, fun n p kt vt bx l tk hr => ⟨w.heap.size, by rw [loc_put, if_pos rfl], rfl⟩⟩, fun n p t l hr => (by rw [upd_at, if_pos rfl] at hr; cases hr)⟩⟩, fun ev => by cases ev⟩)
    refine ⟨_, _, _, .inl ?_, S, ⟨rfl, rfl, rfl⟩, Q⟩
    have e : execOp a.eval o = (do let v ← Instr.makeMap t none; pure (.value v)) := by simp only [execOp, ho]; rfl
    rw [e]
    rfl
  · cases h

/-- A look at a map in the model. -/
theorem run_lookup {t k e : Nat} {kt : Ty} (hu : P.underlying t = some (.map k e)) (hkt : KeyT P kt k) (hky : keyTy kt = true) (kk : kt.D) {b clock : Nat} {es : Array MapEntry} (hb : w.heap[b]? = some (.map es clock)) {res : Option (Nat × Value)}
    (hf : (Instr.findKey k (keyVal kt kk) es.toList).run P w = .ok res w) {z : Value} (hz : (zeroValue e).run P w = .ok z w) (ok : Bool) :
    (Instr.lookup t (.map (some b)) (keyVal kt kk) ok).run P w = .ok (if ok then .tuple #[((res.map (·.2)).getD z), .bool res.isSome] else (res.map (·.2)).getD z) w := by
  have hc := run_check (P := P) (w := w) hkt hky kk es.isEmpty
  unfold Instr.lookup
  cases res with
  | none => simp [run_underlying hu, MapKept.run_getObj_map hb, hc, hf, hz, Result.andThen, go_sem]
  | some q =>
    obtain ⟨j, v⟩ := q
    simp [run_underlying hu, MapKept.run_getObj_map hb, hc, hf, Result.andThen, go_sem]

theorem zero_one {t : Nat} {i : TI} {ty : Ty} (h : TIok P t i) (hty : i.ty = some ty) (h1 : oneTy ty = true) : (zeroValue t).run P w = .ok ((zeroCells ty).headD undef) w := by
  have := h.one ty hty h1
  obtain ⟨x, hx, hz⟩ := Option.map_eq_some_iff.1 this
  simp [zeroValue, typeInfo, hx, hz, go_sem]
end
end Go.Proofs.Ytecnlienmpdlaaa.PM
