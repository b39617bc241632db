import Derived.Test.YtecnlienmpdlaaaGreatPmX
set_option linter.unusedSimpArgs false
set_option linter.unusedVariables false
namespace Go.Proofs.YtecnlienmpdlaaaGreat.PM
open Go
section
variable {P : Program} {B nt : Nat} {G : Nat → Prop} {pl pl' : Pl} {σ : St} {a : Act} {w w' : World} {T : TT}
theorem Q46 (hT : TTok P T) {t : Nat} {kt vt : Ty} {bx : Bool} (h : mapTys T t = some (kt, vt, bx)) :
  ∃ k e, P.underlying t = some (.map k e) ∧ KeyT P kt k ∧ keyTy kt = true ∧ (bx = false → ∃ i, TIok P e i ∧ i.ty = some vt ∧ oneTy vt = true) := by
 unfold mapTys at h
 split at h
 ·rename_i k e _ _ _ _ ht
  have hu := (hT _ _ ht).map rfl
  split at h
  ·rename_i kd _ _ _ kt' s _ _ _ hk he
   split at h
   ·split at h
    ·rename_i hc
     cases h
     simp only [Bool.and_eq_true] at hc
     exact ⟨k, e, hu, ⟨_, _, hT _ _ hk, rfl, rfl, hc.1.2⟩, hc.1.1, fun hb => by cases hb⟩
    ·cases h
   ·cases h
  ·rename_i kd _ _ _ kt' vd _ _ _ vt' hk he
   split at h
   ·rename_i hc
    cases h
    simp only [Bool.and_eq_true] at hc
    exact ⟨k, e, hu, ⟨_, _, hT _ _ hk, rfl, rfl, hc.1.1.2⟩, hc.1.1.1, fun _ => ⟨_, hT _ _ he, rfl, hc.2⟩⟩
   ·cases h
  ·cases h
 ·cases h
theorem Qcj {kt : Ty} (hk : keyTy kt = true) {v : PV} {u : Value} {k : kt.D} (hv : VR w pl σ.rows v u) (h : keyOf kt v = some k) : u = keyVal kt k := by
 cases v with
 | agg l =>
   simp only [keyOf] at h
   split at h
   ·rename_i hp
    split at h
    ·rename_i k' hi
     cases h
     obtain ⟨cs, rfl, g1, g2⟩ := hv
     obtain ⟨c1, c2, e1, e2, e3⟩ := Q5j (S := fun _ => False) _ (Qtn hk) g1 hi
     have e3' : c2 = [] := e3
     subst e3'
     rw [List.append_nil] at e1
     refine (Q2v (w := w) hk).1 ⟨c1, e2, ?_⟩
     cases kt <;> simp [isProd] at hp
     simp [valAg, ← e1]
    ·cases h
   ·cases h
 | val p t x =>
   simp only [keyOf] at h
   split at h
   ·cases h
   ·rename_i hp
    simp only [leafOf] at h
    split at h
    ·rename_i e
     subst e
     cases h
     have hv' : RD w (Safe w pl σ.rows p) t x [u] := hv
     cases t with
     | int i => have : [u] = [.int i x] := hv'; simpa [keyVal] using this
     | bool => have : [u] = [.bool x] := hv'; simpa [keyVal] using this
     | str => have : [u] = [.string x] := hv'; simpa [keyVal] using this
     | unit => cases hk
     | slice t => cases hk
     | prod a b => exact absurd rfl hp
    ·cases h
 | nils =>
   simp only [keyOf] at h
   split at h
   ·cases h
   ·cases kt with
    | slice t => cases hk
    | _ => cases h
 | _ =>
   simp only [keyOf] at h
   split at h
   ·cases h
   ·cases h
theorem Q5m {kt : Ty} (hk : keyTy kt = true) {β : Type} {k : kt.D} {l : List (kt.D × β)} (h : ∀ q ∈ l, q.1 ≠ k) : mget kt k l = none ∧ mdel kt k l = l := by
 have hb : ∀ q ∈ l, kt.beq k q.1 = false := fun q hq => by
  cases hb : kt.beq k q.1 with
  | false => rfl
  | true => exact absurd ((Q16 hk).1 hb).symm (h q hq)
 constructor
 ·unfold mget
  rw [List.find?_eq_none.2 (fun q hq => by rw [hb q hq]; simp)]
  rfl
 ·unfold mdel
  exact List.filter_eq_self.2 fun q hq => by rw [hb q hq]; rfl
theorem Qcp {kt : Ty} (hk : keyTy kt = true) {β : Type} {k : kt.D} {v : β} : ∀ {l : List (kt.D × β)} {j : Nat}, (l.map (·.1)).Nodup → l[j]? = some (k, v) → mget kt k l = some v ∧ mdel kt k l = l.eraseIdx j
 | [], j, _, h => by simp at h
 | (k0, v0) :: l, 0, hn, h => by
   simp only [List.getElem?_cons_zero, Option.some.injEq, Prod.mk.injEq] at h
   obtain ⟨rfl, rfl⟩ := h
   rw [List.map_cons, List.nodup_cons] at hn
   have hb : kt.beq k0 k0 = true := (Q16 hk).2 rfl
   obtain ⟨_, h2⟩ := Q5m (l := l) hk (k := k0) fun q hq e => hn.1 (e ▸ List.mem_map.2 ⟨q, hq, rfl⟩)
   constructor
   ·simp [mget, List.find?_cons, hb]
   ·unfold mdel at h2 ⊢
    rw [List.filter_cons_of_neg (by simp [hb]), h2]
    rfl
 | (k0, v0) :: l, j + 1, hn, h => by
   have h' : l[j]? = some (k, v) := by simpa using h
   rw [List.map_cons, List.nodup_cons] at hn
   have hne : kt.beq k k0 = false := by
    cases hb : kt.beq k k0 with
    | false => rfl
    | true =>
      have e := (Q16 hk).1 hb
      subst e
      exact absurd (List.mem_map.2 ⟨_, List.mem_of_getElem? h', rfl⟩) hn.1
   obtain ⟨h1, h2⟩ := Qcp hk (l := l) hn.2 h'
   constructor
   ·unfold mget at h1 ⊢
    rw [List.find?_cons, hne]
    exact h1
   ·unfold mdel at h2 ⊢
    rw [List.filter_cons_of_pos (by simp [hne]), h2]
    rfl
theorem Qgb {S : Nat → Prop} {ok : Prop} {kt vt : Ty} {bx : Bool} : ∀ {l : List (kt.D × vt.D)} {es : List MapEntry} {bs : List Nat}, Ents w S ok kt vt bx l es bs → ∀ (j : Nat) (e : MapEntry), es[j]? = some e → ∃ k v, l[j]? = some (k, v) ∧ KeyR w kt k e.key
 | [], es, bs, h, j, e, hj => by rw [h.1] at hj; simp at hj
 | (k, v) :: l, es, bs, h, j, e, hj => by
   obtain ⟨e0, es', b1, b2, rfl, h2, h3, h4, h5⟩ := h
   cases j with
   | zero =>
     simp at hj
     subst hj
     exact ⟨k, v, rfl, h3⟩
   | succ j => simpa using Qgb h5 j e (by simpa using hj)
theorem Q16m {S : Nat → Prop} {ok : Prop} {kt vt : Ty} {bx : Bool} (hk : keyTy kt = true) {l : List (kt.D × vt.D)} {es1 st es : List MapEntry} {bs : List Nat} {tk : Option (kt.D × Nat)} (h : Ents w S ok kt vt bx l es1 bs) (ht : Taken w pl σ.rows kt bx tk st)
  (hp : es.Perm (es1 ++ st)) : ∀ e ∈ es, ∃ k', e.key = keyVal kt k' := by
 intro e he
 rcases List.mem_append.1 (hp.mem_iff.1 he) with he | he
 ·obtain ⟨j, hj⟩ := List.getElem?_of_mem he
  obtain ⟨k, v, _, g⟩ := Qgb h j e hj
  exact ⟨k, (Q2v hk).1 g⟩
 ·cases tk with
  | none =>
    have : st = [] := ht
    rw [this] at he; cases he
  | some q =>
    obtain ⟨k, r⟩ := q
    rcases ht.2 with ⟨_, h0⟩ | ⟨e', h0, h1, _⟩
    ·rw [h0] at he; cases he
    ·rw [h0] at he
     simp at he
     subst he
     exact ⟨k, (Q2v hk).1 h1⟩
theorem isMap {r n : Nat} {p : Prov} {kt vt : Ty} {bx : Bool} {l : List (kt.D × vt.D)} {tk : Option (kt.D × Nat)} {u : Value} (hv : VR w pl σ.rows (.rw r) u) (hr : σ.rows r = some ⟨n, .mp 0 p kt vt bx l tk⟩) :
  ∃ b, pl.loc r = some (b, 0) ∧ u = .map (some b) := hv.1.2 _ _ _ _ _ _ _ hr
theorem Qtu {o : Oper} {t : Nat} {out : Out} {key : Nat} (hT : TTok P T) (R : Rel B G pl σ a w) (hn : nt ≤ a.tmps.size) (hZ : ∀ b, pl.Z b → b < B) (hB : B ≤ w.heap.size) (hk : σ.rows key = none) (h0 : key ≠ 0) (ho : o.op = .makeMap t none)
  (h : opOut T key o.op (look σ) σ.rows = some out) : Goes P B nt G pl σ a w o out := by
 rw [ho] at h
 simp only [opOut] at h
 split at h
 ·rename_i kt vt bx hm
  obtain rfl := oi h
  obtain ⟨k, e, hu, hkt, hky, _⟩ := Q46 hT hm
  have hold := fun b hb => Q6i w (.map #[] 0) b hb
  obtain ⟨S, Q⟩ := R.grow (w' := w.alloc (.map #[] 0)) (rows1 := σ.rows) (s := ⟨0, .mp 0 [] kt vt bx [] none⟩) (kl := some (w.heap.size, 0)) (dst := o.dst) (ov := some (.rw key)) (u := .map (some w.heap.size)) hn hZ hB hk h0 (Wane.refl _) (by simp)
   (fun b hb => .inl (hold b hb)) (Qqg hold) (fun b o h => by cases h; exact ⟨by simp, .inl (Nat.le_refl _)⟩)
   (fun S => ⟨Qa _, hky, w.heap.size, [], [], [], by rw [Q1j, if_pos rfl], ⟨#[], 0, Q8z w _, List.Perm.refl _, fun e he => (by simp at he), by simp⟩, ⟨rfl, rfl⟩, rfl, by simp [keysOf], List.nodup_nil, fun x hx => by cases hx⟩)
   (fun S => ⟨fun v ev => by
    cases ev
    refine ⟨by simp [Men, Q8], fun _ => ⟨⟨rfl, fun n p kt vt bx l tk hr => ⟨w.heap.size, by rw [Q1j, if_pos rfl], rfl⟩⟩, fun n p t l hr => (by rw [Q8, if_pos rfl] at hr; cases hr)⟩⟩, fun ev => by cases ev⟩)
  refine ⟨_, _, _, .inl ?_, S, ⟨rfl, rfl, rfl⟩, Q⟩
  have e : execOp a.eval o = (do let v ← Instr.makeMap t none; pure (.value v)) := by simp only [execOp, ho]; rfl
  rw [e]
  rfl
 ·cases h
theorem Qtw {t k e : Nat} {kt : Ty} (hu : P.underlying t = some (.map k e)) (hkt : KeyT P kt k) (hky : keyTy kt = true) (kk : kt.D) {b clock : Nat} {es : Array MapEntry} (hb : w.heap[b]? = some (.map es clock)) {res : Option (Nat × Value)}
  (hf : (Instr.findKey k (keyVal kt kk) es.toList).run P w = .ok res w) {z : Value} (hz : (zeroValue e).run P w = .ok z w) (ok : Bool) :
  (Instr.lookup t (.map (some b)) (keyVal kt kk) ok).run P w = .ok (if ok then .tuple #[((res.map (·.2)).getD z), .bool res.isSome] else (res.map (·.2)).getD z) w := by
 have hc := Qmf (P := P) (w := w) hkt hky kk es.isEmpty
 unfold Instr.lookup
 cases res with
 | none => simp [run_underlying hu, MapKept.run_getObj_map hb, hc, hf, hz, Result.andThen, go_sem]
 | some q =>
   obtain ⟨j, v⟩ := q
   simp [run_underlying hu, MapKept.run_getObj_map hb, hc, hf, Result.andThen, go_sem]
theorem Q17j {t : Nat} {i : TI} {ty : Ty} (h : TIok P t i) (hty : i.ty = some ty) (h1 : oneTy ty = true) : (zeroValue t).run P w = .ok ((zeroCells ty).headD undef) w := by
 have := h.one ty hty h1
 obtain ⟨x, hx, hz⟩ := Option.map_eq_some_iff.1 this
 simp [zeroValue, typeInfo, hx, hz, go_sem]
end
section
variable {P : Program} {B nt : Nat} {G : Nat → Prop} {pl pl' : Pl} {σ : St} {a : Act} {w w' : World} {T : TT}
theorem Qfd {kt vt : Ty} {l : List (kt.D × vt.D)} {tk : Option (kt.D × Nat)} (h : (keysOf l tk).Nodup) : (l.map (·.1)).Nodup := by
 unfold keysOf at h
 exact (List.nodup_append.1 h).1
theorem Qf4 {S : Nat → Prop} {ok : Prop} {kt vt : Ty} {bx : Bool} {t : Nat} (hkt : KeyT P kt t) (hky : keyTy kt = true) {l : List (kt.D × vt.D)} {es1 st : List MapEntry} {es : Array MapEntry} {bs : List Nat} {tk : Option (kt.D × Nat)}
  (hE : Ents w S ok kt vt bx l es1 bs) (hT : Taken w pl σ.rows kt bx tk st) (hp : es.toList.Perm (es1 ++ st)) (hnd : (keysOf l tk).Nodup) (k : kt.D) :
  ∃ res, (Instr.findKey t (keyVal kt k) es.toList).run P w = .ok res w ∧
    ((res = none ∧ (∀ q ∈ l, q.1 ≠ k) ∧ ∀ e ∈ st, e.key ≠ keyVal kt k) ∨
     (∃ (i : Nat) (e : MapEntry) (j : Nat) (v : vt.D), es[i]? = some e ∧ e.key = keyVal kt k ∧ res = some (i, e.val) ∧ es1[j]? = some e ∧ l[j]? = some (k, v)) ∨
     (∃ (i : Nat) (e : MapEntry), es[i]? = some e ∧ e.key = keyVal kt k ∧ res = some (i, e.val) ∧ st = [e] ∧ (∀ q ∈ l, q.1 ≠ k) ∧ ∃ r, tk = some (k, r))) := by
 obtain ⟨res, h1, h2⟩ := Q178 (P := P) (w := w) hkt hky k es.toList (Q16m (pl := pl) (σ := σ) hky hE hT hp)
 refine ⟨res, h1, ?_⟩
 rcases h2 with ⟨h2, h3⟩ | ⟨i, e, g1, g2, g3⟩
 ·refine .inl ⟨h2, fun q hq e => ?_, fun e he => h3 e (hp.mem_iff.2 (List.mem_append_right _ he))⟩
  obtain ⟨j, hj⟩ := List.getElem?_of_mem hq
  obtain ⟨q1, q2⟩ := q
  obtain ⟨en, bk, bs', f1, f2, _⟩ := Q8r hE j q1 q2 hj
  refine h3 en (hp.mem_iff.2 (List.mem_append_left _ (List.mem_of_getElem? f1))) ?_
  rw [(Q2v hky).1 f2, ← e]
 ·have g1' : es[i]? = some e := by rw [← Array.getElem?_toList]; exact g1
  rcases List.mem_append.1 (hp.mem_iff.1 (List.mem_of_getElem? g1)) with he | he
  ·obtain ⟨j, hj⟩ := List.getElem?_of_mem he
   obtain ⟨k', v, e1, e2⟩ := Qgb hE j e hj
   have := Q92 hky (((Q2v hky).1 e2).symm.trans g2)
   subst this
   exact .inr (.inl ⟨i, e, j, v, g1', g2, g3, hj, e1⟩)
  ·right; right
   cases tk with
   | none =>
     have : st = [] := hT
     rw [this] at he; cases he
   | some q =>
     obtain ⟨k', r⟩ := q
     rcases hT.2 with ⟨_, h0⟩ | ⟨e', h0, h4, _⟩
     ·rw [h0] at he; cases he
     ·rw [h0] at he
      simp at he
      subst he
      have := Q92 hky (((Q2v hky).1 h4).symm.trans g2)
      subst this
      refine ⟨i, e, g1', g2, g3, h0, fun q hq eq => ?_, r, rfl⟩
      simp only [keysOf, Option.map_some, Option.toList_some] at hnd
      exact (List.nodup_append.1 hnd).2.2 _ (List.mem_map.2 ⟨q, hq, rfl⟩) _ (List.mem_singleton.2 rfl) eq
theorem Q140 (hT : TTok P T) (R : Rel B G pl σ a w) (hn : nt ≤ a.tmps.size) (hZ : ∀ b, pl.Z b → b < B) (hB : B ≤ w.heap.size) {key : Nat} (hk : σ.rows key = none) (h0 : key ≠ 0) {r n : Nat} {p : Prov} {kt t : Ty} {l : List (kt.D × (Ty.slice t).D)} {kk : kt.D}
  (hr : σ.rows r = some ⟨n, .mp 0 p kt (.slice t) false l none⟩) (hky : keyTy kt = true) {dst : Option Nat} {u : Value} {loc : Option (Nat × Nat)} {es2 st2 : List MapEntry} {bk bs2 bs : List Nat} {b clock : Nat} {es : Array MapEntry}
  (hp : ProvIn σ.rows p) (hb : pl.loc r = some (b, 0)) (hm : w.heap[b]? = some (.map es clock)) (hborn : (∀ e ∈ es.toList, e.born < clock) ∧ (es.toList.map (·.born)).Nodup) (hperm : es.toList.Perm (es2 ++ st2))
  (hE : Ents w (Safe w pl σ.rows p) (okProv σ.rows p = true) kt (.slice t) false (mdel kt kk l) es2 bs2) (hbs : bs.Perm (bk ++ bs2)) (hnd : bs.Nodup) (hhid : ∀ x ∈ bs, pl.hid r x) (hkeys : (keysOf (mdel kt kk l) (some (kk, key))).Nodup)
  (hbk : bk = (loc.map (·.1)).toList) (hA : ArrAt w (Safe w pl σ.rows p) loc (okProv σ.rows p = true) t ((mget kt kk l).getD [])) (hS : SlAt w loc t.size 0 ((mget kt kk l).getD []).length u) (h1 : u.oneCell' = true)
  (hst : st2 = [] ∨ ∃ e, st2 = [e] ∧ KeyR w kt kk e.key ∧ e.val = u) (hcell : ∀ x ∈ bk, ∃ (arr : Array Value) (T : TypeId) (fr : Nat × Nat), w.heap[x]? = some (Obj.cells arr T fr)) :
  ∃ pl', Step w pl σ.rows w pl' (upd (upd σ.rows r (some ⟨n + 1, .mp 0 p kt (.slice t) false (mdel kt kk l) (some (kk, key))⟩)) key (some ⟨0, .arr p t ((mget kt kk l).getD [])⟩)) ∧
    Rel B G pl' ⟨putDst nt σ.env dst (some (.rw key)), upd (upd σ.rows r (some ⟨n + 1, .mp 0 p kt (.slice t) false (mdel kt kk l) (some (kk, key))⟩)) key (some ⟨0, .arr p t ((mget kt kk l).getD [])⟩)⟩ (a.put dst u) w := by
 have r0 : r ≠ 0 := by rintro rfl; rw [R.zero] at hr; cases hr
 have rk : r ≠ key := by rintro rfl; rw [hk] at hr; cases hr
 have hlv : RowS.live ⟨n, .mp 0 p kt (.slice t) false l none⟩ := by simp [RowS.live]
 generalize hrows : upd (upd σ.rows r (some ⟨n + 1, .mp 0 p kt (.slice t) false (mdel kt kk l) (some (kk, key))⟩)) key (some ⟨0, .arr p t ((mget kt kk l).getD [])⟩) = rows'
 have atr : rows' r = some ⟨n + 1, .mp 0 p kt (.slice t) false (mdel kt kk l) (some (kk, key))⟩ := by rw [← hrows, Q8, if_neg rk, Q8, if_pos rfl]
 have atk : rows' key = some ⟨0, .arr p t ((mget kt kk l).getD [])⟩ := by rw [← hrows, Q8, if_pos rfl]
 have ato : ∀ x, x ≠ r → x ≠ key → rows' x = σ.rows x := fun x h1 h2 => by rw [← hrows, Q8, if_neg h2, Q8, if_neg h1]
 obtain ⟨pl', hpl⟩ : ∃ pl' : Pl, pl' = ⟨upd pl.loc key loc, pl.Z, pl.L, fun x c => (x = r ∧ pl.hid r c ∧ c ∉ bk) ∨ (x ≠ r ∧ x ≠ key ∧ pl.hid x c)⟩ := ⟨_, rfl⟩
 have locr : pl'.loc r = pl.loc r := by rw [hpl]; simp [upd, rk]
 have lock : pl'.loc key = loc := by rw [hpl]; simp [upd]
 have hidr : ∀ c, pl'.hid r c ↔ pl.hid r c ∧ c ∉ bk := by intro c; rw [hpl]; simp
 have hidk : ∀ c, ¬ pl'.hid key c := by
  intro c hc
  rw [hpl] at hc
  rcases hc with ⟨e, _⟩ | ⟨_, e, _⟩
  ·exact rk e.symm
  ·exact e rfl
 have bkmem : ∀ c o, loc = some (c, o) → c ∈ bk := by intro c o e; rw [hbk, e]; simp
 have bkbs : ∀ c ∈ bk, c ∈ bs := fun c hc => hbs.mem_iff.2 (List.mem_append_left _ hc)
 have sl : ∀ {w0 : World} {pl0 : Pl} {rows0 : Rows}, pl0.loc key = loc → w0 = w → VR w0 pl0 rows0 (.rw key) u ∨ rows0 key ≠ some ⟨0, .arr p t ((mget kt kk l).getD [])⟩ := by
  intro w0 pl0 rows0 hl hw
  by_cases hx : rows0 key = some ⟨0, .arr p t ((mget kt kk l).getD [])⟩
  ·left
   subst hw
   refine ⟨⟨h1, fun n p kt vt bx l tk hr => (by rw [hx] at hr; cases hr)⟩, fun n' p' t' l' hr => ?_⟩
   rw [hx] at hr
   cases hr
   obtain ⟨A, c, e1, e2, e3⟩ := hS
   exact ⟨A, c, e1, e2, fun hc => by rw [hl]; exact e3 hc⟩
  ·exact .inr hx
 have vrk : VR w pl' rows' (.rw key) u := by
  rcases sl (w0 := w) (pl0 := pl') (rows0 := rows') lock rfl with h | h
  ·exact h
  ·exact absurd atk h
 refine ⟨pl', R.alter (nt := nt) (w' := w) (pl' := pl') (rows' := rows') (dst := dst) (ov := some (.rw key)) (u := u) hn hZ hB (fun x => x = r ∨ x = key) (by rw [hpl]) (by rw [hpl]) (Nat.le_refl _) (fun x hx => ?_) (fun x s hx hs => ?_) (fun x s c o hx hs hl ha => ?_)
  (fun x x' s s' c o o' hx hx' hs hl hs' hl' ha ha' => ?_) (fun c hc h => rfl) (fun c arr Te fr hc => ⟨arr, Te, fr, hc, rfl⟩) (by rw [ato 0 (Ne.symm r0) (Ne.symm h0)]; exact R.zero) (fun S x s hx hs => ?_) (fun S => ⟨fun v ev => ?_, fun ev => by cases ev⟩)⟩
 ·have x1 : x ≠ r := fun e => hx (.inl e)
  have x2 : x ≠ key := fun e => hx (.inr e)
  refine ⟨ato x x1 x2, by rw [hpl]; simp [upd, x2], ?_⟩
  funext c
  rw [hpl]
  simp [x1, x2]
 ·rcases hx with rfl | rfl
  ·rw [hr] at hs
   cases hs
   exact ⟨_, atr, ⟨by simp, .inr (.inr (.inr (.inr ⟨_, _, _, _, _, _, _, _, _, _, _, rfl, rfl, Iff.rfl, by simp⟩)))⟩, by simp, fun _ => locr⟩
  ·rw [hk] at hs; cases hs
 ·right
  refine ⟨r, _, o, .inl rfl, hr, hlv, ?_⟩
  rcases hx with rfl | rfl
  ·rcases ha with ha | ha
   ·exact .inl (locr ▸ ha)
   ·exact .inr ((hidr c).1 ha).1
  ·rcases ha with ha | ha
   ·exact .inr (hhid c (bkbs c (bkmem c o (lock ▸ ha))))
   ·exact absurd ha (hidk c)
 ·have clash : ∀ {c o o'}, pl'.at r c o → pl'.at key c o' → False := by
   intro c o o' h1 h2
   rcases h2 with h2 | h2
   ·have hc := bkmem c o' (lock ▸ h2)
    rcases h1 with h1 | h1
    ·rw [locr, hb] at h1
     cases h1
     exact Q8h (hcell _ hc) hm (by simp) rfl
    ·exact ((hidr c).1 h1).2 hc
   ·exact hidk c h2
  rcases hx with rfl | rfl
  ·rcases hx' with rfl | rfl
   ·rfl
   ·exact (clash ha ha').elim
  ·rcases hx' with rfl | rfl
   ·exact (clash ha' ha).elim
   ·rfl
 ·rcases hx with rfl | rfl
  ·rw [atr] at hs
   cases hs
   refine ⟨S.provIn hp, hky, b, es2, st2, bs2, locr.trans hb, ⟨es, clock, hm, hperm, hborn⟩, hE.frame (fun hok => ⟨S.okProv hp hok, fun c hc => S.safe hp hok hc⟩) (fun _ _ => rfl), ⟨?_, ?_⟩, hkeys, ?_, fun c hc => (hidr c).2 ⟨hhid c (hbs.mem_iff.2 (List.mem_append_right _ hc)), fun hc' => ?_⟩⟩
   ·show rows' key ≠ none
    rw [atk]; simp
   ·rcases hst with h | ⟨e, e1, e2, e3⟩
    ·exact .inl ⟨rfl, h⟩
    ·exact .inr ⟨e, e1, e2, by rw [e3]; exact vrk⟩
   ·exact (List.nodup_append.1 ((List.Perm.nodup_iff hbs).1 hnd)).2.1
   ·exact (List.nodup_append.1 ((List.Perm.nodup_iff hbs).1 hnd)).2.2 c hc' c hc rfl
  ·rw [atk] at hs
   cases hs
   refine ⟨S.provIn hp, ?_⟩
   have := hA.frame (w' := w) (S' := Safe w pl' rows' p) (ok' := okProv rows' p = true) (fun hok => ⟨S.okProv hp hok, fun c hc => S.safe hp hok hc⟩) (fun _ _ _ => rfl)
   rw [lock]
   exact this
 ·cases ev
  exact ⟨by show rows' key ≠ none; rw [atk]; simp, fun _ => vrk⟩
theorem Q14a {o : Oper} {t : Nat} {m x : Operand} {ok : Bool} {out : Out} {key : Nat} (hT : TTok P T) (R : Rel B G pl σ a w) (hn : nt ≤ a.tmps.size) (hZ : ∀ b, pl.Z b → b < B) (hB : B ≤ w.heap.size) (hk : σ.rows key = none) (h0 : key ≠ 0) (ho : o.op = .lookup t m x ok)
  (h : opOut T key o.op (look σ) σ.rows = some out) : Goes P B nt G pl σ a w o out := by
 rw [ho] at h
 simp only [opOut] at h
 split at h
 ·rename_i q r kv hq hmv hxv
  split at h
  ·rename_i n p kt vt l hr
   split at h
   ·rename_i hqq
    subst hqq
    split at h
    ·rename_i k hkk
     obtain ⟨kid, eid, hu, hkt, hky, hel⟩ := Q46 hT hq
     obtain ⟨ei, hei, hev, hone⟩ := hel rfl
     obtain ⟨_, vm, _⟩ := R.look hmv
     obtain ⟨_, vx, _⟩ := R.look hxv
     obtain ⟨b, hb, em⟩ := isMap vm hr
     have ex := Qcj hky vx hkk
     obtain ⟨g1, _, b', es1, st, bs, e1, ⟨es, clock, m1, m2, m3, m4⟩, e4, e5, e6, e7, e8⟩ := R.rows _ _ hr
     rw [hb] at e1
     cases e1
     have hst : st = [] := e5
     subst hst
     have hz := Q17j (w := w) hei hev hone
     obtain ⟨res, f1, f2⟩ := Qf4 (P := P) hkt hky e4 e5 m2 e6 k
     have hrun := Qtw hu hkt hky k m1 f1 hz ok
     have hnd := Qfd e6
     have hexec : ∀ {v : Value}, (Instr.lookup t (.map (some b)) (keyVal kt k) ok).run P w = .ok v w → (execOp a.eval o).run P w = .ok (.value v) w := by
      intro v hv
      have e : execOp a.eval o = (do let v ← Instr.lookup t (a.eval m) (a.eval x) ok; pure (.value v)) := by simp only [execOp, ho]
      rw [e, em, ex]
      simp [hv]
     -- the value that is found, and what it stands for
     have flat : ∀ (vt : Ty) (l : List (kt.D × vt.D)) (hE : Ents w (Safe w pl σ.rows p) (okProv σ.rows p = true) kt vt false l es1 bs) (hnd : (l.map (·.1)).Nodup) (hf : (∀ e, vt ≠ .slice e)), oneTy vt = true →
       ((res = none ∧ (∀ q ∈ l, q.1 ≠ k) ∧ ∀ e ∈ ([] : List MapEntry), e.key ≠ keyVal kt k) ∨
        (∃ (i : Nat) (e : MapEntry) (j : Nat) (v : vt.D), es[i]? = some e ∧ e.key = keyVal kt k ∧ res = some (i, e.val) ∧ es1[j]? = some e ∧ l[j]? = some (k, v)) ∨
        (∃ (i : Nat) (e : MapEntry), es[i]? = some e ∧ e.key = keyVal kt k ∧ res = some (i, e.val) ∧ ([] : List MapEntry) = [e] ∧ (∀ q ∈ l, q.1 ≠ k) ∧ ∃ r, (none : Option (kt.D × Nat)) = some (k, r))) →
       VR w pl σ.rows (.val [] vt ((mget kt k l).getD vt.zero)) ((res.map (·.2)).getD ((zeroCells vt).headD undef)) ∧ res.isSome = (mget kt k l).isSome := by
      intro vt l hE hnd hf hone hcase
      have lift : ∀ {v : vt.D} {u : Value}, RD w (fun _ => False) vt v [u] → VR w pl σ.rows (.val [] vt v) u := fun h => Qn (fun _ h => h.elim) (fun _ h => h.elim) h
      rcases hcase with ⟨h2, h3, _⟩ | ⟨i, e, j, v, h2, h3, h4, h5, h6⟩ | ⟨i, e, h2, h3, h4, h5, _⟩
      ·subst h2
       rw [(Q5m hky h3).1]
       refine ⟨lift ?_, rfl⟩
       have := Qy w (fun _ => False) vt
       cases vt <;> first
        | exact this
        | cases hone
      ·subst h4
       rw [(Qcp hky hnd h6).1]
       obtain ⟨e', bk, bs', f1, f2, f3, f4, f5⟩ := Q8r hE j k v h6
       rw [h5] at f1
       cases f1
       refine ⟨lift ?_, rfl⟩
       have f3 : FldR w (Safe w pl σ.rows p) (okProv σ.rows p = true) vt v [e.val] bk := f3
       cases vt with
       | int i => exact f3.2
       | bool => exact f3.2
       | str => exact f3.2
       | unit => cases hone
       | slice e => exact absurd rfl (hf e)
       | prod a b => cases hone
      ·cases h5
     have flatGo : ∀ (vt : Ty) (l : List (kt.D × vt.D)), (∀ e, vt ≠ .slice e) → oneTy vt = true → VR w pl σ.rows (.val [] vt ((mget kt k l).getD vt.zero)) ((res.map (·.2)).getD ((zeroCells vt).headD undef)) → res.isSome = (mget kt k l).isSome →
       (execOp a.eval o).run P w = .ok (.value (if ok then .tuple #[((res.map (·.2)).getD ((zeroCells vt).headD undef)), .bool res.isSome] else (res.map (·.2)).getD ((zeroCells vt).headD undef))) w →
       (if ok then one (.tup [.val [] vt ((mget kt k l).getD vt.zero), mb (mget kt k l).isSome]) else one (.val [] vt ((mget kt k l).getD vt.zero))) = some out → Goes P B nt G pl σ a w o out := by
      intro vt l hf hone hv hs hrun hout
      cases ok with
      | true =>
        obtain rfl := oi hout
        refine Still.goes R hn (Still.mk' ⟨Qa _, Q2f _ _, trivial⟩ hrun ?_)
        simp only [if_true]
        exact ⟨_, [_, _], [], rfl, rfl, _, _, rfl, hv, _, [], rfl, by rw [hs]; rfl, rfl⟩
      | false =>
        obtain rfl := oi hout
        exact Still.goes R hn (Still.mk' (Qa _) hrun hv)
     cases vt with
     | slice t' =>
       cases ok with
       | true => cases h
       | false =>
         obtain rfl := oi h
         have hz' : (zeroCells (.slice t')).headD undef = .slice none 0 0 := rfl
         rw [hz'] at hrun
         simp only [Bool.false_eq_true, if_false] at hrun
         have take := fun {loc es2 st2 bk bs2} => Q140 (dst := o.dst) (u := (res.map (·.2)).getD (.slice none 0 0)) (loc := loc) (es2 := es2) (st2 := st2) (bk := bk) (bs2 := bs2) (bs := bs) (nt := nt) hT R hn hZ hB hk h0 (kk := k) hr hky g1 hb m1 ⟨m3, m4⟩
         rcases f2 with ⟨h2, h3, _⟩ | ⟨i, e, j, v, h2, h3, h4, h5, h6⟩ | ⟨i, e, h2, h3, h4, h5, _⟩
         ·subst h2
          obtain ⟨q1, q2⟩ := Q5m hky h3
          obtain ⟨pl', S, Q⟩ := take (loc := none) (es2 := es1) (st2 := []) (bk := []) (bs2 := bs) m2 (by rw [q2]; exact e4) (List.Perm.refl _) e7 e8 (by
           rw [q2]
           simp only [keysOf, Option.map_some, Option.toList_some]
           rw [List.nodup_append]
           refine ⟨hnd, by simp, fun x hx y hy e => ?_⟩
           rw [List.mem_singleton] at hy
           obtain ⟨q, hq, rfl⟩ := List.mem_map.1 hx
           exact h3 q hq (e.trans hy)) rfl (by rw [q1]; rfl) (by rw [q1]; exact ⟨none, 0, rfl, Nat.le_refl _, fun h => absurd h (Nat.lt_irrefl _)⟩) rfl (.inl rfl) (fun x hx => by cases hx)
          exact ⟨pl', w, _, .inl (hexec hrun), S, Quiet.refl w, Q⟩
         ·subst h4
          obtain ⟨q1, q2⟩ := Qcp hky hnd h6
          obtain ⟨e', bk, bs', f1, f2, f3, f4, f5⟩ := Q8r e4 j k v h6
          rw [h5] at f1
          cases f1
          obtain ⟨u', loc, c1, c2, c3, c4, c5⟩ := f3
          have c1' : e.val = u' := by simpa using c1
          subst c1'
          obtain ⟨pl', S, Q⟩ := take (loc := loc) (es2 := es1.eraseIdx j) (st2 := [e]) (bk := bk) (bs2 := bs') (by
           rw [List.append_nil] at m2
           exact m2.trans ((Q31 h5).trans (List.perm_append_comm (l₁ := [e]) (l₂ := es1.eraseIdx j)))) (by rw [q2]; exact f4) f5 e7 e8 (by
           rw [q2]
           simp only [keysOf, Option.map_some, Option.toList_some]
           have := (Q31 h6).map (·.1)
           have h7 := (List.Perm.nodup_iff this).1 hnd
           rw [List.map_cons] at h7
           exact (List.Perm.nodup_iff (List.perm_append_comm (l₁ := [k]) (l₂ := List.map (fun x : kt.D × (Ty.slice t').D => x.1) (l.eraseIdx j)))).1 h7) c5 (by rw [q1]; exact c3) (by rw [q1]; exact c4) c2 (.inr ⟨e, rfl, f2, rfl⟩) (Q7m (bx := false) (t := .slice t') (x := v) ⟨e.val, loc, rfl, c2, c3, c4, c5⟩)
          exact ⟨pl', w, _, .inl (hexec hrun), S, Quiet.refl w, Q⟩
         ·cases h5
     | unit => cases hone
     | prod a b => cases hone
     | int i =>
       obtain ⟨v1, v2⟩ := flat _ l e4 hnd (by simp) hone f2
       exact flatGo _ l (by simp) hone v1 v2 (hexec hrun) (by cases ok <;> exact h)
     | bool =>
       obtain ⟨v1, v2⟩ := flat _ l e4 hnd (by simp) hone f2
       exact flatGo _ l (by simp) hone v1 v2 (hexec hrun) (by cases ok <;> exact h)
     | str =>
       obtain ⟨v1, v2⟩ := flat _ l e4 hnd (by simp) hone f2
       exact flatGo _ l (by simp) hone v1 v2 (hexec hrun) (by cases ok <;> exact h)
    ·cases h
   ·cases h
  ·cases h
 ·cases h
theorem Q99 {t k e : Nat} {kt : Ty} (hu : P.underlying t = some (.map k e)) (hkt : KeyT P kt k) (hky : keyTy kt = true) (kk : kt.D) {b clock : Nat} {es : Array MapEntry} (hb : w.heap[b]? = some (.map es clock)) {res : Option (Nat × Value)}
  (hf : (Instr.findKey k (keyVal kt kk) es.toList).run P w = .ok res w) (hfound : ∀ i v, res = some (i, v) → ∃ en, es[i]? = some en ∧ en.key = keyVal kt kk) (x : Value) :
  (Instr.mapUpdate t (.map (some b)) (keyVal kt kk) x).run P w = .ok () (ChangeMaps.setBlock w b (match res with
   | some (i, _) => .map (es.modify i fun en => { en with key := keyVal kt kk, val := x }) clock
   | none => .map (es.push { key := keyVal kt kk, val := x, born := clock }) (clock + 1))) := by
 have hc := Qmf (P := P) (w := w) hkt hky kk false
 unfold Instr.mapUpdate
 cases res with
 | none => simp [run_underlying hu, MapKept.run_getObj_map hb, hc, hf, Result.andThen, go_sem, MapKept.run_setObj_map _ hb, ChangeMaps.setBlock]
 | some q =>
   obtain ⟨i, v⟩ := q
   obtain ⟨en, h1, h2⟩ := hfound i v rfl
   have hs := Q14g (P := P) (w := w) hky kk
   simp [run_underlying hu, MapKept.run_getObj_map hb, hc, hf, Result.andThen, go_sem, h1, h2, hs, MapKept.run_setObj_map _ hb, ChangeMaps.setBlock]
theorem Qcq {α : Type} {f : α → α} : ∀ {l : List α} {i : Nat} {x : α} {r : List α}, l[i]? = some x → l.Perm (x :: r) → (l.modify i f).Perm (f x :: r)
 | [], i, x, r, h, _ => by simp at h
 | y :: l, 0, x, r, h, hp => by
   simp only [List.getElem?_cons_zero, Option.some.injEq] at h
   subst h
   exact List.Perm.cons _ (List.Perm.cons_inv hp)
 | y :: l, i + 1, x, r, h, hp => by
   have h' : l[i]? = some x := by simpa using h
   have e1 := Q31 h'
   have e2 := Qcq (f := f) h' e1
   have e3 : (y :: l).Perm (x :: y :: l.eraseIdx i) := (List.Perm.cons y e1).trans (List.Perm.swap x y _)
   have e4 : (y :: l.eraseIdx i).Perm r := List.Perm.cons_inv (e3.symm.trans hp)
   show (y :: l.modify i f).Perm (f x :: r)
   exact ((List.Perm.cons y e2).trans (List.Perm.swap _ y _)).trans (List.Perm.cons _ e4)
theorem Q153 {kt : Ty} {kk : kt.D} {clock i : Nat} {es : Array MapEntry} {en : MapEntry} {rest : List MapEntry} {x : Value} (h1 : es[i]? = some en) (hp : es.toList.Perm (en :: rest)) (hb : (∀ e ∈ es.toList, e.born < clock) ∧ (es.toList.map (·.born)).Nodup) :
  (es.modify i fun en => { en with key := keyVal kt kk, val := x }).toList.Perm (rest ++ [{ en with key := keyVal kt kk, val := x }]) ∧
   (∀ e ∈ (es.modify i fun en => { en with key := keyVal kt kk, val := x }).toList, e.born < clock) ∧ ((es.modify i fun en => { en with key := keyVal kt kk, val := x }).toList.map (·.born)).Nodup := by
 have h1' : es.toList[i]? = some en := by rw [Array.getElem?_toList]; exact h1
 have e1 : (es.modify i fun en => { en with key := keyVal kt kk, val := x }).toList = es.toList.modify i fun en => { en with key := keyVal kt kk, val := x } := by simp
 have hp2 := Qcq (f := fun en => { en with key := keyVal kt kk, val := x }) h1' hp
 rw [e1]
 refine ⟨hp2.trans (List.perm_append_comm (l₁ := [_]) (l₂ := rest)), fun e he => ?_, ?_⟩
 ·rcases List.mem_cons.1 (hp2.mem_iff.1 he) with rfl | he
  ·exact hb.1 en (hp.mem_iff.2 List.mem_cons_self)
  ·exact hb.1 e (hp.mem_iff.2 (List.mem_cons_of_mem _ he))
 ·refine (List.Perm.nodup_iff (hp2.map (·.born))).2 ?_
  have := (List.Perm.nodup_iff (hp.map (·.born))).1 hb.2
  simpa using this
theorem Q1e2 (hT : TTok P T) (R : Rel B G pl σ a w) (hn : nt ≤ a.tmps.size) (hZ : ∀ b, pl.Z b → b < B) (hB : B ≤ w.heap.size) {r n : Nat} {p p2 : Prov} {kt vt : Ty} {l : List (kt.D × vt.D)} {tk : Option (kt.D × Nat)} {kk : kt.D} {v : vt.D}
  (hr : σ.rows r = some ⟨n, .mp 0 p kt vt false l tk⟩) (hky : keyTy kt = true) (r2 : Option (Nat × RowS × Nat)) {dst : Option Nat} {b : Nat} {es' : Array MapEntry} {clock' : Nat} {es2 : List MapEntry} {en : MapEntry} {bk bs2 : List Nat} {x : Value} (hen : en.key = keyVal kt kk ∧ en.val = x)
  (hr2 : ∀ q, r2 = some q → σ.rows q.1 = some q.2.1 ∧ q.2.1.live ∧ (∀ l, q.2.1.row ≠ .vars l) ∧ q.2.1.ver = q.2.2 ∧ q.1 ≠ r ∧ (∀ c ∈ bk, ∃ o, pl.loc q.1 = some (c, o))) (hbk0 : r2 = none → bk = [])
  (hp : ProvIn σ.rows p) (hp2 : ProvIn σ.rows p2) (hb : pl.loc r = some (b, 0)) {o0 : Obj} (hm : w.heap[b]? = some o0) (hno : ∀ arr T fr, o0 ≠ .cells arr T fr) (hborn : (∀ e ∈ es'.toList, e.born < clock') ∧ (es'.toList.map (·.born)).Nodup) (hperm : es'.toList.Perm (es2 ++ [en]))
  (hE : Ents w (Safe w pl σ.rows p) (okProv σ.rows p = true) kt vt false (mdel kt kk l) es2 bs2) (hV : HV w (Safe w pl σ.rows p2) (okProv σ.rows p2 = true) false vt v x bk) (hnd : (bs2 ++ bk).Nodup) (hhid : ∀ x ∈ bs2, pl.hid r x) (hkeys : (keysOf (mdel kt kk l ++ [(kk, v)]) none).Nodup) :
  ∃ rows' pl', rows' = updAll σ.rows ((r2.map fun q => (q.1, (⟨q.2.2, .gone⟩ : RowS))).toList ++ [(r, ⟨n + 1, .mp 0 (p ++ p2) kt vt false (mdel kt kk l ++ [(kk, v)]) none⟩)]) ∧
    Step w pl σ.rows (ChangeMaps.setBlock w b (.map es' clock')) pl' rows' ∧ Rel B G pl' ⟨putDst nt σ.env dst none, rows'⟩ (a.put dst undef) (ChangeMaps.setBlock w b (.map es' clock')) := by
 have r0 : r ≠ 0 := by rintro rfl; rw [R.zero] at hr; cases hr
 have hlv : RowS.live ⟨n, .mp 0 p kt vt false l tk⟩ := by simp [RowS.live]
 obtain ⟨rows', hrows⟩ : ∃ rows', rows' = updAll σ.rows ((r2.map fun q => (q.1, (⟨q.2.2, .gone⟩ : RowS))).toList ++ [(r, ⟨n + 1, .mp 0 (p ++ p2) kt vt false (mdel kt kk l ++ [(kk, v)]) none⟩)]) := ⟨_, rfl⟩
 have atr : rows' r = some ⟨n + 1, .mp 0 (p ++ p2) kt vt false (mdel kt kk l ++ [(kk, v)]) none⟩ := by
  rw [hrows]
  cases r2 with
  | none => simp [updAll, Q8]
  | some q => simp [updAll, Q8]
 have atg : ∀ q, r2 = some q → rows' q.1 = some ⟨q.2.2, .gone⟩ := by
  intro q hq
  obtain ⟨_, _, _, _, hne, _⟩ := hr2 q hq
  rw [hrows, hq]
  simp [updAll, Q8, hne]
 have ato : ∀ y, y ≠ r → (∀ q, r2 = some q → y ≠ q.1) → rows' y = σ.rows y := by
  intro y h1 h2
  rw [hrows]
  cases hq : r2 with
  | none => simp [updAll, Q8, h1]
  | some q => simp [updAll, Q8, h1, h2 q hq]
 obtain ⟨pl', hpl⟩ : ∃ pl' : Pl, pl' = ⟨pl.loc, pl.Z, pl.L, fun y c => pl.hid y c ∨ (y = r ∧ c ∈ bk)⟩ := ⟨_, rfl⟩
 have loc' : ∀ y, pl'.loc y = pl.loc y := by intro y; rw [hpl]
 have heap' : ∀ c, c ≠ b → (ChangeMaps.setBlock w b (.map es' clock')).heap[c]? = w.heap[c]? := by
  intro c hc
  simp only [ChangeMaps.setBlock]
  rw [Array.getElem?_setIfInBounds, if_neg (Ne.symm hc)]
 have hblt : b < w.heap.size := (Array.getElem?_eq_some_iff.1 hm).1
 have nb : ∀ c, (∃ (arr : Array Value) (T : TypeId) (fr : Nat × Nat), w.heap[c]? = some (Obj.cells arr T fr)) → c ≠ b := fun c hc => Q8h hc hm hno
 refine ⟨rows', pl', hrows, R.alter (nt := nt) (w' := ChangeMaps.setBlock w b (.map es' clock')) (pl' := pl') (rows' := rows') (dst := dst) (ov := none) (u := undef) hn hZ hB (fun y => y = r ∨ ∃ q, r2 = some q ∧ y = q.1) (by rw [hpl]) (by rw [hpl]) (by simp [ChangeMaps.setBlock]) (fun y hy => ?_) (fun y s hy hs => ?_) (fun y s c o hy hs hl ha => ?_)
  (fun y y' s s' c o o' hy hy' hs hl hs' hl' ha ha' => ?_) (fun c hc h => heap' c fun e => h r _ 0 (.inl rfl) hr hlv (.inl (e ▸ hb))) (fun c arr Te fr hc => ⟨arr, Te, fr, (heap' c (nb c ⟨arr, Te, fr, hc⟩)).trans hc, rfl⟩) ?_ (fun S y s hy hs => ?_) (fun S => ⟨fun v ev => (by cases ev), fun _ => rfl⟩)⟩
 ·have y1 : y ≠ r := fun e => hy (.inl e)
  refine ⟨ato y y1 fun q hq e => hy (.inr ⟨q, hq, e⟩), loc' y, ?_⟩
  funext c
  rw [hpl]
  simp [y1]
 ·rcases hy with rfl | ⟨q, hq, rfl⟩
  ·rw [hr] at hs
   cases hs
   exact ⟨_, atr, ⟨by simp, .inr (.inr (.inr (.inr ⟨_, _, _, _, _, _, _, _, _, _, _, rfl, rfl, Iff.rfl, by simp⟩)))⟩, by simp, fun _ => loc' _⟩
  ·obtain ⟨q1, q2, q3, q4, _⟩ := hr2 q hq
   rw [q1] at hs
   cases hs
   exact ⟨_, atg q hq, ⟨by simp [q4], .inr (.inl ⟨rfl, q3⟩)⟩, fun e => q2 (by rw [← e]), fun hl => absurd rfl hl⟩
 ·rcases hy with rfl | ⟨q, hq, rfl⟩
  ·right
   rcases ha with ha | ha
   ·exact ⟨_, _, o, .inl rfl, hr, hlv, .inl (loc' _ ▸ ha)⟩
   ·rw [hpl] at ha
    rcases ha with ha | ⟨_, ha⟩
    ·exact ⟨_, _, o, .inl rfl, hr, hlv, .inr ha⟩
    ·cases hq : r2 with
     | none => rw [hbk0 hq] at ha; cases ha
     | some q =>
       obtain ⟨q1, q2, _, _, _, q6⟩ := hr2 q hq
       obtain ⟨o', ho'⟩ := q6 c ha
       exact ⟨q.1, _, o', .inr ⟨q, rfl, rfl⟩, q1, q2, .inl ho'⟩
  ·rw [atg q hq] at hs
   cases hs
   exact absurd rfl hl
 ·have only : ∀ {z s}, (z = r ∨ ∃ q, r2 = some q ∧ z = q.1) → rows' z = some s → s.live → z = r := by
   rintro z s (h | ⟨q, hq, rfl⟩) hz hl
   ·exact h
   ·rw [atg q hq] at hz
    cases hz
    exact absurd rfl hl
  rw [only hy hs hl, only hy' hs' hl']
 ·rw [ato 0 (Ne.symm r0) fun q hq e => ?_]
  ·exact R.zero
  ·obtain ⟨q1, _⟩ := hr2 q hq
   rw [← e, R.zero] at q1
   cases q1
 ·rcases hy with rfl | ⟨q, hq, rfl⟩
  ·rw [atr] at hs
   cases hs
   have hpp : ProvIn σ.rows (p ++ p2) := fun z hz => (List.mem_append.1 hz).elim (hp z) (hp2 z)
   have ok12 : okProv rows' (p ++ p2) = true → okProv rows' p = true ∧ okProv rows' p2 = true := fun h => ⟨Q33 fun q hq s hs => Q2l h q (List.mem_append_left _ hq) s hs, Q33 fun q hq s hs => Q2l h q (List.mem_append_right _ hq) s hs⟩
   have safeL : ∀ {c}, Safe (ChangeMaps.setBlock w b (.map es' clock')) pl' rows' p c → Safe (ChangeMaps.setBlock w b (.map es' clock')) pl' rows' (p ++ p2) c := fun ⟨h1, h2, h3⟩ => ⟨h1, fun hz => ⟨(h2 hz).1, by obtain ⟨_, q, hq, e⟩ := h2 hz; exact ⟨q, List.mem_append_left _ hq, e⟩⟩, fun r s o h4 h5 h6 => by obtain ⟨q, hq, e⟩ := h3 r s o h4 h5 h6; exact ⟨q, List.mem_append_left _ hq, e⟩⟩
   have safeR : ∀ {c}, Safe (ChangeMaps.setBlock w b (.map es' clock')) pl' rows' p2 c → Safe (ChangeMaps.setBlock w b (.map es' clock')) pl' rows' (p ++ p2) c := fun ⟨h1, h2, h3⟩ => ⟨h1, fun hz => ⟨(h2 hz).1, by obtain ⟨_, q, hq, e⟩ := h2 hz; exact ⟨q, List.mem_append_right _ hq, e⟩⟩, fun r s o h4 h5 h6 => by obtain ⟨q, hq, e⟩ := h3 r s o h4 h5 h6; exact ⟨q, List.mem_append_right _ hq, e⟩⟩
   have hE' := hE.frame (w' := ChangeMaps.setBlock w b (.map es' clock')) (S' := Safe (ChangeMaps.setBlock w b (.map es' clock')) pl' rows' (p ++ p2)) (ok' := okProv rows' (p ++ p2) = true)
    (fun hok => ⟨S.okProv hp (ok12 hok).1, fun c hc => ⟨safeL (S.safe hp (ok12 hok).1 hc).1, (S.safe hp (ok12 hok).1 hc).2⟩⟩) (fun c hc => heap' c (nb c (Q67 hE c hc)))
   have hV' := hV.frame (w' := ChangeMaps.setBlock w b (.map es' clock')) (S' := Safe (ChangeMaps.setBlock w b (.map es' clock')) pl' rows' (p ++ p2)) (ok' := okProv rows' (p ++ p2) = true)
    (fun hok => ⟨S.okProv hp2 (ok12 hok).2, fun c hc => ⟨safeR (S.safe hp2 (ok12 hok).2 hc).1, (S.safe hp2 (ok12 hok).2 hc).2⟩⟩) (fun c hc => heap' c (nb c (Q7m hV c hc)))
   refine ⟨S.provIn hpp, hky, b, es2 ++ [en], [], bs2 ++ bk, (loc' _).trans hb, ⟨es', clock', ?_, by rw [List.append_nil]; exact hperm, hborn⟩, Qb8 (bs2 := bk) hE' ⟨en, [], bk, [], rfl, by simp, (Q2v hky).2 hen.1, by rw [hen.2]; exact hV', rfl, rfl⟩, rfl, hkeys, hnd, fun c hc => ?_⟩
   ·simp only [ChangeMaps.setBlock]
    rw [Array.getElem?_setIfInBounds, if_pos rfl, if_pos hblt]
   ·rw [hpl]
    rcases List.mem_append.1 hc with hc | hc
    ·exact .inl (hhid c hc)
    ·exact .inr ⟨rfl, hc⟩
  ·rw [atg q hq] at hs
   cases hs
   trivial
theorem Qm4 {o : Oper} {t : Nat} {m x y : Operand} {out : Out} {key : Nat} (hT : TTok P T) (R : Rel B G pl σ a w) (hn : nt ≤ a.tmps.size) (hZ : ∀ b, pl.Z b → b < B) (hB : B ≤ w.heap.size) (ho : o.op = .mapUpdate t m x y)
  (h : opOut T key o.op (look σ) σ.rows = some out) (hok : out.ok = true) : Goes P B nt G pl σ a w o out := by
 rw [ho] at h
 simp only [opOut] at h
 split at h
 ·rename_i q r kv vv hq hmv hxv hyv
  split at h
  ·rename_i n p kt vt l tk hr
   split at h
   ·rename_i hqq
    subst hqq
    split at h
    ·rename_i k hkk
     obtain ⟨kid, eid, hu, hkt, hky, hel⟩ := Q46 hT hq
     obtain ⟨ei, hei, hev, hone⟩ := hel rfl
     obtain ⟨_, vm, _⟩ := R.look hmv
     obtain ⟨_, vx, _⟩ := R.look hxv
     obtain ⟨my, vy, ky⟩ := R.look hyv
     obtain ⟨b, hb, em⟩ := isMap vm hr
     have ex := Qcj hky vx hkk
     obtain ⟨g1, _, b', es1, st, bs, e1, ⟨es, clock, m1, m2, m3, m4⟩, e4, e5, e6, e7, e8⟩ := R.rows _ _ hr
     rw [hb] at e1
     cases e1
     obtain ⟨res, f1, f2⟩ := Qf4 (P := P) hkt hky e4 e5 m2 e6 k
     have hnd := Qfd e6
     have hexec : ∀ {w1 : World}, (Instr.mapUpdate t (.map (some b)) (keyVal kt k) (a.eval y)).run P w = .ok () w1 → RunsTo P o a w undef w1 := by
      intro w1 hv
      have e : execOp a.eval o = (do Instr.mapUpdate t (a.eval m) (a.eval x) (a.eval y); pure .skip) := by simp only [execOp, ho]
      refine .inr ⟨rfl, ?_⟩
      rw [e, em, ex]
      simp [hv]
     have keysOk : ∀ (v : vt.D), (keysOf (mdel kt k l ++ [(k, v)]) none).Nodup := by
      intro v
      simp only [keysOf, Option.map_none, Option.toList_none, List.append_nil, List.map_append, List.map_cons, List.map_nil]
      rw [List.nodup_append]
      refine ⟨hnd.sublist (List.Sublist.map _ List.filter_sublist), by simp, fun z hz z' hz' e => ?_⟩
      rw [List.mem_singleton] at hz'
      obtain ⟨q, hq, rfl⟩ := List.mem_map.1 hz
      have := (List.mem_filter.1 hq).2
      rw [show q.1 = k from e.trans hz', (Q16 hky).2 rfl] at this
      cases this
     -- what the model does, whatever is set
     have main : ∀ (v : vt.D) (p2 : Prov) (bk : List Nat) (r2 : Option (Nat × RowS × Nat)), ProvIn σ.rows p2 → HV w (Safe w pl σ.rows p2) (okProv σ.rows p2 = true) false vt v (a.eval y) bk → (st = [] ∨ ∃ r', tk = some (k, r')) →
       (∀ q, r2 = some q → σ.rows q.1 = some q.2.1 ∧ q.2.1.live ∧ (∀ l, q.2.1.row ≠ .vars l) ∧ q.2.1.ver = q.2.2 ∧ q.1 ≠ r ∧ (∀ c ∈ bk, ∃ o, pl.loc q.1 = some (c, o))) → (r2 = none → bk = []) → bk.Nodup →
       out = ⟨out.ok, none, (r2.map fun q => (q.1, (⟨q.2.2, .gone⟩ : RowS))).toList ++ [(r, ⟨n + 1, .mp 0 (p ++ p2) kt vt false (mdel kt k l ++ [(k, v)]) none⟩)]⟩ → Goes P B nt G pl σ a w o out := by
      intro v p2 bk r2 hp2 hV htk hr2 hbk0 hbkn hout
      have apart : ∀ c ∈ bk, c ∉ bs := by
       intro c hc hc'
       cases hq : r2 with
       | none => rw [hbk0 hq] at hc; cases hc
       | some q =>
         obtain ⟨q1, q2, _, _, q5, q6⟩ := hr2 q hq
         obtain ⟨o', ho'⟩ := q6 c hc
         exact q5 (R.inj q.1 r _ _ c o' 0 q1 q2 hr (by simp [RowS.live]) (.inl ho') (.inr (e8 c hc')))
      have fin : ∀ (es' : Array MapEntry) (clock' : Nat) (es2 : List MapEntry) (en : MapEntry) (bs2 : List Nat), (Instr.mapUpdate t (.map (some b)) (keyVal kt k) (a.eval y)).run P w = .ok () (ChangeMaps.setBlock w b (.map es' clock')) → en.key = keyVal kt k ∧ en.val = a.eval y →
        (∀ e ∈ es'.toList, e.born < clock') ∧ (es'.toList.map (·.born)).Nodup → es'.toList.Perm (es2 ++ [en]) → Ents w (Safe w pl σ.rows p) (okProv σ.rows p = true) kt vt false (mdel kt k l) es2 bs2 → (∀ c ∈ bs2, c ∈ bs) → bs2.Nodup → Goes P B nt G pl σ a w o out := by
       intro es' clock' es2 en bs2 hrun hen hborn hperm hE hsub hnd2
       obtain ⟨rows', pl', hrows, S, Q⟩ := Q1e2 (nt := nt) (v := v) (x := a.eval y) (bk := bk) (dst := o.dst) (clock' := clock') hT R hn hZ hB hr hky r2 hen hr2 hbk0 g1 hp2 hb m1 (by simp) hborn hperm hE hV
        (by
         rw [List.nodup_append]
         exact ⟨hnd2, hbkn, fun c hc c' hc' e => apart c' hc' (e ▸ hsub c hc)⟩) (fun c hc => e8 c (hsub c hc)) (keysOk v)
       refine ⟨pl', _, undef, hexec hrun, ?_, ⟨rfl, rfl, rfl⟩, ?_⟩
       ·rw [hout, ← hrows]; exact S
       ·rw [hout, ← hrows]; exact Q
      rcases f2 with ⟨h2, h3, h4⟩ | ⟨i, e, j, v0, h2, h3, h4, h5, h6⟩ | ⟨i, e, h2, h3, h4, h5, h6, _⟩
      ·subst h2
       have hst : st = [] := by
        rcases htk with h | ⟨r', h⟩
        ·exact h
        ·rw [h] at e5
         rcases e5.2 with ⟨_, h0⟩ | ⟨e', h0, h1, _⟩
         ·exact h0
         ·exact absurd ((Q2v hky).1 h1) (h4 e' (by rw [h0]; exact List.mem_singleton.2 rfl))
       subst hst
       rw [List.append_nil] at m2
       have hrun := Q99 hu hkt hky k m1 f1 (fun i v h => by cases h) (a.eval y)
       refine fin (es.push { key := keyVal kt k, val := a.eval y, born := clock }) (clock + 1) es1 _ bs hrun ⟨rfl, rfl⟩ ⟨fun e he => ?_, ?_⟩ (by simpa using m2.append_right _) (by rw [(Q5m hky h3).2]; exact e4) (fun c hc => hc) e7
       ·simp only [Array.toList_push, List.mem_append, List.mem_singleton] at he
        rcases he with he | rfl
        ·have := m3 e he; omega
        ·simp
       ·simp only [Array.toList_push, List.map_append, List.map_cons, List.map_nil]
        rw [List.nodup_append]
        refine ⟨m4, by simp, fun c hc c' hc' e => ?_⟩
        rw [List.mem_singleton] at hc'
        obtain ⟨en, hen, rfl⟩ := List.mem_map.1 hc
        have := m3 en hen
        omega
      ·subst h4
       obtain ⟨q1, q2⟩ := Qcp hky hnd h6
       have hst : st = [] := by
        rcases htk with h | ⟨r', h⟩
        ·exact h
        ·rw [h] at e6
         simp only [keysOf, Option.map_some, Option.toList_some] at e6
         exact absurd rfl ((List.nodup_append.1 e6).2.2 k (List.mem_map.2 ⟨_, List.mem_of_getElem? h6, rfl⟩) k (List.mem_singleton.2 rfl))
       subst hst
       rw [List.append_nil] at m2
       obtain ⟨e', bk', bs', c1, c2, c3, c4, c5⟩ := Q8r e4 j k v0 h6
       rw [h5] at c1
       cases c1
       have hrun := Q99 hu hkt hky k m1 f1 (fun i' v h => by cases h; exact ⟨e, h2, h3⟩) (a.eval y)
       obtain ⟨d1, d2, d3⟩ := Q153 (kk := k) (x := a.eval y) h2 (m2.trans (Q31 h5)) ⟨m3, m4⟩
       exact fin _ clock (es1.eraseIdx j) _ bs' hrun ⟨rfl, rfl⟩ ⟨d2, d3⟩ d1 (by rw [q2]; exact c4) (fun c hc => c5.mem_iff.2 (List.mem_append_right _ hc)) (List.nodup_append.1 ((List.Perm.nodup_iff c5).1 e7)).2.1
      ·subst h4
       subst h5
       have hrun := Q99 hu hkt hky k m1 f1 (fun i' v h => by cases h; exact ⟨e, h2, h3⟩) (a.eval y)
       obtain ⟨d1, d2, d3⟩ := Q153 (kk := k) (x := a.eval y) h2 (m2.trans (List.perm_append_comm (l₁ := es1) (l₂ := [e]))) ⟨m3, m4⟩
       exact fin _ clock es1 _ bs hrun ⟨rfl, rfl⟩ ⟨d2, d3⟩ d1 (by rw [(Q5m hky h6).2]; exact e4) (fun c hc => hc) e7
     have flatGo : (∀ e, vt ≠ .slice e) → (∀ v, leafOf vt vv = some v → tk = none → some (⟨true, none, [(r, ⟨n + 1, .mp 0 p kt vt false (mdel kt k l ++ [(k, v)]) none⟩)]⟩ : Out) = some out → Goes P B nt G pl σ a w o out) := by
      intro hns v hv htk hout
      subst htk
      have hst : st = [] := e5
      have hV : HV w (Safe w pl σ.rows []) (okProv σ.rows [] = true) false vt v (a.eval y) [] := by
       show FldR w _ _ vt v [a.eval y] []
       cases vv with
       | val p' t' z =>
         simp only [leafOf] at hv
         split at hv
         ·rename_i e
          subst e
          cases hv
          have vy' : RD w (Safe w pl σ.rows p') t' z [a.eval y] := vy
          cases t' with
          | int i => exact ⟨rfl, vy'⟩
          | bool => exact ⟨rfl, vy'⟩
          | str => exact ⟨rfl, vy'⟩
          | unit => cases hone
          | slice e => exact absurd rfl (hns e)
          | prod a b => cases hone
         ·cases hv
       | nils => cases vt with
         | slice e => exact absurd rfl (hns e)
         | _ => cases hv
       | _ => cases hv
      refine main v [] [] none (Qa _) hV (.inl hst) (fun q hq => by cases hq) (fun _ => rfl) List.nodup_nil ?_
      obtain rfl := oi hout
      rw [List.append_nil]
      rfl
     cases vt with
     | slice t' =>
       simp only [updOut] at h
       split at h
       ·rename_i r2
        split at h
        ·rename_i n2 p2 t2 l2 hr2
         split at h
         ·rename_i ht
          subst ht
          obtain rfl := oi h
          simp only at hok
          obtain ⟨h1, h2⟩ := R.rows _ _ hr2
          have vy2 := vy.2 _ _ _ _ hr2
          have hne : r2 ≠ r := by rintro rfl; rw [hr] at hr2; cases hr2
          refine main l2 p2 ((pl.loc r2).map (·.1)).toList (some (r2, ⟨n2, .arr p2 t2 l2⟩, n2)) h1 ?_ ?_ ?_ (fun h => by cases h) ?_ rfl
          ·exact ⟨a.eval y, pl.loc r2, rfl, vy.1.1, h2, vy2, rfl⟩
          ·cases tk with
           | none => exact .inl e5
           | some q =>
             obtain ⟨k', r'⟩ := q
             have : kt.beq k k' = true := hok
             rw [(Q16 hky).1 this]
             exact .inr ⟨r', rfl⟩
          ·intro q hq
           cases hq
           refine ⟨hr2, by simp [RowS.live], by simp, rfl, hne, fun c hc => ?_⟩
           cases hl : pl.loc r2 with
           | none => rw [hl] at hc; cases hc
           | some bo =>
             obtain ⟨b2, o2⟩ := bo
             rw [hl] at hc
             simp at hc
             subst hc
             exact ⟨o2, rfl⟩
          ·cases pl.loc r2 <;> simp
         ·cases h
        ·cases h
       ·cases h
     | unit => cases hone
     | prod a b => cases hone
     | int i =>
       simp only [updOut] at h
       split at h
       ·rename_i v hv
        exact flatGo (by simp) v hv rfl h
       ·cases h
     | bool =>
       simp only [updOut] at h
       split at h
       ·rename_i v hv
        exact flatGo (by simp) v hv rfl h
       ·cases h
     | str =>
       simp only [updOut] at h
       split at h
       ·rename_i v hv
        exact flatGo (by simp) v hv rfl h
       ·cases h
    ·cases h
   ·cases h
  ·cases h
 ·cases h
theorem Q16z {o : Oper} {t : Nat} {x : Operand} {out : Out} {key : Nat} (hT : TTok P T) (R : Rel B G pl σ a w) (hn : nt ≤ a.tmps.size) (hZ : ∀ b, pl.Z b → b < B) (hB : B ≤ w.heap.size) (hk : σ.rows key = none) (h0 : key ≠ 0) (ho : o.op = .range t x)
  (h : opOut T key o.op (look σ) σ.rows = some out) : Goes P B nt G pl σ a w o out := by
 rw [ho] at h
 simp only [opOut] at h
 split at h
 ·rename_i q r hq hxv
  split at h
  ·rename_i n p kt vt bx l hr
   obtain rfl := oi h
   obtain ⟨kt', vt', bx'⟩ := q
   obtain ⟨kid, eid, hu, _⟩ := Q46 hT hq
   obtain ⟨_, vm, _⟩ := R.look hxv
   obtain ⟨b, hb, em⟩ := isMap vm hr
   obtain ⟨g1, hky, b', es1, st, bs, e1, ⟨es, clock, m1, m2, m3, m4⟩, e4, e5, e6, e7, e8⟩ := R.rows _ _ hr
   rw [hb] at e1
   cases e1
   have hst : st = [] := e5
   subst hst
   rw [List.append_nil] at m2
   have r0 : r ≠ 0 := by rintro rfl; rw [R.zero] at hr; cases hr
   have rk : r ≠ key := by rintro rfl; rw [hk] at hr; cases hr
   have hlv : RowS.live ⟨n, .mp 0 p kt vt bx l none⟩ := by simp [RowS.live]
   obtain ⟨rows', hrows⟩ : ∃ rows', rows' = updAll σ.rows [(r, ⟨n, .gone⟩), (key, ⟨0, .mp 1 p kt vt bx l none⟩)] := ⟨_, rfl⟩
   have atr : rows' r = some ⟨n, .gone⟩ := by rw [hrows]; simp [updAll, Q8, rk]
   have atk : rows' key = some ⟨0, .mp 1 p kt vt bx l none⟩ := by rw [hrows]; simp [updAll, Q8]
   have ato : ∀ y, y ≠ r → y ≠ key → rows' y = σ.rows y := by intro y h1 h2; rw [hrows]; simp [updAll, Q8, h1, h2]
   obtain ⟨pl', hpl⟩ : ∃ pl' : Pl, pl' = ⟨upd pl.loc key (some (w.heap.size, 0)), pl.Z, pl.L, fun y c => (y = key ∧ (c = b ∨ c ∈ bs)) ∨ (y ≠ key ∧ pl.hid y c)⟩ := ⟨_, rfl⟩
   have lock : pl'.loc key = some (w.heap.size, 0) := by rw [hpl]; simp [upd]
   have hidk : ∀ c, pl'.hid key c ↔ c = b ∨ c ∈ bs := by intro c; rw [hpl]; simp
   have hold := fun c hc => Q6i w (.mapIter (some b) clock #[] clock) c hc
   have hblt : b < w.heap.size := (Array.getElem?_eq_some_iff.1 m1).1
   have hbs : ∀ c ∈ bs, c < w.heap.size := fun c hc => by
    obtain ⟨_, _, _, h⟩ := Q67 e4 c hc
    exact (Array.getElem?_eq_some_iff.1 h).1
   have live : ∀ {z s}, (z = r ∨ z = key) → rows' z = some s → s.live → z = key := by
    rintro z s (rfl | h) hz hl
    ·rw [atr] at hz; cases hz; exact absurd rfl hl
    ·exact h
   obtain ⟨S, Q⟩ := R.alter (nt := nt) (w' := w.alloc (.mapIter (some b) clock #[] clock)) (pl' := pl') (rows' := rows') (dst := o.dst) (ov := some (.ptr key 0)) (u := .pointer (some ⟨w.heap.size, 0, none⟩)) hn hZ hB (fun y => y = r ∨ y = key) (by rw [hpl]) (by rw [hpl]) (by simp)
    (fun y hy => by
     have y1 : y ≠ r := fun e => hy (.inl e)
     have y2 : y ≠ key := fun e => hy (.inr e)
     refine ⟨ato y y1 y2, by rw [hpl]; simp [upd, y2], ?_⟩
     funext c
     rw [hpl]
     simp [y2])
    (fun y s hy hs => by
     rcases hy with rfl | rfl
     ·rw [hr] at hs
      cases hs
      exact ⟨_, atr, ⟨by simp, .inr (.inl ⟨rfl, by simp⟩)⟩, by simp, fun hl => absurd rfl hl⟩
     ·rw [hk] at hs; cases hs)
    (fun y s c o hy hs hl ha => by
     obtain rfl := live hy hs hl
     rcases ha with ha | ha
     ·rw [lock] at ha
      cases ha
      exact .inl ⟨Nat.le_refl _, by simp⟩
     ·right
      rcases (hidk c).1 ha with rfl | hc
      ·exact ⟨r, _, 0, .inl rfl, hr, hlv, .inl hb⟩
      ·exact ⟨r, _, 0, .inl rfl, hr, hlv, .inr (e8 c hc)⟩)
    (fun y y' s s' c o o' hy hy' hs hl hs' hl' _ _ => (live hy hs hl).trans (live hy' hs' hl').symm)
    (fun c hc _ => hold c hc) (Qqg hold) (by rw [ato 0 (Ne.symm r0) (Ne.symm h0)]; exact R.zero)
    (fun S y s hy hs => by
     rcases hy with rfl | rfl
     ·rw [atr] at hs; cases hs; trivial
     ·rw [atk] at hs
      cases hs
      refine ⟨S.provIn g1, hky, w.heap.size, es1, [], bs, lock, ⟨rfl, b, es, clock, #[], Q8z w _, (hidk b).2 (.inl rfl), (hold b hblt).trans m1, m3, m4, ?_⟩, e4.frame (fun hok => ⟨S.okProv g1 hok, fun c hc => S.safe g1 hok hc⟩) (fun c hc => hold c (hbs c hc)), rfl, e6, e7, fun c hc => (hidk c).2 (.inr hc)⟩
      have : Q15 es #[] = es := by
       unfold Q15
       rw [Array.filter_eq_self.2]
       intro x hx
       simp
      show (Q15 es #[]).toList.Perm es1
      rw [this]; exact m2)
    (fun S => ⟨fun v ev => by
     cases ev
     refine ⟨by show rows' key ≠ none; rw [atk]; simp, fun _ => ⟨⟨rfl, ⟨_, rfl⟩, fun n i p kt vt bx l tk hr => ⟨w.heap.size, lock, rfl⟩⟩, fun n l hr => (by rw [atk] at hr; cases hr)⟩⟩, fun ev => by cases ev⟩)
   refine ⟨pl', w.alloc (.mapIter (some b) clock #[] clock), .pointer (some ⟨w.heap.size, 0, none⟩), .inl ?_, by rw [← hrows]; exact S, ⟨rfl, rfl, rfl⟩, by rw [← hrows]; exact Q⟩
   have e : execOp a.eval o = (do let v ← Instr.range t (a.eval x); pure (.value v)) := by simp only [execOp, ho]
   rw [e, em]
   simp [run_range_map (P := P) w t kid eid b es clock hu m1]
  ·cases h
 ·cases h
theorem Qtg (R : Rel B G pl σ a w) (hn : nt ≤ a.tmps.size) (hZ : ∀ b, pl.Z b → b < B) (hB : B ≤ w.heap.size) {key : Nat} (hk : σ.rows key = none) (h0 : key ≠ 0) {r n : Nat} {p : Prov} {kt t : Ty} {k : kt.D} {v : (Ty.slice t).D} {l : List (kt.D × (Ty.slice t).D)}
  (hr : σ.rows r = some ⟨n, .mp 2 p kt (.slice t) false ((k, v) :: l) none⟩) (hky : keyTy kt = true) {dst : Option Nat} {kp : PV} {u1 u : Value} {loc : Option (Nat × Nat)} {es2 : List MapEntry} {bk bs2 bs : List Nat} {b : Nat} {o0 : Obj}
  (hp : ProvIn σ.rows p) (hb : pl.loc r = some (b, 0)) (hm : w.heap[b]? = some o0) (hno : ∀ arr T fr, o0 ≠ .cells arr T fr) (hmap : ∀ pl' : Pl, (∀ c, pl.hid r c → c ∉ bk → pl'.hid r c) → MapAt w pl' r 1 b es2 [])
  (hE : Ents w (Safe w pl σ.rows p) (okProv σ.rows p = true) kt (.slice t) false l es2 bs2) (hbs : bs.Perm (bk ++ bs2)) (hnd : bs.Nodup) (hhid : ∀ x ∈ bs, pl.hid r x) (hkeys : (keysOf l none).Nodup)
  (hbk : bk = (loc.map (·.1)).toList) (hA : ArrAt w (Safe w pl σ.rows p) loc (okProv σ.rows p = true) t v) (hS : SlAt w loc t.size 0 v.length u) (h1 : u.oneCell' = true)
  (hcell : ∀ x ∈ bk, ∃ (arr : Array Value) (T : TypeId) (fr : Nat × Nat), w.heap[x]? = some (Obj.cells arr T fr)) (hkp : ∀ rows', Men rows' kp ∧ okPV rows' kp = true) (hkv : ∀ (pl' : Pl) (rows' : Rows), VR w pl' rows' kp u1) :
  ∃ pl', Step w pl σ.rows w pl' (upd (upd σ.rows r (some ⟨n + 1, .mp 1 p kt (.slice t) false l none⟩)) key (some ⟨0, .arr p t v⟩)) ∧
    Rel B G pl' ⟨putDst nt σ.env dst (some (.tup [kp, .rw key])), upd (upd σ.rows r (some ⟨n + 1, .mp 1 p kt (.slice t) false l none⟩)) key (some ⟨0, .arr p t v⟩)⟩ (a.put dst (.tuple #[u1, u])) w := by
 have r0 : r ≠ 0 := by rintro rfl; rw [R.zero] at hr; cases hr
 have rk : r ≠ key := by rintro rfl; rw [hk] at hr; cases hr
 have hlv : RowS.live ⟨n, .mp 2 p kt (.slice t) false ((k, v) :: l) none⟩ := by simp [RowS.live]
 generalize hrows : upd (upd σ.rows r (some ⟨n + 1, .mp 1 p kt (.slice t) false l none⟩)) key (some ⟨0, .arr p t v⟩) = rows'
 have atr : rows' r = some ⟨n + 1, .mp 1 p kt (.slice t) false l none⟩ := by rw [← hrows, Q8, if_neg rk, Q8, if_pos rfl]
 have atk : rows' key = some ⟨0, .arr p t v⟩ := by rw [← hrows, Q8, if_pos rfl]
 have ato : ∀ x, x ≠ r → x ≠ key → rows' x = σ.rows x := fun x h1 h2 => by rw [← hrows, Q8, if_neg h2, Q8, if_neg h1]
 obtain ⟨pl', hpl⟩ : ∃ pl' : Pl, pl' = ⟨upd pl.loc key loc, pl.Z, pl.L, fun x c => (x = r ∧ pl.hid r c ∧ c ∉ bk) ∨ (x ≠ r ∧ x ≠ key ∧ pl.hid x c)⟩ := ⟨_, rfl⟩
 have locr : pl'.loc r = pl.loc r := by rw [hpl]; simp [upd, rk]
 have lock : pl'.loc key = loc := by rw [hpl]; simp [upd]
 have hidr : ∀ c, pl'.hid r c ↔ pl.hid r c ∧ c ∉ bk := by intro c; rw [hpl]; simp
 have hidk : ∀ c, ¬ pl'.hid key c := by
  intro c hc
  rw [hpl] at hc
  rcases hc with ⟨e, _⟩ | ⟨_, e, _⟩
  ·exact rk e.symm
  ·exact e rfl
 have bkmem : ∀ c o, loc = some (c, o) → c ∈ bk := by intro c o e; rw [hbk, e]; simp
 have bkbs : ∀ c ∈ bk, c ∈ bs := fun c hc => hbs.mem_iff.2 (List.mem_append_left _ hc)
 have vrk : VR w pl' rows' (.rw key) u := by
  refine ⟨⟨h1, fun n p kt vt bx l tk hr => (by rw [atk] at hr; cases hr)⟩, fun n' p' t' l' hr => ?_⟩
  rw [atk] at hr
  cases hr
  obtain ⟨A, c, e1, e2, e3⟩ := hS
  exact ⟨A, c, e1, e2, fun hc => by rw [lock]; exact e3 hc⟩
 refine ⟨pl', R.alter (nt := nt) (w' := w) (pl' := pl') (rows' := rows') (dst := dst) (ov := some (.tup [kp, .rw key])) (u := .tuple #[u1, u]) hn hZ hB (fun x => x = r ∨ x = key) (by rw [hpl]) (by rw [hpl]) (Nat.le_refl _) (fun x hx => ?_) (fun x s hx hs => ?_) (fun x s c o hx hs hl ha => ?_)
  (fun x x' s s' c o o' hx hx' hs hl hs' hl' ha ha' => ?_) (fun c hc h => rfl) (fun c arr Te fr hc => ⟨arr, Te, fr, hc, rfl⟩) (by rw [ato 0 (Ne.symm r0) (Ne.symm h0)]; exact R.zero) (fun S x s hx hs => ?_) (fun S => ⟨fun v ev => ?_, fun ev => by cases ev⟩)⟩
 ·have x1 : x ≠ r := fun e => hx (.inl e)
  have x2 : x ≠ key := fun e => hx (.inr e)
  refine ⟨ato x x1 x2, by rw [hpl]; simp [upd, x2], ?_⟩
  funext c
  rw [hpl]
  simp [x1, x2]
 ·rcases hx with rfl | rfl
  ·rw [hr] at hs
   cases hs
   exact ⟨_, atr, ⟨by simp, .inr (.inr (.inr (.inr ⟨_, _, _, _, _, _, _, _, _, _, _, rfl, rfl, by simp, by simp⟩)))⟩, by simp, fun _ => locr⟩
  ·rw [hk] at hs; cases hs
 ·right
  refine ⟨r, _, o, .inl rfl, hr, hlv, ?_⟩
  rcases hx with rfl | rfl
  ·rcases ha with ha | ha
   ·exact .inl (locr ▸ ha)
   ·exact .inr ((hidr c).1 ha).1
  ·rcases ha with ha | ha
   ·exact .inr (hhid c (bkbs c (bkmem c o (lock ▸ ha))))
   ·exact absurd ha (hidk c)
 ·have clash : ∀ {c o o'}, pl'.at r c o → pl'.at key c o' → False := by
   intro c o o' h1 h2
   rcases h2 with h2 | h2
   ·have hc := bkmem c o' (lock ▸ h2)
    rcases h1 with h1 | h1
    ·rw [locr, hb] at h1
     cases h1
     exact Q8h (hcell _ hc) hm hno rfl
    ·exact ((hidr c).1 h1).2 hc
   ·exact hidk c h2
  rcases hx with rfl | rfl
  ·rcases hx' with rfl | rfl
   ·rfl
   ·exact (clash ha ha').elim
  ·rcases hx' with rfl | rfl
   ·exact (clash ha' ha).elim
   ·rfl
 ·rcases hx with rfl | rfl
  ·rw [atr] at hs
   cases hs
   refine ⟨S.provIn hp, hky, b, es2, [], bs2, locr.trans hb, hmap pl' (fun c h1 h2 => (hidr c).2 ⟨h1, h2⟩), hE.frame (fun hok => ⟨S.okProv hp hok, fun c hc => S.safe hp hok hc⟩) (fun _ _ => rfl), rfl, hkeys, ?_, fun c hc => (hidr c).2 ⟨hhid c (hbs.mem_iff.2 (List.mem_append_right _ hc)), fun hc' => ?_⟩⟩
   ·exact (List.nodup_append.1 ((List.Perm.nodup_iff hbs).1 hnd)).2.1
   ·exact (List.nodup_append.1 ((List.Perm.nodup_iff hbs).1 hnd)).2.2 c hc' c hc rfl
  ·rw [atk] at hs
   cases hs
   refine ⟨S.provIn hp, ?_⟩
   have := hA.frame (w' := w) (S' := Safe w pl' rows' p) (ok' := okProv rows' p = true) (fun hok => ⟨S.okProv hp hok, fun c hc => S.safe hp hok hc⟩) (fun _ _ _ => rfl)
   rw [lock]
   exact this
 ·cases ev
  exact ⟨⟨(hkp rows').1, by show rows' key ≠ none; rw [atk]; simp, trivial⟩, fun _ => ⟨#[u1, u], [u1, u], [], rfl, rfl, u1, [u], rfl, hkv _ _, u, [], rfl, vrk, rfl⟩⟩
theorem Q16w {o : Oper} {x : Operand} {out : Out} {key : Nat} (hT : TTok P T) (R : Rel B G pl σ a w) (hn : nt ≤ a.tmps.size) (hZ : ∀ b, pl.Z b → b < B) (hB : B ≤ w.heap.size) (hk : σ.rows key = none) (h0 : key ≠ 0) (ho : o.op = .entry x)
  (h : opOut T key o.op (look σ) σ.rows = some out) (hok : out.ok = true) : Goes P B nt G pl σ a w o out := by
 rw [ho] at h
 simp only [opOut] at h
 split at h
 ·rename_i r hxv
  split at h
  ·rename_i n p kt vt l hr
   split at h
   ·rename_i hc
    simp only [Bool.and_eq_true] at hc
    obtain ⟨hok1, hfl, hov⟩ := hc
    obtain ⟨_, vm, _⟩ := R.look hxv
    obtain ⟨b, hb, em⟩ := vm.1.2.2 _ _ _ _ _ _ _ _ hr
    obtain ⟨g1, hky, b', es1, st, bs, e1, ⟨hst, bm, es, clock, seen, m1, m2, m3, m4, m5, m6⟩, e4, e5, e6, e7, e8⟩ := R.rows _ _ hr
    rw [hb] at e1
    cases e1
    have m6 : (es1 = [] ∧ (Q15 es seen).toList = []) ∨ ∃ c rest, es1 = c :: rest ∧ (Q15 es seen).toList.Perm rest ∧ c ∈ es.toList ∧ ∃ seen0 : Array Nat, seen = seen0.push c.born := m6
    have hbm : bm ≠ b := by
     rintro rfl
     rw [m1] at m3; cases m3
    have hl : l ≠ [] := by
     rintro rfl
     cases vt <;> (simp only [Qqw] at h; obtain rfl := oi h; simp at hok)
    obtain ⟨⟨k, v⟩, l', rfl⟩ := List.exists_cons_of_ne_nil hl
    rcases m6 with ⟨h1, _⟩ | ⟨c, rest, rfl, m7, m8, seen0, rfl⟩
    ·have := Q7l e4
     rw [h1] at this
     simp at this
    ·obtain ⟨c', rest', bk, bs2, hcr, rfl, hK, hV, hE⟩ := e4
     cases hcr
     have hrun : (execOp a.eval o).run P w = .ok (.value (.tuple #[c.key, c.val])) w := by
      have e : execOp a.eval o = (do let v ← Instr.entry (a.eval x); pure (.value v)) := by simp only [execOp, ho]
      rw [e, em]
      simp [run_entry_at (P := P) w b bm clock seen0 es clock c m1 m3 m8 m5]
     have hkeys : (keysOf l' (none : Option (kt.D × Nat))).Nodup := by
      simp only [keysOf, Option.map_none, Option.toList_none, List.append_nil, List.map_cons] at e6 ⊢
      exact (List.nodup_cons.1 e6).2
     have hkv : ∀ (pl' : Pl) (rows' : Rows), VR w pl' rows' (.val [] kt k) c.key := by
      intro pl' rows'
      have hkey := (Q2v hky).1 hK
      show RD w (Safe w pl' rows' []) kt k [c.key]
      rw [hkey]
      cases kt with
      | int i => rfl
      | bool => rfl
      | str => rfl
      | unit => cases hky
      | slice t => cases hky
      | prod a b => cases hok1
     have hkp : ∀ rows', Men rows' (.val [] kt k) ∧ okPV rows' (.val [] kt k) = true := fun rows' => ⟨Qa _, rfl⟩
     have hmap : ∀ pl' : Pl, (∀ d, pl.hid r d → d ∉ bk → pl'.hid r d) → MapAt w pl' r 1 b rest [] := by
      intro pl' hh
      have nbk : bm ∉ bk := fun hm => by
       obtain ⟨arr, T, fr, hc⟩ := Q7m hV bm hm
       rw [m3] at hc; cases hc
      exact ⟨rfl, bm, es, clock, _, m1, hh bm m2 nbk, m3, m4, m5, m7⟩
     have flatGo : (∀ e, vt ≠ .slice e) → out = ⟨true, some (.tup [.val [] kt k, .val [] vt v]), [(r, ⟨n + 1, .mp 1 p kt vt false l' none⟩)]⟩ → Goes P B nt G pl σ a w o out := by
      intro hns hout
      subst hout
      have hbk0 : bk = [] := by
       have hV : FldR w _ _ vt v [c.val] bk := hV
       cases vt with
       | int i => exact hV.1
       | bool => exact hV.1
       | str => exact hV.1
       | unit => cases hov
       | slice e => exact absurd rfl (hns e)
       | prod a b => cases hov
      subst hbk0
      have hvv : ∀ (pl' : Pl) (rows' : Rows), VR w pl' rows' (.val [] vt v) c.val := by
       intro pl' rows'
       have hV : FldR w _ _ vt v [c.val] [] := hV
       show RD w (Safe w pl' rows' []) vt v [c.val]
       cases vt with
       | int i => exact hV.2
       | bool => exact hV.2
       | str => exact hV.2
       | unit => cases hov
       | slice e => exact absurd rfl (hns e)
       | prod a b => cases hov
      have r0 : r ≠ 0 := by rintro rfl; rw [R.zero] at hr; cases hr
      have hlv : RowS.live ⟨n, .mp 2 p kt vt false ((k, v) :: l') none⟩ := by simp [RowS.live]
      obtain ⟨S, Q⟩ := R.alter (nt := nt) (w' := w) (pl' := pl) (rows' := upd σ.rows r (some ⟨n + 1, .mp 1 p kt vt false l' none⟩)) (dst := o.dst) (ov := some (.tup [.val [] kt k, .val [] vt v])) (u := .tuple #[c.key, c.val]) hn hZ hB (· = r) rfl rfl (Nat.le_refl _)
       (fun y hy => ⟨by rw [Q8, if_neg hy], rfl, rfl⟩)
       (fun y s hy hs => by
        subst hy
        rw [hr] at hs
        cases hs
        exact ⟨_, by rw [Q8, if_pos rfl], ⟨by simp, .inr (.inr (.inr (.inr ⟨_, _, _, _, _, _, _, _, _, _, _, rfl, rfl, by simp, by simp⟩)))⟩, by simp, fun _ => rfl⟩)
       (fun y s d o hy hs hl ha => .inr ⟨r, _, o, rfl, hr, hlv, hy ▸ ha⟩)
       (fun y y' s s' d o o' hy hy' _ _ _ _ _ _ => hy.trans hy'.symm)
       (fun d hd h => rfl) (fun d arr Te fr hd => ⟨arr, Te, fr, hd, rfl⟩)
       (by rw [Q8, if_neg (Ne.symm r0)]; exact R.zero)
       (fun S y s hy hs => by
        subst hy
        rw [Q8, if_pos rfl] at hs
        cases hs
        exact ⟨S.provIn g1, hky, b, rest, [], bs2, hb, hmap pl (fun d h _ => h), hE.frame (fun hok => ⟨S.okProv g1 hok, fun b hb => S.safe g1 hok hb⟩) (fun _ _ => rfl), rfl, hkeys, by simpa using e7, fun d hd => e8 d (by simpa using hd)⟩)
       (fun S => ⟨fun v ev => by
        cases ev
        exact ⟨⟨Qa _, Qa _, trivial⟩, fun _ => ⟨_, [_, _], [], rfl, rfl, _, _, rfl, hkv _ _, _, [], rfl, hvv _ _, rfl⟩⟩, fun ev => by cases ev⟩)
      exact ⟨pl, w, _, .inl hrun, S, Quiet.refl w, Q⟩
     cases vt with
     | slice t =>
       obtain rfl := oi h
       obtain ⟨u', loc, c1, c2, c3, c4, c5⟩ := hV
       have c1' : c.val = u' := by simpa using c1
       subst c1'
       obtain ⟨pl', S, Q⟩ := Qtg (nt := nt) (dst := o.dst) (kp := .val [] kt k) (u1 := c.key) (u := c.val) (loc := loc) (es2 := rest) (bk := bk) (bs2 := bs2) R hn hZ hB hk h0 hr hky g1 hb m1 (by simp) hmap hE (List.Perm.refl _) e7 e8 hkeys c5 c3 c4 c2 (Q7m (bx := false) (t := .slice t) (x := v) ⟨c.val, loc, rfl, c2, c3, c4, c5⟩) hkp hkv
       exact ⟨pl', w, _, .inl hrun, S, Quiet.refl w, Q⟩
     | unit => cases hov
     | prod a b => cases hov
     | int i => exact flatGo (by simp) (oi h).symm
     | bool => exact flatGo (by simp) (oi h).symm
     | str => exact flatGo (by simp) (oi h).symm
   ·cases h
  ·cases h
 ·cases h
end
end Go.Proofs.YtecnlienmpdlaaaGreat.PM
