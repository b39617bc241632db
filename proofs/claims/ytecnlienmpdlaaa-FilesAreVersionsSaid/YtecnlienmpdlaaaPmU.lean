/- The small machine PM is sound, third part: the rest of the operations that leave memory alone; and the ways in which memory goes on. -/
import Derived.Test.YtecnlienmpdlaaaPmT
import Derived.Laws.Tables
set_option linter.unusedSimpArgs false
set_option linter.unusedVariables false
namespace Go.Proofs.Ytecnlienmpdlaaa.PM
open Go

section
variable {P : Program} {B nt : Nat} {G : Nat → Prop} {pl : Pl} {σ : St} {a : Act} {w : World} {T : TT}

theorem ProvIn.append {rows : Rows} {p q : Prov} (hp : ProvIn rows p) (hq : ProvIn rows q) : ProvIn rows (p ++ q) := fun x hx => (List.mem_append.1 hx).elim (hp x) (hq x)
theorem okProv_append {rows : Rows} : ∀ {p q : Prov}, okProv rows (p ++ q) = true → okProv rows p = true ∧ okProv rows q = true
  | [], _, h => ⟨rfl, h⟩
  | (r, n) :: p, q, h => by
    simp only [List.cons_append, okProv, Bool.and_eq_true] at h ⊢
    obtain ⟨h1, h2⟩ := h
    obtain ⟨h3, h4⟩ := okProv_append (p := p) h2
    exact ⟨⟨h1, h3⟩, h4⟩
theorem okProv_join {rows : Rows} : ∀ {p q : Prov}, okProv rows p = true → okProv rows q = true → okProv rows (p ++ q) = true
  | [], _, _, h => h
  | (r, n) :: p, q, h, h' => by
    simp only [List.cons_append, okProv, Bool.and_eq_true] at h ⊢
    exact ⟨h.1, okProv_join (p := p) h.2 h'⟩
theorem Safe.mono {w : World} {pl : Pl} {rows : Rows} {p q : Prov} (h : ∀ x ∈ p, x ∈ q) {b : Nat} (hs : Safe w pl rows p b) : Safe w pl rows q b := by
  obtain ⟨h1, h2, h3⟩ := hs
  refine ⟨h1, fun hz => ?_, fun r s o hr hl hloc => ?_⟩
  · obtain ⟨hL, x, hx, e⟩ := h2 hz; exact ⟨hL, x, h x hx, e⟩
  · obtain ⟨x, hx, e⟩ := h3 r s o hr hl hloc; exact ⟨x, h x hx, e⟩
theorem RD_mono {w : World} {pl : Pl} {rows : Rows} {p q : Prov} (h : ∀ x ∈ p, x ∈ q) {t : Ty} {x : t.D} {cs : List Value} (hr : RD w (Safe w pl rows p) t x cs) : RD w (Safe w pl rows q) t x cs :=
  RD_frame (fun _ hb => Safe.mono h hb) (fun _ _ => rfl) hr

theorem run_pick {o : Oper} {c x y : Operand} {b : Bool} (ho : o.op = .pick c x y) (hc : a.eval c = .bool b) : (execOp a.eval o).run P w = .ok (.value (if b then a.eval x else a.eval y)) w := by
  have e : execOp a.eval o = (do let t ← asBool (a.eval c); pure (.value (if t then a.eval x else a.eval y))) := by simp only [execOp, ho]
  rw [e, hc]
  simp [asBool]

theorem op_pick {o : Oper} {c x y : Operand} {out : Out} {key : Nat} (R : Rel B G pl σ a w) (ho : o.op = .pick c x y) (h : opOut T key o.op (look σ) σ.rows = some out) (hok : out.ok = true) :
    Still P pl σ.rows a w o out := by
  rw [ho] at h
  simp only [opOut] at h
  split at h
  · rename_i p b hc
    obtain ⟨_, gc, _⟩ := R.look hc
    have hr := run_pick (P := P) (w := w) ho (isBool gc)
    split at h
    · rename_i p1 t1 y1 p2 t2 y2 h1 h2
      split at h
      · rename_i ht
        subst ht
        obtain rfl := Option.some.inj h
        obtain ⟨m1, v1, k1⟩ := R.look h1
        obtain ⟨m2, v2, k2⟩ := R.look h2
        refine Still.mk' (ProvIn.append m1 m2) hr ?_
        cases b
        · exact RD_mono (fun z hz => List.mem_append_right _ hz) v2
        · exact RD_mono (fun z hz => List.mem_append_left _ hz) v1
      · cases h
    · rename_i v h1 h2
      obtain rfl := Option.some.inj h
      have hb : b = true := hok
      subst hb
      obtain ⟨m1, v1, k1⟩ := R.look h1
      exact Still.mk' m1 hr v1
    · rename_i v h1 h2
      obtain rfl := Option.some.inj h
      have hb : b = false := by
        have : (!b) = true := hok
        simpa using this
      subst hb
      obtain ⟨m1, v1, k1⟩ := R.look h2
      exact Still.mk' m1 hr v1
    · rename_i v h1 h2
      obtain rfl := Option.some.inj h
      have hb : b = true := hok
      subst hb
      obtain ⟨m1, v1, k1⟩ := R.look h1
      exact Still.mk' m1 hr v1
    · rename_i v h1 h2
      obtain rfl := Option.some.inj h
      have hb : b = false := by
        have : (!b) = true := hok
        simpa using this
      subst hb
      obtain ⟨m1, v1, k1⟩ := R.look h2
      exact Still.mk' m1 hr v1
    · cases h
  · cases h

/-! ### conversions -/
theorem run_conv {o : Oper} {s d : Nat} {x : Operand} {u v : Value} {w' : World} (ho : o.op = .convert s d x) (hx : a.eval x = u) (hb : (convert s d u).run P w = .ok v w') : (execOp a.eval o).run P w = .ok (.value v) w' := by
  have e : execOp a.eval o = (do let v ← convert s d (a.eval x); pure (.value v)) := by simp only [execOp, ho]
  rw [e, hx]
  simp [hb]

theorem TIok.under {t : Nat} {i : TI} (h : TIok P t i) : ∃ d, P.underlying t = some d ∧ tdOf d = i.d := by
  obtain ⟨d, h1, h2⟩ := Option.map_eq_some_iff.1 h.desc
  exact ⟨d, h1, h2⟩

theorem foldl_push (l : List Int) : ∀ s : ByteArray, l.foldl (fun r n => r.push (UInt8.ofNat n.toNat)) s = ⟨s.data ++ (l.map fun n => UInt8.ofNat n.toNat).toArray⟩ := by
  induction l with
  | nil => intro s; simp
  | cons n l ih => intro s; rw [List.foldl_cons, ih]; apply ByteArray.ext; simp [ByteArray.push]

theorem strOf_eq (l : List Int) : l.foldl (fun r n => r.push (UInt8.ofNat n.toNat)) ByteArray.empty = strOf l := by
  rw [foldl_push]; simp [strOf, ByteArray.empty, ByteArray.emptyWithCapacity]; rfl

/-- What a value that reads as a list looks like. -/
theorem rd_list {w : World} {S : Nat → Prop} {t : Ty} {l : List t.D} {v : Value} (h : RD w S (.slice t) l [v]) : ∃ A c, v = .slice A l.length c ∧ l.length ≤ c ∧
    (l ≠ [] → ∃ ad : Addr, A = some ad ∧ S ad.block ∧ ∀ i x, l[i]? = some x → ∃ es, RD w S t x es ∧ CellsAt w (ad.add (i * t.size)) es) := by
  obtain ⟨A, c, e, h2, h3⟩ := h
  exact ⟨A, c, by simpa using e, h2, h3⟩

theorem toVal_sound (R : Rel B G pl σ a w) {v x : PV} {u : Value} (hm : Men σ.rows v) (hk : okPV σ.rows v = true) (hv : VR w pl σ.rows v u) (h : toVal σ.rows v = some x) :
    Men σ.rows x ∧ okPV σ.rows x = true ∧ VR w pl σ.rows x u := by
  have row : ∀ {r n : Nat} {p : Prov} {t : Ty} {l : List t.D} {off len : Nat}, σ.rows r = some ⟨n, .arr p t l⟩ → PM.okProv σ.rows p = true → off + len ≤ l.length → SliceOf w pl r t.size off len u →
      Men σ.rows (.val ((r, n) :: p) (.slice t) ((l.drop off).take len)) ∧ okPV σ.rows (.val ((r, n) :: p) (.slice t) ((l.drop off).take len)) = true ∧ VR w pl σ.rows (.val ((r, n) :: p) (.slice t) ((l.drop off).take len)) u := by
    intro r n p t l off len hr hp hle hs
    obtain ⟨g1, g2⟩ := R.rows _ _ hr
    have hk : PM.okProv σ.rows ((r, n) :: p) = true := by
      simp only [PM.okProv, hr, hp, Bool.and_true]
      simp
    refine ⟨?_, hk, ?_⟩
    · intro q hq
      rcases List.mem_cons.1 hq with rfl | hq
      · exact .inr ⟨_, hr, .inl (Nat.le_refl _), trivial⟩
      · exact g1 q hq
    · obtain ⟨A, c, rfl, hc, hs⟩ := hs
      have hlen : ((l.drop off).take len).length = len := by simp; omega
      refine ⟨A, c, by rw [hlen], by rw [hlen]; exact hc, fun hne => ?_⟩
      have h0 : 0 < len := by rw [← hlen]; exact List.length_pos_iff.2 hne
      obtain ⟨b, o, k1, rfl, _⟩ := hs (by omega)
      rw [k1] at g2
      obtain ⟨arr, Te, fr, e1, e2, e3, e4⟩ := g2
      have hlt := Array.getElem?_eq_some_iff.1 e1
      obtain ⟨hlt, _⟩ := hlt
      refine ⟨_, rfl, ⟨hlt, fun hz => ?_, fun r2 s2 o2 h1 h2 h3 => ?_⟩, fun i y hy => ?_⟩
      · exact absurd hz (R.own r _ b o hr (by simp [RowS.live]) (.inl k1)).2.1
      · have := R.inj r2 r s2 _ b o2 o h1 h2 hr (by simp [RowS.live]) h3 (.inl k1)
        exact ⟨(r, n), List.mem_cons_self, this.symm⟩
      · simp only [List.getElem?_take, List.getElem?_drop] at hy
        split at hy
        · obtain ⟨es, f1, f2⟩ := e4 hp _ y hy
          refine ⟨es, RD_mono (fun z hz => List.mem_cons_of_mem _ hz) f1, ?_⟩
          rw [add_at, Nat.add_assoc, ← Nat.add_mul]
          exact f2
        · cases hy
  cases v
  case rw r =>
    simp only [toVal] at h
    split at h
    · rename_i n p t l hr
      split at h
      · rename_i hp
        obtain rfl := Option.some.inj h
        have := row (off := 0) (len := l.length) hr hp (by omega) (hv.2 n p t l hr)
        simpa using this
      · cases h
    · cases h
  case rs r off len =>
    simp only [toVal] at h
    split at h
    · rename_i n p t l hr
      split at h
      · rename_i hp
        obtain rfl := Option.some.inj h
        obtain ⟨g1, g2⟩ := hv.2 n p t l hr
        exact row hr hp g1 g2
      · cases h
    · cases h
  all_goals
    obtain rfl := Option.some.inj h
    exact ⟨hm, hk, hv⟩

/-- The elements of a list of numbers, read. -/
theorem ints_cells {w : World} {S : Nat → Prop} {k : IntKind} {l : List Int} {ad : Addr} (h : ∀ (i : Nat) (x : Int), l[i]? = some x → ∃ es, RD w S (.int k) x es ∧ CellsAt w (ad.add (i * 1)) es) :
    ∀ (j : Nat) (v : Value), (l.map (Value.int k))[j]? = some v → w.cell? (ad.add j) = some v := by
  intro j v hv
  rw [List.getElem?_map, Option.map_eq_some_iff] at hv
  obtain ⟨x, hx, rfl⟩ := hv
  obtain ⟨es, h1, h2⟩ := h j x hx
  have h1' : es = [.int k x] := h1
  subst h1'
  have := h2 0 _ rfl
  rwa [Addr.add_add, Nat.mul_one, Nat.add_zero] at this

theorem op_convert {o : Oper} {s d : Nat} {x : Operand} {out : Out} {key : Nat} (hT : TTok P T) (R : Rel B G pl σ a w) (ho : o.op = .convert s d x)
    (h : opOut T key o.op (look σ) σ.rows = some out) (hno : ∀ e, ¬ ∃ i j, T.at d = some i ∧ i.d = .slice e ∧ T.at s = some j) (hok : out.ok = true) : Still P pl σ.rows a w o out := by
  rw [ho] at h
  simp only [opOut] at h
  split at h
  · rename_i i k z1 z2 z3 z4 p k' n hs hd hx
    obtain rfl := Option.some.inj h
    obtain ⟨_, g2, _⟩ := R.look hx
    obtain ⟨d1, e1, _⟩ := (hT _ _ hs).under
    exact Still.mk' (men_int _ _ _) (run_conv ho (isInt g2) (by simp [convert, run_underlying e1, run_underlying ((hT _ _ hd).int rfl), Conv.intToInt])) rfl
  · rename_i z1 z2 z3 z4 z5 z6 z7 z8 p y hs hd hx
    obtain rfl := Option.some.inj h
    obtain ⟨g1, g2, _⟩ := R.look hx
    exact Still.mk' g1 (run_conv ho (isStr g2) (by simp [convert, run_underlying ((hT _ _ hs).str rfl), run_underlying ((hT _ _ hd).str rfl)])) rfl
  · rename_i e z1 z2 z3 z4 z5 z6 z7 z8 v hs hd hx
    obtain ⟨g1, g2, g3⟩ := R.look hx
    split at h
    · rename_i y1 y2 y3 y4 he
      have k1 := (hT _ _ hs).slice rfl
      have k2 := (hT _ _ hd).str rfl
      have k3 := (hT _ _ he).int rfl
      split at h
      · rename_i p l hv
        obtain rfl := Option.some.inj h
        obtain ⟨m1, m2, m3⟩ := toVal_sound R g1 g3 g2 hv
        obtain ⟨A, c, e1, e2, e3⟩ := rd_list m3
        refine Still.mk' (fun q hq => by cases hq) (run_conv ho e1 ?_) (rfl : VR w pl σ.rows (.val [] .str (strOf l)) (.string (strOf l)))
        rw [run_convert_bytes_string w s d e _ _ _ k1 k3 k2, ← strOf_eq]
        cases A with
        | none =>
          have : l = [] := by
            cases l with
            | nil => rfl
            | cons y l => obtain ⟨_, e, _⟩ := e3 (by simp); cases e
          subst this
          simp [Conv.bytesToString]
        | some ad =>
          refine run_bytesToString w ad _ c l ?_
          have := run_loadCells_list (P := P) w ad (l.map (Value.int .u8)) (fun j v hj => by
            have hne : l ≠ [] := by rintro rfl; simp at hj
            obtain ⟨ad', ea, _, hc⟩ := e3 hne
            cases ea
            exact ints_cells (k := .u8) hc j v hj)
          simpa using this
      · rename_i hv
        obtain rfl := Option.some.inj h
        obtain ⟨m1, m2, m3⟩ := toVal_sound R g1 g3 g2 hv
        have m3' : a.eval x = .slice none 0 0 := m3
        exact Still.mk' (fun q hq => by cases hq) (run_conv ho m3' (by rw [run_convert_bytes_string w s d e none 0 0 k1 k3 k2]; simp [Conv.bytesToString, ByteArray.empty, ByteArray.emptyWithCapacity]; rfl)) rfl
      · cases h
    · cases h
  · rename_i hs hd hx
    exact absurd ⟨_, _, hd, rfl, hs⟩ (hno _)
  · rename_i hs hd hx
    exact absurd ⟨_, _, hd, rfl, hs⟩ (hno _)
  · cases h

/-! ### builtins that leave memory alone -/
theorem look_all (R : Rel B G pl σ a w) : ∀ {l : List Operand} {vs : List PV}, l.mapM (look σ) = some vs → Mens σ.rows vs ∧ VRs w pl σ.rows vs (l.map a.eval) ∧ okPV.okAll σ.rows vs = true
  | [], vs, h => by
    simp only [List.mapM_nil, Option.pure_def, Option.some.injEq] at h
    subst h
    exact ⟨trivial, rfl, rfl⟩
  | x :: l, vs, h => by
    rw [List.mapM_cons] at h
    simp only [Option.bind_eq_bind, Option.bind_eq_some_iff, Option.pure_def, Option.some.injEq] at h
    obtain ⟨v, h1, us, h2, rfl⟩ := h
    obtain ⟨g1, g2, g3⟩ := R.look h1
    obtain ⟨f1, f2, f3⟩ := look_all R h2
    exact ⟨⟨g1, f1⟩, ⟨_, _, rfl, g2, f2⟩, by simp only [okPV.okAll, g3, f3, Bool.and_self]⟩

theorem run_builtin {o : Oper} {c : Call} {b : Builtin} {r : Result Next} (ho : o.op = .call c) (hc : c.callee = .builtin b)
    (hb : (builtin b c.argTypes o.type (c.args.map fun | .const _ => true | _ => false) (c.args.map a.eval)).run P w = r) : (execOp a.eval o).run P w = r := by
  have e : execOp a.eval o = (do let d ← resolve a.eval c o.type; invoke d.target d.args) := by simp only [execOp, ho]
  rw [e]
  unfold resolve
  rw [hc]
  simp only [Sem.run_bind, Sem.run_pure, Result.andThen, invoke]
  exact hb

theorem lenOf_sound (R : Rel B G pl σ a w) {t : Nat} {i : TI} (hi : TIok P t i) {v : PV} {u : Value} {n : Int} (hv : VR w pl σ.rows v u) (h : lenOf σ.rows i.d v = some n) (ts : Array Nat) (ht : ts[0]? = some t) (ty : Nat) :
    (Builtin.len_ ts ty #[u]).run P w = .ok (.int .i64 n) w := by
  have slc : ∀ {e : Nat} {A : Option Addr} {m c : Nat}, i.d = .slice e → u = .slice A m c → n = (m : Nat) → (Builtin.len_ ts ty #[u]).run P w = .ok (.int .i64 n) w := by
    intro e A m c h1 h2 h3
    subst h2; subst h3
    simp [Builtin.len_, ht, run_underlying (hi.slice h1), goInt]
  generalize hd : i.d = d at h
  unfold lenOf at h
  split at h
  · obtain rfl := Option.some.inj h
    rw [isStr hv]
    simp [Builtin.len_, ht, run_underlying (hi.str hd), goInt]
  · obtain rfl := Option.some.inj h
    exact slc hd hv rfl
  · obtain rfl := Option.some.inj h
    obtain ⟨A, c, e, _⟩ := rd_list hv
    exact slc hd e rfl
  · split at h
    · rename_i hr
      obtain rfl := Option.some.inj h
      obtain ⟨A, c, e, _⟩ := hv.2 _ _ _ _ hr
      exact slc hd e rfl
    · cases h
  · split at h
    · rename_i hr
      obtain rfl := Option.some.inj h
      obtain ⟨_, A, c, e, _⟩ := hv.2 _ _ _ _ hr
      exact slc hd e rfl
    · cases h
  · split at h
    · rename_i hr
      obtain rfl := Option.some.inj h
      obtain ⟨b, e1, rfl⟩ := hv.1.2 _ _ _ _ _ _ _ hr
      obtain ⟨_, _, b', es1, st, bs, e2, ⟨es, clock, m1, m2, _⟩, e4, e5, _⟩ := R.rows _ _ hr
      rw [e1] at e2
      cases e2
      have hst : st = [] := e5
      subst hst
      have hlen := m2.length_eq
      rw [List.append_nil, Ents_len e4] at hlen
      have hsz : es.size = _ := (Array.length_toList (xs := es)).symm.trans hlen
      simp [Builtin.len_, ht, run_underlying (hi.map hd), goInt, getObj, Sem.run, m1, hsz, Result.andThen]
    · cases h
  · cases h

theorem op_len {o : Oper} {c : Call} {out : Out} {key : Nat} (hT : TTok P T) (R : Rel B G pl σ a w) (ho : o.op = .call c) (hc : c.callee = .builtin .len)
    (h : opOut T key o.op (look σ) σ.rows = some out) (hok : out.ok = true) : Still P pl σ.rows a w o out := by
  rw [ho] at h
  simp only [opOut, hc] at h
  split at h
  · rename_i vs hvs
    unfold builtinOut at h
    split at h
    · rename_i t ts v hts
      split at h
      · rename_i i hi
        split at h
        · rename_i n hn
          obtain rfl := Option.some.inj h
          obtain ⟨g1, ⟨u, us, e1, g2, e2⟩, g3⟩ := look_all R hvs
          have e2' : us = [] := e2
          subst e2'
          have e3 : c.args.map a.eval = #[u] := by
            apply Array.ext'
            simpa using e1
          refine Still.mk' (men_int _ _ _) (run_builtin ho hc ?_) rfl
          rw [e3]
          simp only [builtin]
          have := lenOf_sound R (hT _ _ hi) g2 hn c.argTypes (by rw [← Array.getElem?_toList, ‹c.argTypes.toList = _›]; rfl) o.type
          simp [this]
        · cases h
      · cases h
    all_goals (first | (cases ‹Builtin.len = _›; done) | (simp at *; done))
  · cases h

theorem two_args (R : Rel B G pl σ a w) {c : Call} {v1 v2 : PV} (h : c.args.toList.mapM (look σ) = some [v1, v2]) :
    ∃ u1 u2, c.args.map a.eval = #[u1, u2] ∧ VR w pl σ.rows v1 u1 ∧ VR w pl σ.rows v2 u2 ∧ Men σ.rows v1 ∧ Men σ.rows v2 ∧ okPV σ.rows v1 = true ∧ okPV σ.rows v2 = true := by
  obtain ⟨g1, ⟨u1, us, e1, g2, u2, us2, e2, g4, e5⟩, g3⟩ := look_all R h
  have e5' : us2 = [] := e5
  subst e5'; subst e2
  simp only [okPV.okAll, Bool.and_true, Bool.and_eq_true] at g3
  exact ⟨u1, u2, by apply Array.ext'; simpa using e1, g2, g4, g1.1, g1.2.1, g3.1, g3.2⟩

theorem op_minmax {o : Oper} {c : Call} {out : Out} {key : Nat} (R : Rel B G pl σ a w) (ho : o.op = .call c) (hc : c.callee = .builtin .min ∨ c.callee = .builtin .max)
    (h : opOut T key o.op (look σ) σ.rows = some out) (hok : out.ok = true) : Still P pl σ.rows a w o out := by
  rw [ho] at h
  rcases hc with hc | hc
  all_goals
    simp only [opOut, hc] at h
    split at h
    · rename_i vs hvs
      unfold builtinOut at h
      split at h
      all_goals (first | (cases ‹Builtin.min = _›; done) | (cases ‹Builtin.max = _›; done) | (cases h; done) | skip)
      rename_i p k m p' k' n hb
      split at h
      · rename_i hk
        subst hk
        obtain rfl := Option.some.inj h
        obtain ⟨u1, u2, e, g1, g2, _⟩ := two_args R hvs
        refine Still.mk' (men_int _ _ _) (run_builtin ho hc ?_) rfl
        rw [e, isInt g1, isInt g2]
        simp [builtin, Builtin.min_, Builtin.max_, Builtin.min2, Builtin.max2, GT.gt]
      · cases h
    · cases h

theorem op_cap {o : Oper} {c : Call} {out : Out} {key : Nat} (hT : TTok P T) (R : Rel B G pl σ a w) (ho : o.op = .call c) (hc : c.callee = .builtin .cap)
    (h : opOut T key o.op (look σ) σ.rows = some out) (hok : out.ok = true) : Still P pl σ.rows a w o out := by
  rw [ho] at h
  simp only [opOut, hc] at h
  split at h
  · rename_i vs hvs
    unfold builtinOut at h
    split at h
    all_goals (first | (cases ‹Builtin.cap = _›; done) | (cases h; done) | skip)
    rename_i t ts _ hts
    split at h
    · rename_i hi
      obtain rfl := Option.some.inj h
      obtain ⟨g1, ⟨u, us, e1, g2, e2⟩, g3⟩ := look_all R hvs
      have e2' : us = [] := e2
      subst e2'
      have g2' : u = .slice none 0 0 := g2
      subst g2'
      have e3 : c.args.map a.eval = #[.slice none 0 0] := by
        apply Array.ext'
        simpa using e1
      refine Still.mk' (men_int _ _ _) (run_builtin ho hc ?_) rfl
      rw [e3]
      have ht : c.argTypes[0]? = some t := by rw [← Array.getElem?_toList, hts]; rfl
      simp [builtin, Builtin.cap_, ht, run_underlying ((hT _ _ hi).slice rfl), goInt]
    · cases h
  · cases h

theorem op_makeFunc {o : Oper} {fn : Fn} {f cs : Array Operand} {out : Out} {key : Nat} (R : Rel B G pl σ a w) (ho : o.op = .makeFunc fn f cs)
    (h : opOut T key o.op (look σ) σ.rows = some out) : Still P pl σ.rows a w o out := by
  rw [ho] at h
  unfold opOut at h
  split at h
  all_goals (first | (cases h; done) | (rename_i he; cases he; done) | skip)
  rename_i fn' cs' he
  cases he
  split at h
  · rename_i vs hvs
    obtain rfl := Option.some.inj h
    obtain ⟨g1, g2, g3⟩ := look_all R hvs
    refine Still.mk' g1 (u := .func (.func fn') #[] (cs.map a.eval)) ?_ ⟨cs.map a.eval, rfl, by simpa using g2⟩
    simp [execOp, ho, Instr.makeFunc]
  · cases h

/-! ### structs built -/
theorem zip_fold (vs : List Value) (off : Nat) : ∀ (k : Nat) (cs : Array Value), off + k + vs.length ≤ cs.size →
    ((vs.zipIdx k).foldl (fun (cs : Array Value) (x : Value × Nat) => cs.setIfInBounds (off + x.2) x.1) cs).toList = cs.toList.take (off + k) ++ vs ++ cs.toList.drop (off + k + vs.length) := by
  induction vs with
  | nil => intro k cs _; simp
  | cons v vs ih =>
    intro k cs h
    simp only [List.length_cons] at h
    simp only [List.zipIdx_cons, List.foldl_cons]
    rw [ih (k + 1) _ (by simp; omega)]
    simp only [Array.toList_setIfInBounds, List.length_cons]
    have h1 : (cs.toList.set (off + k) v).take (off + (k + 1)) = cs.toList.take (off + k) ++ [v] := by
      rw [← Nat.add_assoc, List.take_add_one]
      simp [List.take_set_of_le, show off + k < cs.size by omega]
    have h2 : (cs.toList.set (off + k) v).drop (off + (k + 1) + vs.length) = cs.toList.drop (off + k + (vs.length + 1)) := by
      rw [List.drop_set_of_lt (by omega)]
      congr 1; omega
    rw [h1, h2]
    simp

theorem fill_one {place : Nat → Option (Nat × Nat)} {cells : Array Value} {i off size : Nat} {v : Value} {rest : List (Nat × Value)} (hp : place i = some (off, size)) (hv : v.cells.size = size) (hle : off + size ≤ cells.size) :
    Instr.fill place cells ((i, v) :: rest) = Instr.fill place ((cells.toList.take off ++ v.cells.toList ++ cells.toList.drop (off + size))).toArray rest := by
  simp only [Instr.fill, hp, hv]
  rw [if_neg (by simp; omega)]
  congr 1
  apply Array.ext'
  rw [← Array.foldl_toList, Array.toList_zipIdx]
  have := zip_fold v.cells.toList off 0 cells (by simp; omega)
  rw [Nat.add_zero] at this
  rw [this]
  simp [hv]

theorem vrs_take {w : World} {pl : Pl} {rows : Rows} {l : List PV} {us : List Value} (h : VRs w pl rows l us) (n : Nat) : VRs w pl rows (l.take n) (us.take n) := by
  have := vrs_cut h 0 n; simpa using this
theorem vrs_drop {w : World} {pl : Pl} {rows : Rows} {l : List PV} {us : List Value} (h : VRs w pl rows l us) (n : Nat) : VRs w pl rows (l.drop n) (us.drop n) := by
  refine vrs_of (by simp [vrs_len h]) fun j x u hx hu => ?_
  simp only [List.getElem?_drop] at hx hu
  obtain ⟨u2, g1, g2⟩ := vrs_get h _ x hx
  rw [hu] at g1
  obtain rfl := Option.some.inj g1
  exact g2
theorem vrs_set {w : World} {pl : Pl} {rows : Rows} {l vs : List PV} {us xs : List Value} (h : VRs w pl rows l us) (h2 : VRs w pl rows vs xs) (off : Nat) :
    VRs w pl rows (setCells l off vs) (us.take off ++ xs ++ us.drop (off + xs.length)) := by
  rw [vrs_len h2]
  exact vrs_append (vrs_append (vrs_take h off) h2) (vrs_drop h _)
theorem mens_of {rows : Rows} : ∀ {k : List PV}, (∀ v ∈ k, Men rows v) → Mens rows k
  | [], _ => trivial
  | x :: k, h => ⟨h x List.mem_cons_self, mens_of fun v hv => h v (List.mem_cons_of_mem _ hv)⟩
theorem mens_set {rows : Rows} {l vs : List PV} (h : Mens rows l) (h2 : Mens rows vs) (off : Nat) : Mens rows (setCells l off vs) := by
  refine mens_of fun v hv => ?_
  simp only [setCells, List.mem_append] at hv
  rcases hv with (hv | hv) | hv
  · exact mens_mem h v (List.mem_of_mem_take hv)
  · exact mens_mem h2 v hv
  · exact mens_mem h v (List.mem_of_mem_drop hv)
theorem len_set {l vs : List PV} {off : Nat} (h : off + vs.length ≤ l.length) : (setCells l off vs).length = l.length := by
  simp only [setCells, List.length_append, List.length_take, List.length_drop]; omega

theorem buildCells_sound (R : Rel B G pl σ a w) {fs : List (Nat × Nat)} {place : Nat → Option (Nat × Nat)} (hp : ∀ i t off, fs[i]? = some (t, off) → ∃ ti, T.at t = some ti ∧ place i = some (off, ti.size)) :
    ∀ {ps : List (Nat × Operand)} {l l' : List PV} {cs : Array Value}, buildCells T fs (look σ) ps l = some l' → VRs w pl σ.rows l cs.toList → Mens σ.rows l → (∀ u ∈ cs.toList, u.oneCell' = true) →
    ∃ cs', Instr.fill place cs (ps.map fun x => (x.1, a.eval x.2)) = some cs' ∧ VRs w pl σ.rows l' cs'.toList ∧ Mens σ.rows l' ∧ ∀ u ∈ cs'.toList, u.oneCell' = true
  | [], l, l', cs, h, hv, hm, h1 => by
    obtain rfl := Option.some.inj h
    exact ⟨cs, rfl, hv, hm, h1⟩
  | (i, x) :: ps, l, l', cs, h, hv, hm, h1 => by
    simp only [buildCells] at h
    split at h
    · rename_i t off v hf hx
      split at h
      · rename_i ti vs ht hvs
        split at h
        · rename_i hc
          obtain ⟨c1, c2⟩ := hc
          obtain ⟨ti', e1, e2⟩ := hp i t off hf
          rw [ht] at e1
          obtain rfl := Option.some.inj e1
          obtain ⟨g1, g2, g3⟩ := R.look hx
          obtain ⟨f1, f2⟩ := vr_cells g2 hvs
          have hlen : (a.eval x).cells.size = ti.size := by
            have := vrs_len f1
            simpa [c1] using this
          have hcl := vrs_len hv
          have hsz : off + ti.size ≤ cs.size := by
            have : cs.size = l.length := by simpa using hcl
            omega
          rw [List.map_cons, fill_one e2 hlen hsz]
          refine buildCells_sound R hp h ?_ (mens_set hm (men_cells g1 hvs) off) ?_
          · have := vrs_set hv f1 off
            simpa [hlen] using this
          · intro u hu
            simp only [List.mem_append] at hu
            rcases hu with (hu | hu) | hu
            · exact h1 u (List.mem_of_mem_take hu)
            · exact f2 u hu
            · exact h1 u (List.mem_of_mem_drop hu)
        · cases h
      · cases h
    · cases h

theorem places_of (hT : TTok P T) : ∀ (fl : List Field), (fl.map fun f => (f.type, f.offset)).all (fun f => (T.at f.1).isSome) = true →
    ∃ places : List (Nat × Nat), fl.mapM (fun f => (P.info? f.type).map fun i => (f.offset, i.size)) = some places ∧
      ∀ (i t off : Nat), (fl.map fun f => (f.type, f.offset))[i]? = some (t, off) → ∃ ti, T.at t = some ti ∧ places[i]? = some (off, ti.size)
  | [], _ => ⟨[], rfl, fun i t off h => by simp at h⟩
  | f :: fl, h => by
    simp only [List.map_cons, List.all_cons, Bool.and_eq_true] at h
    obtain ⟨h1, h2⟩ := h
    obtain ⟨ti, hti⟩ := Option.isSome_iff_exists.1 h1
    obtain ⟨x, z, e1, e2, _⟩ := (hT _ _ hti).infos
    obtain ⟨places, g1, g2⟩ := places_of hT fl h2
    refine ⟨(f.offset, x.size) :: places, by simp [List.mapM_cons, e1, g1], fun i t off hi => ?_⟩
    cases i with
    | zero => simp at hi; obtain ⟨rfl, rfl⟩ := hi; exact ⟨ti, hti, by simp [e2]⟩
    | succ i => exact g2 i t off (by simpa using hi)

theorem zeros_vrs (w : World) (pl : Pl) (rows : Rows) : ∀ {z : List Value}, z.all (·.oneCell') = true → VRs w pl rows (z.map constPV) z ∧ Mens rows (z.map constPV) ∧ ∀ u ∈ z, u.oneCell' = true
  | [], _ => ⟨rfl, trivial, fun u h => by cases h⟩
  | v :: z, h => by
    simp only [List.all_cons, Bool.and_eq_true] at h
    obtain ⟨g1, g2, g3⟩ := zeros_vrs w pl rows h.2
    obtain ⟨f1, f2⟩ := vr_const w pl rows v h.1
    exact ⟨⟨v, z, rfl, f1, g1⟩, ⟨f2, g2⟩, fun u hu => (List.mem_cons.1 hu).elim (fun e => e ▸ h.1) (g3 u)⟩

theorem op_build {o : Oper} {t : Nat} {ps : Array (Nat × Operand)} {out : Out} {key : Nat} (hT : TTok P T) (R : Rel B G pl σ a w) (ho : o.op = .build t ps)
    (h : opOut T key o.op (look σ) σ.rows = some out) : Still P pl σ.rows a w o out := by
  rw [ho] at h
  simp only [opOut] at h
  split at h
  · rename_i fs z1 z2 z z3 ht
    split at h
    · rename_i hc
      simp only [Bool.and_eq_true] at hc
      obtain ⟨hc1, hc2⟩ := hc
      split at h
      · rename_i l hl
        obtain rfl := Option.some.inj h
        obtain ⟨fl, e1, e2⟩ := (hT _ _ ht).struct rfl
        rw [← e2] at hc1 hl
        obtain ⟨places, p1, p2⟩ := places_of hT fl.toList hc1
        obtain ⟨x, zv, f1, f2, f3, f4, f5⟩ := (hT _ _ ht).infos
        obtain ⟨q1, q2, q3⟩ := zeros_vrs w pl σ.rows hc2
        simp only at f5
        obtain ⟨cs, r1, r2, r3, r4⟩ := buildCells_sound (place := (places.toArray[·]?)) (cs := zv.cells) R (fun i t off hi => by obtain ⟨ti, a1, a2⟩ := p2 i t off hi; exact ⟨ti, a1, by simpa using a2⟩) hl
          (by rw [f5]; exact q1) q2 (by rw [f5]; exact q3)
        refine Still.mk' r3 (u := .agg cs) ?_ ⟨cs, rfl, r2, r4⟩
        have e : execOp a.eval o = (do let v ← Instr.build t (ps.map fun (i, x) => (i, a.eval x)); pure (.value v)) := by simp only [execOp, ho]
        have hb : P.built t (ps.map fun (i, x) => (i, a.eval x)).toList = some cs := by
          simp only [Program.built, f1, e1, f4, p1]
          simpa using r1
        rw [e]
        simp [run_build w t _ cs hb]
      · cases h
    · cases h
  · cases h
end
end Go.Proofs.Ytecnlienmpdlaaa.PM
