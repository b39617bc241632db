/- The small machine PM is sound, second part: operations that read memory, and addresses. -/
import Derived.Test.YtecnlienmpdlaaaPmS
set_option linter.unusedSimpArgs false
set_option linter.unusedVariables false
namespace Go.Proofs.Ytecnlienmpdlaaa.PM
open Go

section
variable {P : Program} {B nt : Nat} {G : Nat → Prop} {pl : Pl} {σ : St} {a : Act} {w : World} {T : TT}

theorem add_at (b o n : Nat) : (⟨b, o, none⟩ : Addr).add n = ⟨b, o + n, none⟩ := by unfold Addr.add; split <;> simp_all
theorem cell_at {b j : Nat} {arr : Array Value} {T : TypeId} {fr : Nat × Nat} (h : w.heap[b]? = some (.cells arr T fr)) : w.cell? ⟨b, j, none⟩ = arr[j]? := by
  simp [World.cell?, h]

/-- A variable's load. -/
theorem run_loadVar_cells {t : Nat} {i : TI} (hi : TIok P t i) {g : Bool} (hg : aggOf i.d = some g) {ad : Addr} {es : List Value} (hc : CellsAt w ad es) (hlen : es.length = i.size) :
    (loadVar t ad).run P w = .ok (if g then .agg es.toArray else es.getD 0 undef) w ∨ (g = false ∧ i.size ≠ 1) := by
  cases g with
  | true =>
    left
    have hl := run_loadCells_list (P := P) w ad es hc
    rw [hlen] at hl
    simp [loadVar, hi.agg hg w, hi.sizeOf w, hl]
  | false =>
    by_cases h1 : i.size = 1
    · left
      have h0 : es[0]? = some (es.getD 0 undef) := by
        match es, hlen.trans h1 with
        | [x], _ => rfl
      have := hc 0 _ h0
      simp only [Addr.add_zero'] at this
      simp [loadVar, hi.agg hg w, this]
    · exact .inr ⟨rfl, h1⟩

theorem cells_sub {ad : Addr} {es : List Value} (h : CellsAt w ad es) (o n : Nat) : CellsAt w (ad.add o) ((es.drop o).take n) := by
  intro j v hj
  simp only [List.getElem?_take, List.getElem?_drop] at hj
  by_cases hn : j < n
  · rw [if_pos hn] at hj
    rw [Addr.add_add]
    exact h _ v hj
  · rw [if_neg hn] at hj; cases hj

/-- A load out of cells that stand for values. -/
theorem load_sound (hT : TTok P T) {o : Oper} {t : Nat} {x : Operand} (ho : o.op = .load t x) {ad : Addr} {off : Nat} (hx : a.eval x = .pointer (some (ad.add off))) {l : List PV} {us : List Value} {v : PV}
    (hs : subAt T t l off = some v) (hc : CellsAt w ad us) (hlen : us.length = l.length)
    (h : ∀ (j : Nat) (x : PV) (u : Value), l[j]? = some x → us[j]? = some u → okPV σ.rows x = true → VR w pl σ.rows x u) (h1 : ∀ x ∈ us, x.oneCell' = true) (hm : Mens σ.rows l) :
    Still P pl σ.rows a w o ⟨true, some v, []⟩ := by
  obtain ⟨g1, i, g, u, e1, e2, e3, e4, e5⟩ := part_sound hT hs hlen h h1 hm
  refine ⟨rfl, v, rfl, g1, u, .inl ?_, e4⟩
  have hcc := cells_sub hc off i.size
  have hll : ((us.drop off).take i.size).length = i.size := by simp; omega
  have hr := run_loadVar_cells (P := P) (hT t i e1) e2 hcc hll
  have hu : (loadVar t (ad.add off)).run P w = .ok u w := by
    rcases hr with hr | ⟨hg, hne⟩
    · rw [hr]
      cases g with
      | true => simp only [if_true] at e5 ⊢; rw [e5]
      | false =>
        simp only [Bool.false_eq_true, if_false] at e5 ⊢
        obtain ⟨k1, k2⟩ := e5
        congr 1
        simp [k2, List.getD_eq_getElem?_getD, k1]
    · subst hg; simp at e5; exact absurd e5.2 hne
  have e : execOp a.eval o = (do let v ← Instr.loadAt t (a.eval x); pure (.value v)) := by simp only [execOp, ho]
  rw [e, hx]
  simp [Instr.loadAt, Instr.sureAddr, hu]

theorem op_load (hT : TTok P T) {o : Oper} {t : Nat} {x : Operand} {out : Out} {key : Nat} (R : Rel B G pl σ a w) (ho : o.op = .load t x)
    (h : opOut T key o.op (look σ) σ.rows = some out) : Still P pl σ.rows a w o out := by
  rw [ho] at h
  simp only [opOut] at h
  split at h
  · rename_i r off hx
    obtain ⟨g1, ⟨_, g2⟩, _⟩ := R.look hx
    split at h
    · rename_i n l hr
      split at h
      · rename_i v hs
        obtain rfl := Option.some.inj h
        obtain ⟨b, hl, hv⟩ := g2 n l hr
        obtain ⟨m1, b', arr, T', fr, k0, k1, k2, k3, k4⟩ := R.rows r _ hr
        rw [hl] at k0
        obtain ⟨rfl, _⟩ := Prod.mk.inj (Option.some.inj k0)
        refine load_sound (ad := ⟨b, 0, none⟩) (us := arr.toList) hT ho (by rw [hv, add_at, Nat.zero_add]) hs ?_ (by simpa using k2) ?_ ?_ m1
        · intro j u hj
          rw [add_at, Nat.zero_add, cell_at k1]
          simpa using hj
        · intro j y u hy hu hk
          obtain ⟨v', q1, q2, q3⟩ := k4 j y hy
          simp only [Array.getElem?_toList] at hu
          rw [q1] at hu
          obtain rfl := Option.some.inj hu
          exact q3 hk
        · intro u hu
          obtain ⟨j, hj⟩ := List.getElem?_of_mem hu
          have hjl : j < l.length := by
            have := (List.getElem?_eq_some_iff.1 hj).1
            simpa [k2] using this
          obtain ⟨v', q1, q2, _⟩ := k4 j l[j] (List.getElem?_eq_getElem hjl)
          simp only [Array.getElem?_toList] at hj
          rw [q1] at hj
          obtain rfl := Option.some.inj hj
          exact q2
      · cases h
    · cases h
  · rename_i r j off hx
    obtain ⟨g1, ⟨_, g2⟩, _⟩ := R.look hx
    split at h
    · rename_i n p ty l hr
      split at h
      · rename_i hok
        split at h
        · rename_i v hs
          obtain rfl := Option.some.inj h
          obtain ⟨hj, b, o', hl, hv⟩ := g2 n p ty l hr
          obtain ⟨m1, m2⟩ := R.rows r _ hr
          rw [hl] at m2
          obtain ⟨arr, T', fr, k1, k2, k3, k4⟩ := m2
          have hgd : l.getD j ty.zero = l[j] := by simp [List.getD_eq_getElem?_getD, List.getElem?_eq_getElem hj]
          rw [hgd] at hs
          obtain ⟨es, q1, q2⟩ := k4 hok j l[j] (List.getElem?_eq_getElem hj)
          have hvr := vr_explode (p := p) (rows := σ.rows) (pl := pl) q1
          refine load_sound (ad := ⟨b, o' + j * ty.size, none⟩) (us := es) hT ho (by rw [hv, add_at]) hs q2 (vrs_len hvr) ?_ (RD_one q1) (men_explode m1)
          intro i y u hy hu _
          obtain ⟨u', e1, e2⟩ := vrs_get hvr i y hy
          rw [hu] at e1
          obtain rfl := Option.some.inj e1
          exact e2
        · cases h
      · cases h
    · cases h
  · rename_i p ty l i off hx
    obtain ⟨g1, g2, _⟩ := R.look hx
    split at h
    · rename_i v hs
      obtain rfl := Option.some.inj h
      obtain ⟨x', es, q1, q2, ad, q3, q4, q5⟩ := g2
      have hgd : l.getD i ty.zero = x' := by simp [List.getD_eq_getElem?_getD, q1]
      rw [hgd] at hs
      have hvr := vr_explode (p := p) (rows := σ.rows) (pl := pl) q2
      refine load_sound (ad := ad) (us := es) hT ho q3 hs q5 (vrs_len hvr) ?_ (RD_one q2) (men_explode g1)
      intro i y u hy hu _
      obtain ⟨u', e1, e2⟩ := vrs_get hvr i y hy
      rw [hu] at e1
      obtain rfl := Option.some.inj e1
      exact e2
    · cases h
  · cases h

theorem addr_sound (R : Rel B G pl σ a w) {x : Operand} {v : PV} (hx : look σ x = some v) (ha : isAddr σ.rows v = true) : ∃ ad : Addr, a.eval x = .pointer (some ad) := by
  obtain ⟨g1, g2, _⟩ := R.look hx
  cases v <;> simp only [isAddr] at ha <;> first
    | (cases ha; done)
    | skip
  · exact g2.1.2.1
  · exact g2.1.2
  · obtain ⟨_, _, _, _, ad, e, _⟩ := g2
    exact ⟨_, e⟩

theorem op_nilCheck {o : Oper} {x : Operand} {out : Out} {key : Nat} (R : Rel B G pl σ a w) (ho : o.op = .nilCheck x) (h : opOut T key o.op (look σ) σ.rows = some out) :
    Still P pl σ.rows a w o out := by
  rw [ho] at h
  simp only [opOut] at h
  split at h
  · rename_i v hx
    split at h
    · rename_i ha
      obtain rfl := Option.some.inj h
      obtain ⟨ad, he⟩ := addr_sound R hx ha
      obtain ⟨g1, g2, _⟩ := R.look hx
      refine Still.mk' g1 ?_ g2
      simp only [execOp, ho, he]
      rfl
    · cases h
  · cases h

theorem op_fieldAddr (hT : TTok P T) {o : Oper} {s f : Nat} {x : Operand} {out : Out} {key : Nat} (R : Rel B G pl σ a w) (ho : o.op = .fieldAddr s x f)
    (h : opOut T key o.op (look σ) σ.rows = some out) : Still P pl σ.rows a w o out := by
  rw [ho] at h
  simp only [opOut] at h
  split at h
  · rename_i fs z1 z2 z3 z4 v hs hx
    split at h
    · rename_i t off hf
      split at h
      · rename_i i hi
        split at h
        · cases h
        · rename_i hsz
          split at h
          · rename_i ha
            obtain ⟨ad, he⟩ := addr_sound R hx ha
            obtain ⟨g1, g2, _⟩ := R.look hx
            obtain ⟨fl, hu, hfl⟩ := (hT _ _ hs).struct rfl
            have hff : ∃ fd, fl[f]? = some fd ∧ fd.type = t ∧ fd.offset = off := by
              rw [← hfl] at hf
              simp only [List.getElem?_map, Array.getElem?_toList, Option.map_eq_some_iff] at hf
              obtain ⟨fd, e1, e2⟩ := hf
              exact ⟨fd, e1, congrArg Prod.fst e2, congrArg Prod.snd e2⟩
            obtain ⟨fd, e1, rfl, rfl⟩ := hff
            have hrun : (execOp a.eval o).run P w = .ok (.value (.pointer (some (ad.add fd.offset)))) w := by
              have e : execOp a.eval o = (do let v ← Instr.fieldAt s (a.eval x) f; pure (.value v)) := by simp only [execOp, ho]
              rw [e, he]
              simp [Instr.fieldAt, run_underlying hu, e1, Instr.sureAddr, fieldPlace, (hT _ _ hi).sizeOf w, hsz]
            cases v <;> simp only at h <;> first
              | (cases h; done)
              | skip
            · obtain rfl := Option.some.inj h
              refine Still.mk' g1 hrun ⟨⟨rfl, ⟨_, rfl⟩, fun n i p kt vt bx l tk hr => ?_⟩, fun n l hr => ?_⟩
              · obtain ⟨b, k1, k2⟩ := g2.1.2.2 n i p kt vt bx l tk hr
                rw [he] at k2
                obtain rfl : ad = _ := Option.some.inj (Value.pointer.inj k2)
                exact ⟨b, k1, by rw [add_at]⟩
              obtain ⟨b, k1, k2⟩ := g2.2 n l hr
              rw [he] at k2
              obtain rfl : ad = _ := Option.some.inj (Value.pointer.inj k2)
              exact ⟨b, k1, by rw [add_at]⟩
            · obtain rfl := Option.some.inj h
              refine Still.mk' g1 hrun ⟨⟨rfl, _, rfl⟩, fun n p t l hr => ?_⟩
              obtain ⟨k0, b, o', k1, k2⟩ := g2.2 n p t l hr
              rw [he] at k2
              obtain rfl : ad = _ := Option.some.inj (Value.pointer.inj k2)
              exact ⟨k0, b, o', k1, by rw [add_at, Nat.add_assoc]⟩
            · obtain rfl := Option.some.inj h
              obtain ⟨x', es, q1, q2, ad', q3, q4, q5⟩ := g2
              rw [he] at q3
              obtain rfl : ad = _ := Option.some.inj (Value.pointer.inj q3)
              exact Still.mk' g1 hrun ⟨x', es, q1, q2, ad', by rw [Addr.add_add], q4, q5⟩
          · cases h
      · cases h
    · cases h
  · cases h

theorem op_field (hT : TTok P T) {o : Oper} {s f : Nat} {x : Operand} {out : Out} {key : Nat} (R : Rel B G pl σ a w) (ho : o.op = .field s x f)
    (h : opOut T key o.op (look σ) σ.rows = some out) : Still P pl σ.rows a w o out := by
  rw [ho] at h
  simp only [opOut] at h
  split at h
  · rename_i fs z1 z2 z3 z4 l hs hx
    split at h
    · rename_i t off hf
      split at h
      · rename_i v hsub
        obtain rfl := Option.some.inj h
        obtain ⟨g1, ⟨cs, he, g2, g3⟩, gk⟩ := R.look hx
        obtain ⟨fl, hu, hfl⟩ := (hT _ _ hs).struct rfl
        have hff : ∃ fd, fl[f]? = some fd ∧ fd.type = t ∧ fd.offset = off := by
          rw [← hfl] at hf
          simp only [List.getElem?_map, Array.getElem?_toList, Option.map_eq_some_iff] at hf
          obtain ⟨fd, e1, e2⟩ := hf
          exact ⟨fd, e1, congrArg Prod.fst e2, congrArg Prod.snd e2⟩
        obtain ⟨fd, e1, rfl, rfl⟩ := hff
        obtain ⟨m1, i, g, u, k1, k2, k3, k4, k5⟩ := part_sound hT hsub (vrs_len g2) (fun j y u hy hu _ => by
          obtain ⟨u', q1, q2⟩ := vrs_get g2 j y hy
          rw [hu] at q1
          obtain rfl := Option.some.inj q1
          exact q2) g3 g1
        refine ⟨rfl, v, rfl, m1, u, .inl ?_, k4⟩
        have e : execOp a.eval o = (do let v ← Instr.field s (a.eval x) f; pure (.value v)) := by simp only [execOp, ho]
        have hp : (part fd.type cs fd.offset).run P w = .ok u w := by
          cases g with
          | true =>
            simp only [if_true] at k5
            rw [k5]
            have hex : cs.extract fd.offset (fd.offset + i.size) = ((cs.toList.drop fd.offset).take i.size).toArray := by
              apply Array.ext'
              simp [List.extract]
            simp [part, (hT _ _ k1).agg k2 w, (hT _ _ k1).sizeOf w, hex]
          | false =>
            simp only [Bool.false_eq_true, if_false, Array.getElem?_toList] at k5
            simp [part, (hT _ _ k1).agg k2 w, k5.1]
        rw [e, he]
        simp [Instr.field, run_underlying hu, e1, asAgg, hp]
      · cases h
    · cases h
  · cases h

theorem op_extract {o : Oper} {i : Nat} {x : Operand} {out : Out} {key : Nat} (R : Rel B G pl σ a w) (ho : o.op = .extract x i) (h : opOut T key o.op (look σ) σ.rows = some out) :
    Still P pl σ.rows a w o out := by
  rw [ho] at h
  simp only [opOut] at h
  split at h
  · rename_i l hx
    split at h
    · rename_i v hv
      obtain rfl := Option.some.inj h
      obtain ⟨g1, ⟨cs, us, es, he, he2, g2⟩, gk⟩ := R.look hx
      obtain ⟨u, e1, e2⟩ := vrs_get g2 i v hv
      have hlt := (List.getElem?_eq_some_iff.1 e1).1
      replace e1 : cs.toList[i]? = some u := by rw [he2, List.getElem?_append_left hlt]; exact e1
      refine Still.mk' (mens_mem g1 v (List.mem_of_getElem? hv)) ?_ e2
      have e : execOp a.eval o = (do let v ← Instr.extract (a.eval x) i; pure (.value v)) := by simp only [execOp, ho]
      rw [e, he]
      simp only [Array.getElem?_toList] at e1
      simp [Instr.extract, e1]
    · cases h
  · cases h

theorem run_unOp {o : Oper} {op : UnOp} {xt : Nat} {x : Operand} {u1 u : Value} (ho : o.op = .unOp op xt x) (ex : a.eval x = u1) (hb : (Op.unary op u1).run P w = .ok u w) : (execOp a.eval o).run P w = .ok (.value u) w := by
  have e : execOp a.eval o = (do let v ← Op.unary op (a.eval x); pure (.value v)) := by simp only [execOp, ho]
  rw [e, ex]
  simp [hb]

theorem op_unOp {o : Oper} {op : UnOp} {xt : Nat} {x : Operand} {out : Out} {key : Nat} (R : Rel B G pl σ a w) (ho : o.op = .unOp op xt x) (h : opOut T key o.op (look σ) σ.rows = some out) :
    Still P pl σ.rows a w o out := by
  rw [ho] at h
  simp only [opOut] at h
  split at h
  · rename_i p k n hx
    obtain rfl := Option.some.inj h
    obtain ⟨_, g2, _⟩ := R.look hx
    exact Still.mk' (men_int _ _ _) (run_unOp ho (isInt g2) (by simp [Op.unary, Op.intArith])) rfl
  · rename_i p k n hx
    obtain rfl := Option.some.inj h
    obtain ⟨_, g2, _⟩ := R.look hx
    exact Still.mk' (men_int _ _ _) (run_unOp ho (isInt g2) (by simp [Op.unary, Op.intBits, bits])) rfl
  · rename_i p b hx
    obtain rfl := Option.some.inj h
    obtain ⟨_, g2, _⟩ := R.look hx
    exact Still.mk' (men_bool _ _) (run_unOp ho (isBool g2) (by simp [Op.unary])) rfl
  · cases h

theorem run_index {o : Oper} {t : Nat} {x ix : Operand} {u1 u2 u : Value} (ho : o.op = .indexAddr t x ix) (e1 : a.eval x = u1) (e2 : a.eval ix = u2) (hb : (Instr.indexAt t u1 u2).run P w = .ok u w) : (execOp a.eval o).run P w = .ok (.value u) w := by
  have e : execOp a.eval o = (do let v ← Instr.indexAt t (a.eval x) (a.eval ix); pure (.value v)) := by simp only [execOp, ho]
  rw [e, e1, e2]
  simp [hb]

theorem run_indexAt {t e : Nat} {i : TI} (hT : TTok P T) (hs : P.underlying t = some (.slice e)) (hi : T.at e = some i) {k : IntKind} {n : Int} {ad : Addr} {len c : Nat} (h0 : 0 ≤ n) (h1 : n < (len : Int)) :
    (Instr.indexAt t (.slice (some ad) len c) (.int k n)).run P w = .ok (.pointer (some (ad.add (n.toNat * i.size)))) w := by
  simp [Instr.indexAt, asIntOf, run_underlying hs, (hT _ _ hi).sizeOf w, h0, h1]

theorem elemTy_spec (hT : TTok P T) {t e : Nat} {i : TI} {ty : Ty} (h : elemTy T t = some (e, i, ty)) : P.underlying t = some (.slice e) ∧ T.at e = some i ∧ i.ty = some ty ∧ ty.size = i.size := by
  unfold elemTy at h
  split at h
  · rename_i e' z1 z2 z3 z4 hs
    split at h
    · rename_i i' hi
      split at h
      · rename_i ty' hty
        simp only [Option.some.injEq, Prod.mk.injEq] at h
        obtain ⟨rfl, rfl, rfl⟩ := h
        exact ⟨(hT _ _ hs).slice rfl, hi, hty, ((hT _ _ hi).ty _ hty).1⟩
      · cases h
    · cases h
  · cases h

theorem nat_of {n : Int} {len : Nat} (h0 : 0 ≤ n) (h1 : n < (len : Int)) : n.toNat < len := by omega
theorem pos_of {n : Int} {len : Nat} (h0 : 0 ≤ n) (h1 : n < (len : Int)) : 0 < len := by omega

/-- The address of an element of a part of a row. -/
theorem slice_addr {r sz off n : Nat} {u : Value} (hs : SliceOf w pl r sz off n u) {m : Int} (h0 : 0 ≤ m) (h1 : m < (n : Int)) :
    ∃ ad c b o, u = .slice (some ad) n c ∧ pl.loc r = some (b, o) ∧ ad.add (m.toNat * sz) = ⟨b, o + (off + m.toNat) * sz, none⟩ := by
  obtain ⟨A, c, rfl, g1, g2⟩ := hs
  obtain ⟨b, o, k1, rfl, _⟩ := g2 (by omega)
  exact ⟨_, c, b, o, rfl, k1, by rw [add_at, Nat.add_mul, Nat.add_assoc]⟩

theorem op_indexAddr (hT : TTok P T) {o : Oper} {t : Nat} {x ix : Operand} {out : Out} {key : Nat} (R : Rel B G pl σ a w) (ho : o.op = .indexAddr t x ix)
    (h : opOut T key o.op (look σ) σ.rows = some out) (hok : out.ok = true) : Still P pl σ.rows a w o out := by
  rw [ho] at h
  simp only [opOut] at h
  split at h
  · rename_i e i ty he
    obtain ⟨k1, k2, k3, k4⟩ := elemTy_spec hT he
    split at h
    · rename_i p t' l q k n hx hix
      split at h
      · rename_i ht
        subst ht
        obtain rfl := Option.some.inj h
        simp only [Bool.and_eq_true, decide_eq_true_eq] at hok
        obtain ⟨h0, h1⟩ := hok
        obtain ⟨g1, g2, gk⟩ := R.look hx
        obtain ⟨_, gi, _⟩ := R.look hix
        obtain ⟨A, c, e1, e2, e3⟩ := g2
        obtain ⟨ad, rfl, hs, hc⟩ := e3 (by intro e0; subst e0; exact absurd (pos_of h0 h1) (by simp))
        have e1' : a.eval x = .slice (some ad) l.length c := by simpa using e1
        have hlt : Int.toNat n < l.length := nat_of h0 h1
        obtain ⟨es, q1, q2⟩ := hc n.toNat l[n.toNat] (List.getElem?_eq_getElem hlt)
        refine Still.mk' g1 (run_index ho e1' (isInt gi) (run_indexAt hT k1 k2 h0 h1)) ?_
        rw [k4] at q2
        exact ⟨_, es, List.getElem?_eq_getElem hlt, q1, ad.add (n.toNat * i.size), by rw [Addr.add_zero'], by rw [block_add]; exact hs, q2⟩
      · cases h
    · rename_i r q k n hx hix
      split at h
      · rename_i n0 p t' l hr
        split at h
        · rename_i ht
          subst ht
          obtain rfl := Option.some.inj h
          simp only [Bool.and_eq_true, decide_eq_true_eq] at hok
          obtain ⟨h0, h1⟩ := hok
          obtain ⟨g1, g2, gk⟩ := R.look hx
          obtain ⟨_, gi, _⟩ := R.look hix
          obtain ⟨ad, c, b, o', e1, e2, e3⟩ := slice_addr (g2.2 n0 p _ l hr) h0 h1
          refine Still.mk' g1 (run_index ho e1 (isInt gi) (run_indexAt hT k1 k2 h0 h1)) ?_
          refine ⟨⟨rfl, _, rfl⟩, fun n1 p1 t1 l1 hr1 => ?_⟩
          rw [hr] at hr1
          cases hr1
          refine ⟨nat_of h0 h1, b, o', e2, ?_⟩
          rw [← k4, e3]
          simp
        · cases h
      · cases h
    · rename_i r off len q k n hx hix
      split at h
      · rename_i n0 p t' l hr
        split at h
        · rename_i ht
          subst ht
          obtain rfl := Option.some.inj h
          simp only [Bool.and_eq_true, decide_eq_true_eq] at hok
          obtain ⟨h0, h1⟩ := hok
          obtain ⟨g1, g2, gk⟩ := R.look hx
          obtain ⟨_, gi, _⟩ := R.look hix
          obtain ⟨hle, hsl⟩ := g2.2 n0 p _ l hr
          obtain ⟨ad, c, b, o', e1, e2, e3⟩ := slice_addr hsl h0 h1
          refine Still.mk' g1 (run_index ho e1 (isInt gi) (run_indexAt hT k1 k2 h0 h1)) ?_
          refine ⟨⟨rfl, _, rfl⟩, fun n1 p1 t1 l1 hr1 => ?_⟩
          rw [hr] at hr1
          cases hr1
          refine ⟨by have := nat_of h0 h1; omega, b, o', e2, ?_⟩
          rw [← k4, e3]
          simp
        · cases h
      · cases h
    · cases h
  · cases h

theorem run_indexS {o : Oper} {t : Nat} {x ix : Operand} {u1 u2 u : Value} (ho : o.op = .index t x ix) (e1 : a.eval x = u1) (e2 : a.eval ix = u2) (hb : (Instr.index t u1 u2).run P w = .ok u w) : (execOp a.eval o).run P w = .ok (.value u) w := by
  have e : execOp a.eval o = (do let v ← Instr.index t (a.eval x) (a.eval ix); pure (.value v)) := by simp only [execOp, ho]
  rw [e, e1, e2]
  simp [hb]

theorem op_index (hT : TTok P T) {o : Oper} {t : Nat} {x ix : Operand} {out : Out} {key : Nat} (R : Rel B G pl σ a w) (ho : o.op = .index t x ix)
    (h : opOut T key o.op (look σ) σ.rows = some out) (hok : out.ok = true) : Still P pl σ.rows a w o out := by
  rw [ho] at h
  simp only [opOut] at h
  split at h
  · rename_i p s q k n z1 z2 z3 z4 hx hix ht
    obtain rfl := Option.some.inj h
    simp only [Bool.and_eq_true, decide_eq_true_eq] at hok
    obtain ⟨h0, h1⟩ := hok
    obtain ⟨_, g2, _⟩ := R.look hx
    obtain ⟨_, gi, _⟩ := R.look hix
    have hlt : Int.toNat n < s.size := nat_of h0 h1
    refine Still.mk' (men_int _ _ _) (run_indexS ho (isStr g2) (isInt gi) (u := .int .u8 ((bytesOf s).getD n.toNat 0)) ?_) rfl
    have hb : (bytesOf s).getD n.toNat 0 = ((s[n.toNat]'hlt).toNat : Int) := by
      have hl : n.toNat < s.data.toList.length := by simpa using hlt
      simp only [bytesOf, List.getD_eq_getElem?_getD, List.getElem?_map, List.getElem?_eq_getElem hl, Option.map_some, Option.getD_some]
      rfl
    rw [hb]
    simp [Instr.index, asIntOf, run_underlying ((hT _ _ ht).str rfl), h0, hlt]
  · cases h

/-! ### cutting -/
def OptV (a : Option Int) (v : Option Value) : Prop := (a = none ∧ v = none) ∨ ∃ k n, a = some n ∧ v = some (.int k n)

theorem optInt_spec (R : Rel B G pl σ a w) {x : Option Operand} {n : Option Int} (h : optInt (look σ) x = some n) : OptV n (x.map a.eval) := by
  cases x with
  | none => obtain rfl := Option.some.inj h; exact .inl ⟨rfl, rfl⟩
  | some x =>
    simp only [optInt] at h
    split at h
    · rename_i v hx
      obtain ⟨_, g2, _⟩ := R.look hx
      split at h
      · rename_i m hm
        obtain rfl := Option.some.inj h
        unfold intOf? at hm
        split at hm
        · rename_i p k n
          obtain rfl := Option.some.inj hm
          exact .inr ⟨_, _, rfl, by rw [Option.map_some, isInt g2]⟩
        · cases hm
      · cases h
    · cases h

theorem run_bounds {lo hi : Option Int} {lv hv : Option Value} (hl : OptV lo lv) (hh : OptV hi hv) {len cap : Nat} (hc : len ≤ cap) (hok : boundsOk lo hi len = true) (b : Bool) :
    (Instr.sliceBounds b len cap lv hv none).run P w = .ok (loN lo, hiN hi len, cap) w ∧ loN lo ≤ hiN hi len ∧ hiN hi len ≤ len := by
  rcases hl with ⟨rfl, rfl⟩ | ⟨k1, n1, rfl, rfl⟩ <;> rcases hh with ⟨rfl, rfl⟩ | ⟨k2, n2, rfl, rfl⟩ <;>
    simp only [boundsOk, Bool.and_eq_true, decide_eq_true_eq] at hok
  · exact ⟨by simp [Instr.sliceBounds, loN, hiN], by simp [loN, hiN]⟩
  · have h1 : n2 ≤ (cap : Int) := by omega
    exact ⟨by simp [Instr.sliceBounds, Instr.sliceBound, asIntOf, loN, hiN, hok.1, h1], by simp only [loN, hiN]; omega⟩
  · exact ⟨by simp [Instr.sliceBounds, Instr.sliceBound, asIntOf, loN, hiN, hok.1, hok.2], by simp only [loN, hiN]; omega⟩
  · have h1 : n2 ≤ (cap : Int) := by omega
    have h2 : 0 ≤ n2 := by omega
    have h3 : n1 ≤ ((n2.toNat : Nat) : Int) := by omega
    refine ⟨?_, by simp only [loN, hiN]; omega⟩
    simp only [Instr.sliceBounds, Instr.sliceBound, asIntOf, loN, hiN]
    simp [h1, h2, hok.1]
    omega

theorem cutL_spec {α : Type} {lo hi : Option Int} {l : List α} (hok : boundsOk lo hi l.length = true) :
    (cutL lo hi l).length = hiN hi l.length - loN lo ∧ ∀ i x, (cutL lo hi l)[i]? = some x → l[loN lo + i]? = some x := by
  cases lo <;> cases hi <;> simp only [boundsOk, Bool.and_eq_true, decide_eq_true_eq] at hok <;> simp only [cutL, loN, hiN]
  · exact ⟨by simp, fun i x h => by simpa using h⟩
  · refine ⟨by simp; omega, fun i x h => ?_⟩
    simp only [List.getElem?_take] at h
    split at h
    · simpa using h
    · cases h
  · exact ⟨by simp, fun i x h => by simpa [List.getElem?_drop] using h⟩
  · refine ⟨by simp; omega, fun i x h => ?_⟩
    simp only [List.getElem?_drop, List.getElem?_take] at h
    split at h
    · exact h
    · cases h

theorem run_slice {o : Oper} {t : Nat} {x : Operand} {lo hi : Option Operand} {u : Value} (ho : o.op = .slice t x lo hi none) (hb : (Instr.sliceAt t (a.eval x) (lo.map a.eval) (hi.map a.eval) none).run P w = .ok u w) :
    (execOp a.eval o).run P w = .ok (.value u) w := by
  have e : execOp a.eval o = (do let v ← Instr.sliceAt t (a.eval x) (lo.map a.eval) (hi.map a.eval) none; pure (.value v)) := by
    simp only [execOp, ho, Option.map_none]
  rw [e]
  simp [hb]

theorem run_cut {t e : Nat} {i : TI} (hT : TTok P T) (hs : P.underlying t = some (.slice e)) (hi' : T.at e = some i) {lo hi : Option Int} {lv hv : Option Value} (hl : OptV lo lv) (hh : OptV hi hv) {A : Option Addr} {len cap : Nat}
    (hc : len ≤ cap) (hok : boundsOk lo hi len = true) :
    (Instr.sliceAt t (.slice A len cap) lv hv none).run P w = .ok (.slice (if cap = loN lo then A else A.map (·.add (loN lo * i.size))) (hiN hi len - loN lo) (cap - loN lo)) w := by
  have hb := (run_bounds (P := P) (w := w) hl hh hc hok true).1
  simp [Instr.sliceAt, Instr.slice, run_underlying hs, hb, (hT _ _ hi').sizeOf w]

theorem slice_cut {r sz off n : Nat} {A : Option Addr} {c lo hi : Nat} (hs : SliceOf w pl r sz off n (.slice A n c)) (h1 : lo ≤ hi) (h2 : hi ≤ n) :
    SliceOf w pl r sz (off + lo) (hi - lo) (.slice (if c = lo then A else A.map (·.add (lo * sz))) (hi - lo) (c - lo)) := by
  obtain ⟨A', c', e, g1, g2⟩ := hs
  cases e
  refine ⟨_, _, rfl, Nat.sub_le_sub_right (Nat.le_trans h2 g1) lo, fun hc => ?_⟩
  obtain ⟨b, o, k1, rfl, arr, T', fr, k2, k3⟩ := g2 (Nat.lt_of_lt_of_le hc (Nat.sub_le _ _))
  refine ⟨b, o, k1, ?_, arr, T', fr, k2, ?_⟩
  · have hne : ¬ c = lo := fun e => by subst e; simp at hc
    rw [if_neg hne]
    simp only [Option.map_some]
    rw [add_at, Nat.add_mul, Nat.add_assoc]
  · have h3 : lo ≤ c := Nat.le_of_lt (Nat.lt_of_sub_pos hc)
    have : off + lo + (c - lo) = off + c := by rw [Nat.add_assoc, Nat.add_sub_cancel' h3]
    rw [this]; exact ⟨k3.1, Nat.le_trans (Nat.sub_le _ _) k3.2⟩

theorem op_slice (hT : TTok P T) {o : Oper} {t : Nat} {x : Operand} {lo hi : Option Operand} {out : Out} {key : Nat} (R : Rel B G pl σ a w) (ho : o.op = .slice t x lo hi none)
    (h : opOut T key o.op (look σ) σ.rows = some out) (hok : out.ok = true) : Still P pl σ.rows a w o out := by
  rw [ho] at h
  simp only [opOut] at h
  split at h
  · rename_i p s n1 n2 hx h1 h2
    split at h
    · rename_i z1 z2 z3 z4 ht
      obtain rfl := Option.some.inj h
      obtain ⟨g1, g2, gk⟩ := R.look hx
      have hb := run_bounds (P := P) (w := w) (optInt_spec R h1) (optInt_spec R h2) (Nat.le_refl s.size) hok false
      refine Still.mk' g1 (run_slice ho (u := .string (s.extract (loN n1) (hiN n2 s.size))) ?_) rfl
      rw [isStr g2]
      simp [Instr.sliceAt, Instr.slice, run_underlying ((hT _ _ ht).str rfl), hb.1]
    · cases h
  · rename_i v n1 n2 hns hx h1 h2
    have o1 := optInt_spec R h1
    have o2 := optInt_spec R h2
    obtain ⟨g1, g2, gk⟩ := R.look hx
    split at h
    · rename_i e i ty he
      obtain ⟨k1, k2, k3, k4⟩ := elemTy_spec hT he
      split at h
      · obtain rfl := Option.some.inj h
        have g2' : a.eval x = .slice none 0 0 := g2
        have hok' : boundsOk n1 n2 0 = true := hok
        obtain ⟨q1, q2, q3⟩ := run_bounds (P := P) (w := w) o1 o2 (Nat.le_refl 0) hok' true
        have hcut := run_cut (P := P) (w := w) (A := none) hT k1 k2 o1 o2 (Nat.le_refl 0) hok'
        have hlo : loN n1 = 0 := by omega
        have hhi : hiN n2 0 = 0 := by omega
        rw [hlo, hhi] at hcut
        exact Still.mk' trivial (run_slice ho (by rw [g2']; exact hcut)) rfl
      · rename_i p t' l
        split at h
        · rename_i ht
          subst ht
          obtain rfl := Option.some.inj h
          obtain ⟨A, c, e1, e2, e3⟩ := g2
          have e1' : a.eval x = .slice A l.length c := by simpa using e1
          obtain ⟨q1, q2, q3⟩ := run_bounds (P := P) (w := w) o1 o2 e2 hok true
          obtain ⟨c1, c2⟩ := cutL_spec hok
          refine Still.mk' g1 (run_slice ho (by rw [e1']; exact run_cut hT k1 k2 o1 o2 e2 hok)) ?_
          refine ⟨_, _, by rw [c1], by omega, fun hne => ?_⟩
          have hlen : 0 < (cutL n1 n2 l).length := List.length_pos_iff.2 hne
          have hl0 : 0 < List.length l := by omega
          obtain ⟨ad, rfl, hs, hc⟩ := e3 (List.length_pos_iff.1 hl0)
          refine ⟨ad.add (loN n1 * i.size), by rw [if_neg (by omega)]; rfl, by rw [block_add]; exact hs, fun j y hy => ?_⟩
          obtain ⟨es, r1, r2⟩ := hc _ y (c2 j y hy)
          refine ⟨es, r1, ?_⟩
          rw [Addr.add_add, k4, ← Nat.add_mul]
          rw [k4] at r2
          exact r2
        · cases h
      · rename_i r
        split at h
        · rename_i n0 p t' l hr
          split at h
          · rename_i ht
            subst ht
            obtain rfl := Option.some.inj h
            have hsl := g2.2 n0 p _ l hr
            obtain ⟨A, c, e1, e2, e3⟩ := id hsl
            rw [e1] at hsl
            obtain ⟨q1, q2, q3⟩ := run_bounds (P := P) (w := w) o1 o2 e2 hok true
            refine Still.mk' g1 (run_slice ho (by rw [e1]; exact run_cut hT k1 k2 o1 o2 e2 hok)) ⟨rfl, fun n' p' t2 l' hr' => ?_⟩
            rw [hr] at hr'
            cases hr'
            refine ⟨by omega, ?_⟩
            have := slice_cut hsl q2 q3
            rw [Nat.zero_add, k4] at this
            rw [k4]; exact this
          · cases h
        · cases h
      · rename_i r off len
        split at h
        · rename_i n0 p t' l hr
          split at h
          · rename_i ht
            subst ht
            obtain rfl := Option.some.inj h
            obtain ⟨hle, hsl⟩ := g2.2 n0 p _ l hr
            obtain ⟨A, c, e1, e2, e3⟩ := id hsl
            rw [e1] at hsl
            obtain ⟨q1, q2, q3⟩ := run_bounds (P := P) (w := w) o1 o2 e2 hok true
            refine Still.mk' g1 (run_slice ho (by rw [e1]; exact run_cut hT k1 k2 o1 o2 e2 hok)) ⟨rfl, fun n' p' t2 l' hr' => ?_⟩
            rw [hr] at hr'
            cases hr'
            refine ⟨by omega, ?_⟩
            have := slice_cut hsl q2 q3
            rw [k4] at this
            rw [k4]; exact this
          · cases h
        · cases h
      · cases h
    · cases h
  · cases h
end
end Go.Proofs.Ytecnlienmpdlaaa.PM
