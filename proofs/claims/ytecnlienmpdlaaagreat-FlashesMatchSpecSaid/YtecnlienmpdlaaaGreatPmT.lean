import Derived.Test.YtecnlienmpdlaaaGreatPmR
import Derived.Laws.Tables
import Derived.Laws.MakeOwn
import Derived.Laws.IdiomCopy
import Derived.Lib.ConvBytes
import Derived.Laws.Append
set_option linter.unusedSimpArgs false
set_option linter.unusedVariables false
namespace Go.Proofs.YtecnlienmpdlaaaGreat.PM
open Go
section
variable {P : Program} {B nt : Nat} {G : Nat → Prop} {pl : Pl} {σ : St} {a : Act} {w : World} {T : TT}
theorem Q1a (b o n : Nat) : (⟨b, o, none⟩ : Addr).add n = ⟨b, o + n, none⟩ := by unfold Addr.add; split <;> simp_all
theorem Q1bj {b j : Nat} {arr : Array Value} {T : TypeId} {fr : Nat × Nat} (h : w.heap[b]? = some (.cells arr T fr)) : w.cell? ⟨b, j, none⟩ = arr[j]? := by
 simp [World.cell?, h]
theorem Q98 {t : Nat} {i : TI} (hi : TIok P t i) {g : Bool} (hg : aggOf i.d = some g) {ad : Addr} {es : List Value} (hc : Q1e w ad es) (hlen : es.length = i.size) :
  (loadVar t ad).run P w = .ok (if g then .agg es.toArray else es.getD 0 undef) w ∨ (g = false ∧ i.size ≠ 1) := by
 cases g with
 | true =>
   left
   have hl := run_loadCells_list (P := P) w ad es hc
   rw [hlen] at hl
   simp [loadVar, hi.agg hg w, hi.sizeOf w, hl]
 | false =>
   by_cases h1 : i.size = 1
   ·left
    have h0 : es[0]? = some (es.getD 0 undef) := by
     match es, hlen.trans h1 with
     | [x], _ => rfl
    have := hc 0 _ h0
    simp only [Addr.add_zero'] at this
    simp [loadVar, hi.agg hg w, this]
   ·exact .inr ⟨rfl, h1⟩
theorem Qzz {ad : Addr} {es : List Value} (h : Q1e w ad es) (o n : Nat) : Q1e w (ad.add o) ((es.drop o).take n) := by
 intro j v hj
 simp only [List.getElem?_take, List.getElem?_drop] at hj
 by_cases hn : j < n
 ·rw [if_pos hn] at hj
  rw [Addr.add_add]
  exact h _ v hj
 ·rw [if_neg hn] at hj; cases hj
theorem Q93 (hT : TTok P T) {o : Oper} {t : Nat} {x : Operand} (ho : o.op = .load t x) {ad : Addr} {off : Nat} (hx : a.eval x = .pointer (some (ad.add off))) {l : List PV} {us : List Value} {v : PV}
  (hs : subAt T t l off = some v) (hc : Q1e w ad us) (hlen : us.length = l.length)
  (h : ∀ (j : Nat) (x : PV) (u : Value), l[j]? = some x → us[j]? = some u → okPV σ.rows x = true → VR w pl σ.rows x u) (h1 : ∀ x ∈ us, x.oneCell' = true) (hm : Mens σ.rows l) :
  Still P pl σ.rows a w o ⟨true, some v, []⟩ := by
 obtain ⟨g1, i, g, u, e1, e2, e3, e4, e5⟩ := Qfn hT hs hlen h h1 hm
 refine ⟨rfl, v, rfl, g1, u, .inl ?_, e4⟩
 have hcc := Qzz hc off i.size
 have hll : ((us.drop off).take i.size).length = i.size := by simp; omega
 have hr := Q98 (P := P) (hT t i e1) e2 hcc hll
 have hu : (loadVar t (ad.add off)).run P w = .ok u w := by
  rcases hr with hr | ⟨hg, hne⟩
  ·rw [hr]
   cases g with
   | true => simp only [if_true] at e5 ⊢; rw [e5]
   | false =>
     simp only [Bool.false_eq_true, if_false] at e5 ⊢
     obtain ⟨k1, k2⟩ := e5
     congr 1
     simp [k2, List.getD_eq_getElem?_getD, k1]
  ·subst hg; simp at e5; exact absurd e5.2 hne
 have e : execOp a.eval o = (do let v ← Instr.loadAt t (a.eval x); pure (.value v)) := by simp only [execOp, ho]
 rw [e, hx]
 simp [Instr.loadAt, Instr.sureAddr, hu]
theorem Q149 (hT : TTok P T) {o : Oper} {t : Nat} {x : Operand} {out : Out} {key : Nat} (R : Rel B G pl σ a w) (ho : o.op = .load t x)
  (h : opOut T key o.op (look σ) σ.rows = some out) : Still P pl σ.rows a w o out := by
 rw [ho] at h
 simp only [opOut] at h
 split at h
 ·rename_i r off hx
  obtain ⟨g1, ⟨_, g2⟩, _⟩ := R.look hx
  split at h
  ·rename_i n l hr
   split at h
   ·rename_i v hs
    obtain rfl := oi h
    obtain ⟨b, hl, hv⟩ := g2 n l hr
    obtain ⟨m1, b', arr, T', fr, k0, k1, k2, k3, k4⟩ := R.rows r _ hr
    rw [hl] at k0
    obtain ⟨rfl, _⟩ := Prod.mk.inj (oi k0)
    refine Q93 (ad := ⟨b, 0, none⟩) (us := arr.toList) hT ho (by rw [hv, Q1a, Nat.zero_add]) hs ?_ (by simpa using k2) ?_ ?_ m1
    ·intro j u hj
     rw [Q1a, Nat.zero_add, Q1bj k1]
     simpa using hj
    ·intro j y u hy hu hk
     obtain ⟨v', q1, q2, q3⟩ := k4 j y hy
     simp only [Array.getElem?_toList] at hu
     rw [q1] at hu
     obtain rfl := oi hu
     exact q3 hk
    ·intro u hu
     obtain ⟨j, hj⟩ := List.getElem?_of_mem hu
     have hjl : j < l.length := by
      have := (List.getElem?_eq_some_iff.1 hj).1
      simpa [k2] using this
     obtain ⟨v', q1, q2, _⟩ := k4 j l[j] (List.getElem?_eq_getElem hjl)
     simp only [Array.getElem?_toList] at hj
     rw [q1] at hj
     obtain rfl := oi hj
     exact q2
   ·cases h
  ·cases h
 ·rename_i r j off hx
  obtain ⟨g1, ⟨_, g2⟩, _⟩ := R.look hx
  split at h
  ·rename_i n p ty l hr
   split at h
   ·rename_i hok
    split at h
    ·rename_i v hs
     obtain rfl := oi h
     obtain ⟨hj, b, o', hl, hv⟩ := g2 n p ty l hr
     obtain ⟨m1, m2⟩ := R.rows r _ hr
     rw [hl] at m2
     obtain ⟨arr, T', fr, k1, k2, k3, k4⟩ := m2
     have hgd : l.getD j ty.zero = l[j] := by simp [List.getD_eq_getElem?_getD, List.getElem?_eq_getElem hj]
     rw [hgd] at hs
     obtain ⟨es, q1, q2⟩ := k4 hok j l[j] (List.getElem?_eq_getElem hj)
     have hvr := Q6u (p := p) (rows := σ.rows) (pl := pl) q1
     refine Q93 (ad := ⟨b, o' + j * ty.size, none⟩) (us := es) hT ho (by rw [hv, Q1a]) hs q2 (Q27 hvr) ?_ (Q9o q1) (Q7b m1)
     intro i y u hy hu _
     obtain ⟨u', e1, e2⟩ := Q2s hvr i y hy
     rw [hu] at e1
     obtain rfl := oi e1
     exact e2
    ·cases h
   ·cases h
  ·cases h
 ·rename_i p ty l i off hx
  obtain ⟨g1, g2, _⟩ := R.look hx
  split at h
  ·rename_i v hs
   obtain rfl := oi h
   obtain ⟨x', es, q1, q2, ad, q3, q4, q5⟩ := g2
   have hgd : l.getD i ty.zero = x' := by simp [List.getD_eq_getElem?_getD, q1]
   rw [hgd] at hs
   have hvr := Q6u (p := p) (rows := σ.rows) (pl := pl) q2
   refine Q93 (ad := ad) (us := es) hT ho q3 hs q5 (Q27 hvr) ?_ (Q9o q2) (Q7b g1)
   intro i y u hy hu _
   obtain ⟨u', e1, e2⟩ := Q2s hvr i y hy
   rw [hu] at e1
   obtain rfl := oi e1
   exact e2
  ·cases h
 ·cases h
theorem Qdz (R : Rel B G pl σ a w) {x : Operand} {v : PV} (hx : look σ x = some v) (ha : isAddr σ.rows v = true) : ∃ ad : Addr, a.eval x = .pointer (some ad) := by
 obtain ⟨g1, g2, _⟩ := R.look hx
 cases v <;> simp only [isAddr] at ha <;> first
  | (cases ha; done)
  | skip
 ·exact g2.1.2.1
 ·exact g2.1.2
 ·obtain ⟨_, _, _, _, ad, e, _⟩ := g2
  exact ⟨_, e⟩
theorem Qcu {o : Oper} {x : Operand} {out : Out} {key : Nat} (R : Rel B G pl σ a w) (ho : o.op = .nilCheck x) (h : opOut T key o.op (look σ) σ.rows = some out) :
  Still P pl σ.rows a w o out := by
 rw [ho] at h
 simp only [opOut] at h
 split at h
 ·rename_i v hx
  split at h
  ·rename_i ha
   obtain rfl := oi h
   obtain ⟨ad, he⟩ := Qdz R hx ha
   obtain ⟨g1, g2, _⟩ := R.look hx
   refine Still.mk' g1 ?_ g2
   simp only [execOp, ho, he]
   rfl
  ·cases h
 ·cases h
theorem Qan (hT : TTok P T) {o : Oper} {s f : Nat} {x : Operand} {out : Out} {key : Nat} (R : Rel B G pl σ a w) (ho : o.op = .fieldAddr s x f)
  (h : opOut T key o.op (look σ) σ.rows = some out) : Still P pl σ.rows a w o out := by
 rw [ho] at h
 simp only [opOut] at h
 split at h
 ·rename_i fs z1 z2 z3 z4 v hs hx
  split at h
  ·rename_i t off hf
   split at h
   ·rename_i i hi
    split at h
    ·cases h
    ·rename_i hsz
     split at h
     ·rename_i ha
      obtain ⟨ad, he⟩ := Qdz R hx ha
      obtain ⟨g1, g2, _⟩ := R.look hx
      obtain ⟨fl, hu, hfl⟩ := (hT _ _ hs).struct rfl
      have hff : ∃ fd, fl[f]? = some fd ∧ fd.type = t ∧ fd.offset = off := by
       rw [← hfl] at hf
       simp only [List.getElem?_map, Array.getElem?_toList, Option.map_eq_some_iff] at hf
       obtain ⟨fd, e1, e2⟩ := hf
       exact ⟨fd, e1, congrArg Prod.fst e2, congrArg Prod.snd e2⟩
      obtain ⟨fd, e1, rfl, rfl⟩ := hff
      have hrun : (execOp a.eval o).run P w = .ok (.value (.pointer (some (ad.add fd.offset)))) w := by
       have e : execOp a.eval o = (do let v ← Instr.fieldAt s (a.eval x) f; pure (.value v)) := by simp only [execOp, ho]
       rw [e, he]
       simp [Instr.fieldAt, run_underlying hu, e1, Instr.sureAddr, fieldPlace, (hT _ _ hi).sizeOf w, hsz]
      cases v <;> simp only at h <;> first
       | (cases h; done)
       | skip
      ·obtain rfl := oi h
       refine Still.mk' g1 hrun ⟨⟨rfl, ⟨_, rfl⟩, fun n i p kt vt bx l tk hr => ?_⟩, fun n l hr => ?_⟩
       ·obtain ⟨b, k1, k2⟩ := g2.1.2.2 n i p kt vt bx l tk hr
        rw [he] at k2
        obtain rfl : ad = _ := oi (Value.pointer.inj k2)
        exact ⟨b, k1, by rw [Q1a]⟩
       obtain ⟨b, k1, k2⟩ := g2.2 n l hr
       rw [he] at k2
       obtain rfl : ad = _ := oi (Value.pointer.inj k2)
       exact ⟨b, k1, by rw [Q1a]⟩
      ·obtain rfl := oi h
       refine Still.mk' g1 hrun ⟨⟨rfl, _, rfl⟩, fun n p t l hr => ?_⟩
       obtain ⟨k0, b, o', k1, k2⟩ := g2.2 n p t l hr
       rw [he] at k2
       obtain rfl : ad = _ := oi (Value.pointer.inj k2)
       exact ⟨k0, b, o', k1, by rw [Q1a, Nat.add_assoc]⟩
      ·obtain rfl := oi h
       obtain ⟨x', es, q1, q2, ad', q3, q4, q5⟩ := g2
       rw [he] at q3
       obtain rfl : ad = _ := oi (Value.pointer.inj q3)
       exact Still.mk' g1 hrun ⟨x', es, q1, q2, ad', by rw [Addr.add_add], q4, q5⟩
     ·cases h
   ·cases h
  ·cases h
 ·cases h
theorem Q16x (hT : TTok P T) {o : Oper} {s f : Nat} {x : Operand} {out : Out} {key : Nat} (R : Rel B G pl σ a w) (ho : o.op = .field s x f)
  (h : opOut T key o.op (look σ) σ.rows = some out) : Still P pl σ.rows a w o out := by
 rw [ho] at h
 simp only [opOut] at h
 split at h
 ·rename_i fs z1 z2 z3 z4 l hs hx
  split at h
  ·rename_i t off hf
   split at h
   ·rename_i v hsub
    obtain rfl := oi h
    obtain ⟨g1, ⟨cs, he, g2, g3⟩, gk⟩ := R.look hx
    obtain ⟨fl, hu, hfl⟩ := (hT _ _ hs).struct rfl
    have hff : ∃ fd, fl[f]? = some fd ∧ fd.type = t ∧ fd.offset = off := by
     rw [← hfl] at hf
     simp only [List.getElem?_map, Array.getElem?_toList, Option.map_eq_some_iff] at hf
     obtain ⟨fd, e1, e2⟩ := hf
     exact ⟨fd, e1, congrArg Prod.fst e2, congrArg Prod.snd e2⟩
    obtain ⟨fd, e1, rfl, rfl⟩ := hff
    obtain ⟨m1, i, g, u, k1, k2, k3, k4, k5⟩ := Qfn hT hsub (Q27 g2) (fun j y u hy hu _ => by
     obtain ⟨u', q1, q2⟩ := Q2s g2 j y hy
     rw [hu] at q1
     obtain rfl := oi q1
     exact q2) g3 g1
    refine ⟨rfl, v, rfl, m1, u, .inl ?_, k4⟩
    have e : execOp a.eval o = (do let v ← Instr.field s (a.eval x) f; pure (.value v)) := by simp only [execOp, ho]
    have hp : (part fd.type cs fd.offset).run P w = .ok u w := by
     cases g with
     | true =>
       simp only [if_true] at k5
       rw [k5]
       have hex : cs.extract fd.offset (fd.offset + i.size) = ((cs.toList.drop fd.offset).take i.size).toArray := by
        apply Array.ext'
        simp [List.extract]
       simp [part, (hT _ _ k1).agg k2 w, (hT _ _ k1).sizeOf w, hex]
     | false =>
       simp only [Bool.false_eq_true, if_false, Array.getElem?_toList] at k5
       simp [part, (hT _ _ k1).agg k2 w, k5.1]
    rw [e, he]
    simp [Instr.field, run_underlying hu, e1, asAgg, hp]
   ·cases h
  ·cases h
 ·cases h
theorem Qtt {o : Oper} {i : Nat} {x : Operand} {out : Out} {key : Nat} (R : Rel B G pl σ a w) (ho : o.op = .extract x i) (h : opOut T key o.op (look σ) σ.rows = some out) :
  Still P pl σ.rows a w o out := by
 rw [ho] at h
 simp only [opOut] at h
 split at h
 ·rename_i l hx
  split at h
  ·rename_i v hv
   obtain rfl := oi h
   obtain ⟨g1, ⟨cs, us, es, he, he2, g2⟩, gk⟩ := R.look hx
   obtain ⟨u, e1, e2⟩ := Q2s g2 i v hv
   have hlt := (List.getElem?_eq_some_iff.1 e1).1
   replace e1 : cs.toList[i]? = some u := by rw [he2, List.getElem?_append_left hlt]; exact e1
   refine Still.mk' (Qq g1 v (List.mem_of_getElem? hv)) ?_ e2
   have e : execOp a.eval o = (do let v ← Instr.extract (a.eval x) i; pure (.value v)) := by simp only [execOp, ho]
   rw [e, he]
   simp only [Array.getElem?_toList] at e1
   simp [Instr.extract, e1]
  ·cases h
 ·cases h
theorem Qj5 {o : Oper} {op : UnOp} {xt : Nat} {x : Operand} {u1 u : Value} (ho : o.op = .unOp op xt x) (ex : a.eval x = u1) (hb : (Op.unary op u1).run P w = .ok u w) : (execOp a.eval o).run P w = .ok (.value u) w := by
 have e : execOp a.eval o = (do let v ← Op.unary op (a.eval x); pure (.value v)) := by simp only [execOp, ho]
 rw [e, ex]
 simp [hb]
theorem Q1d2 {o : Oper} {op : UnOp} {xt : Nat} {x : Operand} {out : Out} {key : Nat} (R : Rel B G pl σ a w) (ho : o.op = .unOp op xt x) (h : opOut T key o.op (look σ) σ.rows = some out) :
  Still P pl σ.rows a w o out := by
 rw [ho] at h
 simp only [opOut] at h
 split at h
 ·rename_i p k n hx
  obtain rfl := oi h
  obtain ⟨_, g2, _⟩ := R.look hx
  exact Still.mk' (Q24 _ _ _) (Qj5 ho (isInt g2) (by simp [Op.unary, Op.intArith])) rfl
 ·rename_i p k n hx
  obtain rfl := oi h
  obtain ⟨_, g2, _⟩ := R.look hx
  exact Still.mk' (Q24 _ _ _) (Qj5 ho (isInt g2) (by simp [Op.unary, Op.intBits, bits])) rfl
 ·rename_i p b hx
  obtain rfl := oi h
  obtain ⟨_, g2, _⟩ := R.look hx
  exact Still.mk' (Q2f _ _) (Qj5 ho (isBool g2) (by simp [Op.unary])) rfl
 ·cases h
theorem Qd4 {o : Oper} {t : Nat} {x ix : Operand} {u1 u2 u : Value} (ho : o.op = .indexAddr t x ix) (e1 : a.eval x = u1) (e2 : a.eval ix = u2) (hb : (Instr.indexAt t u1 u2).run P w = .ok u w) : (execOp a.eval o).run P w = .ok (.value u) w := by
 have e : execOp a.eval o = (do let v ← Instr.indexAt t (a.eval x) (a.eval ix); pure (.value v)) := by simp only [execOp, ho]
 rw [e, e1, e2]
 simp [hb]
theorem Q7g {t e : Nat} {i : TI} (hT : TTok P T) (hs : P.underlying t = some (.slice e)) (hi : T.at e = some i) {k : IntKind} {n : Int} {ad : Addr} {len c : Nat} (h0 : 0 ≤ n) (h1 : n < (len : Int)) :
  (Instr.indexAt t (.slice (some ad) len c) (.int k n)).run P w = .ok (.pointer (some (ad.add (n.toNat * i.size)))) w := by
 simp [Instr.indexAt, asIntOf, run_underlying hs, (hT _ _ hi).sizeOf w, h0, h1]
theorem Q1r (hT : TTok P T) {t e : Nat} {i : TI} {ty : Ty} (h : elemTy T t = some (e, i, ty)) : P.underlying t = some (.slice e) ∧ T.at e = some i ∧ i.ty = some ty ∧ ty.size = i.size := by
 unfold elemTy at h
 split at h
 ·rename_i e' z1 z2 z3 z4 hs
  split at h
  ·rename_i i' hi
   split at h
   ·rename_i ty' hty
    simp only [Option.some.injEq, Prod.mk.injEq] at h
    obtain ⟨rfl, rfl, rfl⟩ := h
    exact ⟨(hT _ _ hs).slice rfl, hi, hty, ((hT _ _ hi).ty _ hty).1⟩
   ·cases h
  ·cases h
 ·cases h
theorem Qsn {n : Int} {len : Nat} (h0 : 0 ≤ n) (h1 : n < (len : Int)) : n.toNat < len := by omega
theorem Q1ik {n : Int} {len : Nat} (h0 : 0 ≤ n) (h1 : n < (len : Int)) : 0 < len := by omega
theorem Qfu {r sz off n : Nat} {u : Value} (hs : Q29 w pl r sz off n u) {m : Int} (h0 : 0 ≤ m) (h1 : m < (n : Int)) :
  ∃ ad c b o, u = .slice (some ad) n c ∧ pl.loc r = some (b, o) ∧ ad.add (m.toNat * sz) = ⟨b, o + (off + m.toNat) * sz, none⟩ := by
 obtain ⟨A, c, rfl, g1, g2⟩ := hs
 obtain ⟨b, o, k1, rfl, _⟩ := g2 (by omega)
 exact ⟨_, c, b, o, rfl, k1, by rw [Q1a, Nat.add_mul, Nat.add_assoc]⟩
theorem Qm2 (hT : TTok P T) {o : Oper} {t : Nat} {x ix : Operand} {out : Out} {key : Nat} (R : Rel B G pl σ a w) (ho : o.op = .indexAddr t x ix)
  (h : opOut T key o.op (look σ) σ.rows = some out) (hok : out.ok = true) : Still P pl σ.rows a w o out := by
 rw [ho] at h
 simp only [opOut] at h
 split at h
 ·rename_i e i ty he
  obtain ⟨k1, k2, k3, k4⟩ := Q1r hT he
  split at h
  ·rename_i p t' l q k n hx hix
   split at h
   ·rename_i ht
    subst ht
    obtain rfl := oi h
    simp only [Bool.and_eq_true, decide_eq_true_eq] at hok
    obtain ⟨h0, h1⟩ := hok
    obtain ⟨g1, g2, gk⟩ := R.look hx
    obtain ⟨_, gi, _⟩ := R.look hix
    obtain ⟨A, c, e1, e2, e3⟩ := g2
    obtain ⟨ad, rfl, hs, hc⟩ := e3 (by intro e0; subst e0; exact absurd (Q1ik h0 h1) (by simp))
    have e1' : a.eval x = .slice (some ad) l.length c := by simpa using e1
    have hlt : Int.toNat n < l.length := Qsn h0 h1
    obtain ⟨es, q1, q2⟩ := hc n.toNat l[n.toNat] (List.getElem?_eq_getElem hlt)
    refine Still.mk' g1 (Qd4 ho e1' (isInt gi) (Q7g hT k1 k2 h0 h1)) ?_
    rw [k4] at q2
    exact ⟨_, es, List.getElem?_eq_getElem hlt, q1, ad.add (n.toNat * i.size), by rw [Addr.add_zero'], by rw [Q4e]; exact hs, q2⟩
   ·cases h
  ·rename_i r q k n hx hix
   split at h
   ·rename_i n0 p t' l hr
    split at h
    ·rename_i ht
     subst ht
     obtain rfl := oi h
     simp only [Bool.and_eq_true, decide_eq_true_eq] at hok
     obtain ⟨h0, h1⟩ := hok
     obtain ⟨g1, g2, gk⟩ := R.look hx
     obtain ⟨_, gi, _⟩ := R.look hix
     obtain ⟨ad, c, b, o', e1, e2, e3⟩ := Qfu (g2.2 n0 p _ l hr) h0 h1
     refine Still.mk' g1 (Qd4 ho e1 (isInt gi) (Q7g hT k1 k2 h0 h1)) ?_
     refine ⟨⟨rfl, _, rfl⟩, fun n1 p1 t1 l1 hr1 => ?_⟩
     rw [hr] at hr1
     cases hr1
     refine ⟨Qsn h0 h1, b, o', e2, ?_⟩
     rw [← k4, e3]
     simp
    ·cases h
   ·cases h
  ·rename_i r off len q k n hx hix
   split at h
   ·rename_i n0 p t' l hr
    split at h
    ·rename_i ht
     subst ht
     obtain rfl := oi h
     simp only [Bool.and_eq_true, decide_eq_true_eq] at hok
     obtain ⟨h0, h1⟩ := hok
     obtain ⟨g1, g2, gk⟩ := R.look hx
     obtain ⟨_, gi, _⟩ := R.look hix
     obtain ⟨hle, hsl⟩ := g2.2 n0 p _ l hr
     obtain ⟨ad, c, b, o', e1, e2, e3⟩ := Qfu hsl h0 h1
     refine Still.mk' g1 (Qd4 ho e1 (isInt gi) (Q7g hT k1 k2 h0 h1)) ?_
     refine ⟨⟨rfl, _, rfl⟩, fun n1 p1 t1 l1 hr1 => ?_⟩
     rw [hr] at hr1
     cases hr1
     refine ⟨by have := Qsn h0 h1; omega, b, o', e2, ?_⟩
     rw [← k4, e3]
     simp
    ·cases h
   ·cases h
  ·cases h
 ·cases h
theorem Qtv {o : Oper} {t : Nat} {x ix : Operand} {u1 u2 u : Value} (ho : o.op = .index t x ix) (e1 : a.eval x = u1) (e2 : a.eval ix = u2) (hb : (Instr.index t u1 u2).run P w = .ok u w) : (execOp a.eval o).run P w = .ok (.value u) w := by
 have e : execOp a.eval o = (do let v ← Instr.index t (a.eval x) (a.eval ix); pure (.value v)) := by simp only [execOp, ho]
 rw [e, e1, e2]
 simp [hb]
theorem Q16y (hT : TTok P T) {o : Oper} {t : Nat} {x ix : Operand} {out : Out} {key : Nat} (R : Rel B G pl σ a w) (ho : o.op = .index t x ix)
  (h : opOut T key o.op (look σ) σ.rows = some out) (hok : out.ok = true) : Still P pl σ.rows a w o out := by
 rw [ho] at h
 simp only [opOut] at h
 split at h
 ·rename_i p s q k n z1 z2 z3 z4 hx hix ht
  obtain rfl := oi h
  simp only [Bool.and_eq_true, decide_eq_true_eq] at hok
  obtain ⟨h0, h1⟩ := hok
  obtain ⟨_, g2, _⟩ := R.look hx
  obtain ⟨_, gi, _⟩ := R.look hix
  have hlt : Int.toNat n < s.size := Qsn h0 h1
  refine Still.mk' (Q24 _ _ _) (Qtv ho (isStr g2) (isInt gi) (u := .int .u8 ((bytesOf s).getD n.toNat 0)) ?_) rfl
  have hb : (bytesOf s).getD n.toNat 0 = ((s[n.toNat]'hlt).toNat : Int) := by
   have hl : n.toNat < s.data.toList.length := by simpa using hlt
   simp only [bytesOf, List.getD_eq_getElem?_getD, List.getElem?_map, List.getElem?_eq_getElem hl, Option.map_some, Option.getD_some]
   rfl
  rw [hb]
  simp [Instr.index, asIntOf, run_underlying ((hT _ _ ht).str rfl), h0, hlt]
 ·cases h
def OptV (a : Option Int) (v : Option Value) : Prop := (a = none ∧ v = none) ∨ ∃ k n, a = some n ∧ v = some (.int k n)
theorem Q47 (R : Rel B G pl σ a w) {x : Option Operand} {n : Option Int} (h : optInt (look σ) x = some n) : OptV n (x.map a.eval) := by
 cases x with
 | none => obtain rfl := oi h; exact .inl ⟨rfl, rfl⟩
 | some x =>
   simp only [optInt] at h
   split at h
   ·rename_i v hx
    obtain ⟨_, g2, _⟩ := R.look hx
    split at h
    ·rename_i m hm
     obtain rfl := oi h
     unfold intOf? at hm
     split at hm
     ·rename_i p k n
      obtain rfl := oi hm
      exact .inr ⟨_, _, rfl, by rw [Option.map_some, isInt g2]⟩
     ·cases hm
    ·cases h
   ·cases h
theorem Q2w {lo hi : Option Int} {lv hv : Option Value} (hl : OptV lo lv) (hh : OptV hi hv) {len cap : Nat} (hc : len ≤ cap) (hok : Q20 lo hi len = true) (b : Bool) :
  (Instr.sliceBounds b len cap lv hv none).run P w = .ok (loN lo, hiN hi len, cap) w ∧ loN lo ≤ hiN hi len ∧ hiN hi len ≤ len := by
 rcases hl with ⟨rfl, rfl⟩ | ⟨k1, n1, rfl, rfl⟩ <;> rcases hh with ⟨rfl, rfl⟩ | ⟨k2, n2, rfl, rfl⟩ <;>
  simp only [Q20, Bool.and_eq_true, decide_eq_true_eq] at hok
 ·exact ⟨by simp [Instr.sliceBounds, loN, hiN], by simp [loN, hiN]⟩
 ·have h1 : n2 ≤ (cap : Int) := by omega
  exact ⟨by simp [Instr.sliceBounds, Instr.sliceBound, asIntOf, loN, hiN, hok.1, h1], by simp only [loN, hiN]; omega⟩
 ·exact ⟨by simp [Instr.sliceBounds, Instr.sliceBound, asIntOf, loN, hiN, hok.1, hok.2], by simp only [loN, hiN]; omega⟩
 ·have h1 : n2 ≤ (cap : Int) := by omega
  have h2 : 0 ≤ n2 := by omega
  have h3 : n1 ≤ ((n2.toNat : Nat) : Int) := by omega
  refine ⟨?_, by simp only [loN, hiN]; omega⟩
  simp only [Instr.sliceBounds, Instr.sliceBound, asIntOf, loN, hiN]
  simp [h1, h2, hok.1]
  omega
theorem Q102 {α : Type} {lo hi : Option Int} {l : List α} (hok : Q20 lo hi l.length = true) :
  (cutL lo hi l).length = hiN hi l.length - loN lo ∧ ∀ i x, (cutL lo hi l)[i]? = some x → l[loN lo + i]? = some x := by
 cases lo <;> cases hi <;> simp only [Q20, Bool.and_eq_true, decide_eq_true_eq] at hok <;> simp only [cutL, loN, hiN]
 ·exact ⟨by simp, fun i x h => by simpa using h⟩
 ·refine ⟨by simp; omega, fun i x h => ?_⟩
  simp only [List.getElem?_take] at h
  split at h
  ·simpa using h
  ·cases h
 ·exact ⟨by simp, fun i x h => by simpa [List.getElem?_drop] using h⟩
 ·refine ⟨by simp; omega, fun i x h => ?_⟩
  simp only [List.getElem?_drop, List.getElem?_take] at h
  split at h
  ·exact h
  ·cases h
theorem Q5r {o : Oper} {t : Nat} {x : Operand} {lo hi : Option Operand} {u : Value} (ho : o.op = .slice t x lo hi none) (hb : (Instr.sliceAt t (a.eval x) (lo.map a.eval) (hi.map a.eval) none).run P w = .ok u w) :
  (execOp a.eval o).run P w = .ok (.value u) w := by
 have e : execOp a.eval o = (do let v ← Instr.sliceAt t (a.eval x) (lo.map a.eval) (hi.map a.eval) none; pure (.value v)) := by
  simp only [execOp, ho, Option.map_none]
 rw [e]
 simp [hb]
theorem Qj4 {t e : Nat} {i : TI} (hT : TTok P T) (hs : P.underlying t = some (.slice e)) (hi' : T.at e = some i) {lo hi : Option Int} {lv hv : Option Value} (hl : OptV lo lv) (hh : OptV hi hv) {A : Option Addr} {len cap : Nat}
  (hc : len ≤ cap) (hok : Q20 lo hi len = true) :
  (Instr.sliceAt t (.slice A len cap) lv hv none).run P w = .ok (.slice (if cap = loN lo then A else A.map (·.add (loN lo * i.size))) (hiN hi len - loN lo) (cap - loN lo)) w := by
 have hb := (Q2w (P := P) (w := w) hl hh hc hok true).1
 simp [Instr.sliceAt, Instr.slice, run_underlying hs, hb, (hT _ _ hi').sizeOf w]
theorem Qmj {r sz off n : Nat} {A : Option Addr} {c lo hi : Nat} (hs : Q29 w pl r sz off n (.slice A n c)) (h1 : lo ≤ hi) (h2 : hi ≤ n) :
  Q29 w pl r sz (off + lo) (hi - lo) (.slice (if c = lo then A else A.map (·.add (lo * sz))) (hi - lo) (c - lo)) := by
 obtain ⟨A', c', e, g1, g2⟩ := hs
 cases e
 refine ⟨_, _, rfl, Nat.sub_le_sub_right (Nat.le_trans h2 g1) lo, fun hc => ?_⟩
 obtain ⟨b, o, k1, rfl, arr, T', fr, k2, k3⟩ := g2 (Nat.lt_of_lt_of_le hc (Nat.sub_le _ _))
 refine ⟨b, o, k1, ?_, arr, T', fr, k2, ?_⟩
 ·have hne : ¬ c = lo := fun e => by subst e; simp at hc
  rw [if_neg hne]
  simp only [Option.map_some]
  rw [Q1a, Nat.add_mul, Nat.add_assoc]
 ·have h3 : lo ≤ c := Nat.le_of_lt (Nat.lt_of_sub_pos hc)
  have : off + lo + (c - lo) = off + c := by rw [Nat.add_assoc, Nat.add_sub_cancel' h3]
  rw [this]; exact ⟨k3.1, Nat.le_trans (Nat.sub_le _ _) k3.2⟩
theorem Q170 (hT : TTok P T) {o : Oper} {t : Nat} {x : Operand} {lo hi : Option Operand} {out : Out} {key : Nat} (R : Rel B G pl σ a w) (ho : o.op = .slice t x lo hi none)
  (h : opOut T key o.op (look σ) σ.rows = some out) (hok : out.ok = true) : Still P pl σ.rows a w o out := by
 rw [ho] at h
 simp only [opOut] at h
 split at h
 ·rename_i p s n1 n2 hx h1 h2
  split at h
  ·rename_i z1 z2 z3 z4 ht
   obtain rfl := oi h
   obtain ⟨g1, g2, gk⟩ := R.look hx
   have hb := Q2w (P := P) (w := w) (Q47 R h1) (Q47 R h2) (Nat.le_refl s.size) hok false
   refine Still.mk' g1 (Q5r ho (u := .string (s.extract (loN n1) (hiN n2 s.size))) ?_) rfl
   rw [isStr g2]
   simp [Instr.sliceAt, Instr.slice, run_underlying ((hT _ _ ht).str rfl), hb.1]
  ·cases h
 ·rename_i v n1 n2 hns hx h1 h2
  have o1 := Q47 R h1
  have o2 := Q47 R h2
  obtain ⟨g1, g2, gk⟩ := R.look hx
  split at h
  ·rename_i e i ty he
   obtain ⟨k1, k2, k3, k4⟩ := Q1r hT he
   split at h
   ·obtain rfl := oi h
    have g2' : a.eval x = .slice none 0 0 := g2
    have hok' : Q20 n1 n2 0 = true := hok
    obtain ⟨q1, q2, q3⟩ := Q2w (P := P) (w := w) o1 o2 (Nat.le_refl 0) hok' true
    have hcut := Qj4 (P := P) (w := w) (A := none) hT k1 k2 o1 o2 (Nat.le_refl 0) hok'
    have hlo : loN n1 = 0 := by omega
    have hhi : hiN n2 0 = 0 := by omega
    rw [hlo, hhi] at hcut
    exact Still.mk' trivial (Q5r ho (by rw [g2']; exact hcut)) rfl
   ·rename_i p t' l
    split at h
    ·rename_i ht
     subst ht
     obtain rfl := oi h
     obtain ⟨A, c, e1, e2, e3⟩ := g2
     have e1' : a.eval x = .slice A l.length c := by simpa using e1
     obtain ⟨q1, q2, q3⟩ := Q2w (P := P) (w := w) o1 o2 e2 hok true
     obtain ⟨c1, c2⟩ := Q102 hok
     refine Still.mk' g1 (Q5r ho (by rw [e1']; exact Qj4 hT k1 k2 o1 o2 e2 hok)) ?_
     refine ⟨_, _, by rw [c1], by omega, fun hne => ?_⟩
     have hlen : 0 < (cutL n1 n2 l).length := List.length_pos_iff.2 hne
     have hl0 : 0 < List.length l := by omega
     obtain ⟨ad, rfl, hs, hc⟩ := e3 (List.length_pos_iff.1 hl0)
     refine ⟨ad.add (loN n1 * i.size), by rw [if_neg (by omega)]; rfl, by rw [Q4e]; exact hs, fun j y hy => ?_⟩
     obtain ⟨es, r1, r2⟩ := hc _ y (c2 j y hy)
     refine ⟨es, r1, ?_⟩
     rw [Addr.add_add, k4, ← Nat.add_mul]
     rw [k4] at r2
     exact r2
    ·cases h
   ·rename_i r
    split at h
    ·rename_i n0 p t' l hr
     split at h
     ·rename_i ht
      subst ht
      obtain rfl := oi h
      have hsl := g2.2 n0 p _ l hr
      obtain ⟨A, c, e1, e2, e3⟩ := id hsl
      rw [e1] at hsl
      obtain ⟨q1, q2, q3⟩ := Q2w (P := P) (w := w) o1 o2 e2 hok true
      refine Still.mk' g1 (Q5r ho (by rw [e1]; exact Qj4 hT k1 k2 o1 o2 e2 hok)) ⟨rfl, fun n' p' t2 l' hr' => ?_⟩
      rw [hr] at hr'
      cases hr'
      refine ⟨by omega, ?_⟩
      have := Qmj hsl q2 q3
      rw [Nat.zero_add, k4] at this
      rw [k4]; exact this
     ·cases h
    ·cases h
   ·rename_i r off len
    split at h
    ·rename_i n0 p t' l hr
     split at h
     ·rename_i ht
      subst ht
      obtain rfl := oi h
      obtain ⟨hle, hsl⟩ := g2.2 n0 p _ l hr
      obtain ⟨A, c, e1, e2, e3⟩ := id hsl
      rw [e1] at hsl
      obtain ⟨q1, q2, q3⟩ := Q2w (P := P) (w := w) o1 o2 e2 hok true
      refine Still.mk' g1 (Q5r ho (by rw [e1]; exact Qj4 hT k1 k2 o1 o2 e2 hok)) ⟨rfl, fun n' p' t2 l' hr' => ?_⟩
      rw [hr] at hr'
      cases hr'
      refine ⟨by omega, ?_⟩
      have := Qmj hsl q2 q3
      rw [k4] at this
      rw [k4]; exact this
     ·cases h
    ·cases h
   ·cases h
  ·cases h
 ·cases h
end
section
variable {P : Program} {B nt : Nat} {G : Nat → Prop} {pl : Pl} {σ : St} {a : Act} {w : World} {T : TT}
theorem ProvIn.append {rows : Rows} {p q : Prov} (hp : ProvIn rows p) (hq : ProvIn rows q) : ProvIn rows (p ++ q) := fun x hx => (List.mem_append.1 hx).elim (hp x) (hq x)
theorem Q1m {rows : Rows} : ∀ {p q : Prov}, okProv rows (p ++ q) = true → okProv rows p = true ∧ okProv rows q = true
 | [], _, h => ⟨rfl, h⟩
 | (r, n) :: p, q, h => by
   simp only [List.cons_append, okProv, Bool.and_eq_true] at h ⊢
   obtain ⟨h1, h2⟩ := h
   obtain ⟨h3, h4⟩ := Q1m (p := p) h2
   exact ⟨⟨h1, h3⟩, h4⟩
theorem Qct {rows : Rows} : ∀ {p q : Prov}, okProv rows p = true → okProv rows q = true → okProv rows (p ++ q) = true
 | [], _, _, h => h
 | (r, n) :: p, q, h, h' => by
   simp only [List.cons_append, okProv, Bool.and_eq_true] at h ⊢
   exact ⟨h.1, Qct (p := p) h.2 h'⟩
theorem Safe.mono {w : World} {pl : Pl} {rows : Rows} {p q : Prov} (h : ∀ x ∈ p, x ∈ q) {b : Nat} (hs : Safe w pl rows p b) : Safe w pl rows q b := by
 obtain ⟨h1, h2, h3⟩ := hs
 refine ⟨h1, fun hz => ?_, fun r s o hr hl hloc => ?_⟩
 ·obtain ⟨hL, x, hx, e⟩ := h2 hz; exact ⟨hL, x, h x hx, e⟩
 ·obtain ⟨x, hx, e⟩ := h3 r s o hr hl hloc; exact ⟨x, h x hx, e⟩
theorem Q1z {w : World} {pl : Pl} {rows : Rows} {p q : Prov} (h : ∀ x ∈ p, x ∈ q) {t : Ty} {x : t.D} {cs : List Value} (hr : RD w (Safe w pl rows p) t x cs) : RD w (Safe w pl rows q) t x cs :=
 Qn (fun _ hb => Safe.mono h hb) (fun _ _ => rfl) hr
theorem Q179 {o : Oper} {c x y : Operand} {b : Bool} (ho : o.op = .pick c x y) (hc : a.eval c = .bool b) : (execOp a.eval o).run P w = .ok (.value (if b then a.eval x else a.eval y)) w := by
 have e : execOp a.eval o = (do let t ← asBool (a.eval c); pure (.value (if t then a.eval x else a.eval y))) := by simp only [execOp, ho]
 rw [e, hc]
 simp [asBool]
theorem Q1d1 {o : Oper} {c x y : Operand} {out : Out} {key : Nat} (R : Rel B G pl σ a w) (ho : o.op = .pick c x y) (h : opOut T key o.op (look σ) σ.rows = some out) (hok : out.ok = true) :
  Still P pl σ.rows a w o out := by
 rw [ho] at h
 simp only [opOut] at h
 split at h
 ·rename_i p b hc
  obtain ⟨_, gc, _⟩ := R.look hc
  have hr := Q179 (P := P) (w := w) ho (isBool gc)
  split at h
  ·rename_i p1 t1 y1 p2 t2 y2 h1 h2
   split at h
   ·rename_i ht
    subst ht
    obtain rfl := oi h
    obtain ⟨m1, v1, k1⟩ := R.look h1
    obtain ⟨m2, v2, k2⟩ := R.look h2
    refine Still.mk' (ProvIn.append m1 m2) hr ?_
    cases b
    ·exact Q1z (fun z hz => List.mem_append_right _ hz) v2
    ·exact Q1z (fun z hz => List.mem_append_left _ hz) v1
   ·cases h
  ·rename_i v h1 h2
   obtain rfl := oi h
   have hb : b = true := hok
   subst hb
   obtain ⟨m1, v1, k1⟩ := R.look h1
   exact Still.mk' m1 hr v1
  ·rename_i v h1 h2
   obtain rfl := oi h
   have hb : b = false := by
    have : (!b) = true := hok
    simpa using this
   subst hb
   obtain ⟨m1, v1, k1⟩ := R.look h2
   exact Still.mk' m1 hr v1
  ·rename_i v h1 h2
   obtain rfl := oi h
   have hb : b = true := hok
   subst hb
   obtain ⟨m1, v1, k1⟩ := R.look h1
   exact Still.mk' m1 hr v1
  ·rename_i v h1 h2
   obtain rfl := oi h
   have hb : b = false := by
    have : (!b) = true := hok
    simpa using this
   subst hb
   obtain ⟨m1, v1, k1⟩ := R.look h2
   exact Still.mk' m1 hr v1
  ·cases h
 ·cases h
theorem Q6n {o : Oper} {s d : Nat} {x : Operand} {u v : Value} {w' : World} (ho : o.op = .convert s d x) (hx : a.eval x = u) (hb : (convert s d u).run P w = .ok v w') : (execOp a.eval o).run P w = .ok (.value v) w' := by
 have e : execOp a.eval o = (do let v ← convert s d (a.eval x); pure (.value v)) := by simp only [execOp, ho]
 rw [e, hx]
 simp [hb]
theorem TIok.under {t : Nat} {i : TI} (h : TIok P t i) : ∃ d, P.underlying t = some d ∧ tdOf d = i.d := by
 obtain ⟨d, h1, h2⟩ := Option.map_eq_some_iff.1 h.desc
 exact ⟨d, h1, h2⟩
theorem Qth (l : LI) : ∀ s : BA, l.foldl (fun r n => r.push (UInt8.ofNat n.toNat)) s = ⟨s.data ++ (l.map fun n => UInt8.ofNat n.toNat).toArray⟩ := by
 induction l with
 | nil => intro s; simp
 | cons n l ih => intro s; rw [List.foldl_cons, ih]; apply ByteArray.ext; simp [ByteArray.push]
theorem Q17e (l : LI) : l.foldl (fun r n => r.push (UInt8.ofNat n.toNat)) ByteArray.empty = strOf l := by
 rw [Qth]; simp [strOf, ByteArray.empty, ByteArray.emptyWithCapacity]; rfl
theorem Qox {w : World} {S : Nat → Prop} {t : Ty} {l : List t.D} {v : Value} (h : RD w S (.slice t) l [v]) : ∃ A c, v = .slice A l.length c ∧ l.length ≤ c ∧
  (l ≠ [] → ∃ ad : Addr, A = some ad ∧ S ad.block ∧ ∀ i x, l[i]? = some x → ∃ es, RD w S t x es ∧ Q1e w (ad.add (i * t.size)) es) := by
 obtain ⟨A, c, e, h2, h3⟩ := h
 exact ⟨A, c, by simpa using e, h2, h3⟩
theorem Q19 (R : Rel B G pl σ a w) {v x : PV} {u : Value} (hm : Men σ.rows v) (hk : okPV σ.rows v = true) (hv : VR w pl σ.rows v u) (h : toVal σ.rows v = some x) :
  Men σ.rows x ∧ okPV σ.rows x = true ∧ VR w pl σ.rows x u := by
 have row : ∀ {r n : Nat} {p : Prov} {t : Ty} {l : List t.D} {off len : Nat}, σ.rows r = some ⟨n, .arr p t l⟩ → PM.okProv σ.rows p = true → off + len ≤ l.length → Q29 w pl r t.size off len u →
   Men σ.rows (.val ((r, n) :: p) (.slice t) ((l.drop off).take len)) ∧ okPV σ.rows (.val ((r, n) :: p) (.slice t) ((l.drop off).take len)) = true ∧ VR w pl σ.rows (.val ((r, n) :: p) (.slice t) ((l.drop off).take len)) u := by
  intro r n p t l off len hr hp hle hs
  obtain ⟨g1, g2⟩ := R.rows _ _ hr
  have hk : PM.okProv σ.rows ((r, n) :: p) = true := by
   simp only [PM.okProv, hr, hp, Bool.and_true]
   simp
  refine ⟨?_, hk, ?_⟩
  ·intro q hq
   rcases List.mem_cons.1 hq with rfl | hq
   ·exact .inr ⟨_, hr, .inl (Nat.le_refl _), trivial⟩
   ·exact g1 q hq
  ·obtain ⟨A, c, rfl, hc, hs⟩ := hs
   have hlen : ((l.drop off).take len).length = len := by simp; omega
   refine ⟨A, c, by rw [hlen], by rw [hlen]; exact hc, fun hne => ?_⟩
   have h0 : 0 < len := by rw [← hlen]; exact List.length_pos_iff.2 hne
   obtain ⟨b, o, k1, rfl, _⟩ := hs (by omega)
   rw [k1] at g2
   obtain ⟨arr, Te, fr, e1, e2, e3, e4⟩ := g2
   have hlt := Array.getElem?_eq_some_iff.1 e1
   obtain ⟨hlt, _⟩ := hlt
   refine ⟨_, rfl, ⟨hlt, fun hz => ?_, fun r2 s2 o2 h1 h2 h3 => ?_⟩, fun i y hy => ?_⟩
   ·exact absurd hz (R.own r _ b o hr (by simp [RowS.live]) (.inl k1)).2.1
   ·have := R.inj r2 r s2 _ b o2 o h1 h2 hr (by simp [RowS.live]) h3 (.inl k1)
    exact ⟨(r, n), List.mem_cons_self, this.symm⟩
   ·simp only [List.getElem?_take, List.getElem?_drop] at hy
    split at hy
    ·obtain ⟨es, f1, f2⟩ := e4 hp _ y hy
     refine ⟨es, Q1z (fun z hz => List.mem_cons_of_mem _ hz) f1, ?_⟩
     rw [Q1a, Nat.add_assoc, ← Nat.add_mul]
     exact f2
    ·cases hy
 cases v
 case rw r =>
  simp only [toVal] at h
  split at h
  ·rename_i n p t l hr
   split at h
   ·rename_i hp
    obtain rfl := oi h
    have := row (off := 0) (len := l.length) hr hp (by omega) (hv.2 n p t l hr)
    simpa using this
   ·cases h
  ·cases h
 case rs r off len =>
  simp only [toVal] at h
  split at h
  ·rename_i n p t l hr
   split at h
   ·rename_i hp
    obtain rfl := oi h
    obtain ⟨g1, g2⟩ := hv.2 n p t l hr
    exact row hr hp g1 g2
   ·cases h
  ·cases h
 all_goals
  obtain rfl := oi h
  exact ⟨hm, hk, hv⟩
theorem Qtl {w : World} {S : Nat → Prop} {k : IntKind} {l : LI} {ad : Addr} (h : ∀ (i : Nat) (x : Int), l[i]? = some x → ∃ es, RD w S (.int k) x es ∧ Q1e w (ad.add (i * 1)) es) :
  ∀ (j : Nat) (v : Value), (l.map (Value.int k))[j]? = some v → w.cell? (ad.add j) = some v := by
 intro j v hv
 rw [List.getElem?_map, Option.map_eq_some_iff] at hv
 obtain ⟨x, hx, rfl⟩ := hv
 obtain ⟨es, h1, h2⟩ := h j x hx
 have h1' : es = [.int k x] := h1
 subst h1'
 have := h2 0 _ rfl
 rwa [Addr.add_add, Nat.mul_one, Nat.add_zero] at this
theorem Qts {o : Oper} {s d : Nat} {x : Operand} {out : Out} {key : Nat} (hT : TTok P T) (R : Rel B G pl σ a w) (ho : o.op = .convert s d x)
  (h : opOut T key o.op (look σ) σ.rows = some out) (hno : ∀ e, ¬ ∃ i j, T.at d = some i ∧ i.d = .slice e ∧ T.at s = some j) (hok : out.ok = true) : Still P pl σ.rows a w o out := by
 rw [ho] at h
 simp only [opOut] at h
 split at h
 ·rename_i i k z1 z2 z3 z4 p k' n hs hd hx
  obtain rfl := oi h
  obtain ⟨_, g2, _⟩ := R.look hx
  obtain ⟨d1, e1, _⟩ := (hT _ _ hs).under
  exact Still.mk' (Q24 _ _ _) (Q6n ho (isInt g2) (by simp [convert, run_underlying e1, run_underlying ((hT _ _ hd).int rfl), Conv.intToInt])) rfl
 ·rename_i z1 z2 z3 z4 z5 z6 z7 z8 p y hs hd hx
  obtain rfl := oi h
  obtain ⟨g1, g2, _⟩ := R.look hx
  exact Still.mk' g1 (Q6n ho (isStr g2) (by simp [convert, run_underlying ((hT _ _ hs).str rfl), run_underlying ((hT _ _ hd).str rfl)])) rfl
 ·rename_i e z1 z2 z3 z4 z5 z6 z7 z8 v hs hd hx
  obtain ⟨g1, g2, g3⟩ := R.look hx
  split at h
  ·rename_i y1 y2 y3 y4 he
   have k1 := (hT _ _ hs).slice rfl
   have k2 := (hT _ _ hd).str rfl
   have k3 := (hT _ _ he).int rfl
   split at h
   ·rename_i p l hv
    obtain rfl := oi h
    obtain ⟨m1, m2, m3⟩ := Q19 R g1 g3 g2 hv
    obtain ⟨A, c, e1, e2, e3⟩ := Qox m3
    refine Still.mk' (fun q hq => by cases hq) (Q6n ho e1 ?_) (rfl : VR w pl σ.rows (.val [] .str (strOf l)) (.string (strOf l)))
    rw [run_convert_bytes_string w s d e _ _ _ k1 k3 k2, ← Q17e]
    cases A with
    | none =>
      have : l = [] := by
       cases l with
       | nil => rfl
       | cons y l => obtain ⟨_, e, _⟩ := e3 (by simp); cases e
      subst this
      simp [Conv.bytesToString]
    | some ad =>
      refine run_bytesToString w ad _ c l ?_
      have := run_loadCells_list (P := P) w ad (l.map (Value.int .u8)) (fun j v hj => by
       have hne : l ≠ [] := by rintro rfl; simp at hj
       obtain ⟨ad', ea, _, hc⟩ := e3 hne
       cases ea
       exact Qtl (k := .u8) hc j v hj)
      simpa using this
   ·rename_i hv
    obtain rfl := oi h
    obtain ⟨m1, m2, m3⟩ := Q19 R g1 g3 g2 hv
    have m3' : a.eval x = .slice none 0 0 := m3
    exact Still.mk' (fun q hq => by cases hq) (Q6n ho m3' (by rw [run_convert_bytes_string w s d e none 0 0 k1 k3 k2]; simp [Conv.bytesToString, ByteArray.empty, ByteArray.emptyWithCapacity]; rfl)) rfl
   ·cases h
  ·cases h
 ·rename_i hs hd hx
  exact absurd ⟨_, _, hd, rfl, hs⟩ (hno _)
 ·rename_i hs hd hx
  exact absurd ⟨_, _, hd, rfl, hs⟩ (hno _)
 ·cases h
theorem Q45 (R : Rel B G pl σ a w) : ∀ {l : List Operand} {vs : List PV}, l.mapM (look σ) = some vs → Mens σ.rows vs ∧ VRs w pl σ.rows vs (l.map a.eval) ∧ okPV.okAll σ.rows vs = true
 | [], vs, h => by
   simp only [List.mapM_nil, Option.pure_def, Option.some.injEq] at h
   subst h
   exact ⟨trivial, rfl, rfl⟩
 | x :: l, vs, h => by
   rw [List.mapM_cons] at h
   simp only [Option.bind_eq_bind, Option.bind_eq_some_iff, Option.pure_def, Option.some.injEq] at h
   obtain ⟨v, h1, us, h2, rfl⟩ := h
   obtain ⟨g1, g2, g3⟩ := R.look h1
   obtain ⟨f1, f2, f3⟩ := Q45 R h2
   exact ⟨⟨g1, f1⟩, ⟨_, _, rfl, g2, f2⟩, by simp only [okPV.okAll, g3, f3, Bool.and_self]⟩
theorem Q1v {o : Oper} {c : Call} {b : Builtin} {r : Result Next} (ho : o.op = .call c) (hc : c.callee = .builtin b)
  (hb : (builtin b c.argTypes o.type (c.args.map fun | .const _ => true | _ => false) (c.args.map a.eval)).run P w = r) : (execOp a.eval o).run P w = r := by
 have e : execOp a.eval o = (do let d ← resolve a.eval c o.type; invoke d.target d.args) := by simp only [execOp, ho]
 rw [e]
 unfold resolve
 rw [hc]
 simp only [Sem.run_bind, Sem.run_pure, Result.andThen, invoke]
 exact hb
theorem Qoq (R : Rel B G pl σ a w) {t : Nat} {i : TI} (hi : TIok P t i) {v : PV} {u : Value} {n : Int} (hv : VR w pl σ.rows v u) (h : lenOf σ.rows i.d v = some n) (ts : Array Nat) (ht : ts[0]? = some t) (ty : Nat) :
  (Builtin.len_ ts ty #[u]).run P w = .ok (.int .i64 n) w := by
 have slc : ∀ {e : Nat} {A : Option Addr} {m c : Nat}, i.d = .slice e → u = .slice A m c → n = (m : Nat) → (Builtin.len_ ts ty #[u]).run P w = .ok (.int .i64 n) w := by
  intro e A m c h1 h2 h3
  subst h2; subst h3
  simp [Builtin.len_, ht, run_underlying (hi.slice h1), goInt]
 generalize hd : i.d = d at h
 unfold lenOf at h
 split at h
 ·obtain rfl := oi h
  rw [isStr hv]
  simp [Builtin.len_, ht, run_underlying (hi.str hd), goInt]
 ·obtain rfl := oi h
  exact slc hd hv rfl
 ·obtain rfl := oi h
  obtain ⟨A, c, e, _⟩ := Qox hv
  exact slc hd e rfl
 ·split at h
  ·rename_i hr
   obtain rfl := oi h
   obtain ⟨A, c, e, _⟩ := hv.2 _ _ _ _ hr
   exact slc hd e rfl
  ·cases h
 ·split at h
  ·rename_i hr
   obtain rfl := oi h
   obtain ⟨_, A, c, e, _⟩ := hv.2 _ _ _ _ hr
   exact slc hd e rfl
  ·cases h
 ·split at h
  ·rename_i hr
   obtain rfl := oi h
   obtain ⟨b, e1, rfl⟩ := hv.1.2 _ _ _ _ _ _ _ hr
   obtain ⟨_, _, b', es1, st, bs, e2, ⟨es, clock, m1, m2, _⟩, e4, e5, _⟩ := R.rows _ _ hr
   rw [e1] at e2
   cases e2
   have hst : st = [] := e5
   subst hst
   have hlen := m2.length_eq
   rw [List.append_nil, Q7l e4] at hlen
   have hsz : es.size = _ := (Array.length_toList (xs := es)).symm.trans hlen
   simp [Builtin.len_, ht, run_underlying (hi.map hd), goInt, getObj, Sem.run, m1, hsz, Result.andThen]
  ·cases h
 ·cases h
theorem Q1ih {o : Oper} {c : Call} {out : Out} {key : Nat} (hT : TTok P T) (R : Rel B G pl σ a w) (ho : o.op = .call c) (hc : c.callee = .builtin .len)
  (h : opOut T key o.op (look σ) σ.rows = some out) (hok : out.ok = true) : Still P pl σ.rows a w o out := by
 rw [ho] at h
 simp only [opOut, hc] at h
 split at h
 ·rename_i vs hvs
  unfold Q1w at h
  split at h
  ·rename_i t ts v hts
   split at h
   ·rename_i i hi
    split at h
    ·rename_i n hn
     obtain rfl := oi h
     obtain ⟨g1, ⟨u, us, e1, g2, e2⟩, g3⟩ := Q45 R hvs
     have e2' : us = [] := e2
     subst e2'
     have e3 : c.args.map a.eval = #[u] := by
      apply Array.ext'
      simpa using e1
     refine Still.mk' (Q24 _ _ _) (Q1v ho hc ?_) rfl
     rw [e3]
     simp only [builtin]
     have := Qoq R (hT _ _ hi) g2 hn c.argTypes (by rw [← Array.getElem?_toList, ‹c.argTypes.toList = _›]; rfl) o.type
     simp [this]
    ·cases h
   ·cases h
  all_goals (first | (cases ‹Builtin.len = _›; done) | (simp at *; done))
 ·cases h
theorem Qji (R : Rel B G pl σ a w) {c : Call} {v1 v2 : PV} (h : c.args.toList.mapM (look σ) = some [v1, v2]) :
  ∃ u1 u2, c.args.map a.eval = #[u1, u2] ∧ VR w pl σ.rows v1 u1 ∧ VR w pl σ.rows v2 u2 ∧ Men σ.rows v1 ∧ Men σ.rows v2 ∧ okPV σ.rows v1 = true ∧ okPV σ.rows v2 = true := by
 obtain ⟨g1, ⟨u1, us, e1, g2, u2, us2, e2, g4, e5⟩, g3⟩ := Q45 R h
 have e5' : us2 = [] := e5
 subst e5'; subst e2
 simp only [okPV.okAll, Bool.and_true, Bool.and_eq_true] at g3
 exact ⟨u1, u2, by apply Array.ext'; simpa using e1, g2, g4, g1.1, g1.2.1, g3.1, g3.2⟩
theorem Qm5 {o : Oper} {c : Call} {out : Out} {key : Nat} (R : Rel B G pl σ a w) (ho : o.op = .call c) (hc : c.callee = .builtin .min ∨ c.callee = .builtin .max)
  (h : opOut T key o.op (look σ) σ.rows = some out) (hok : out.ok = true) : Still P pl σ.rows a w o out := by
 rw [ho] at h
 rcases hc with hc | hc
 all_goals
  simp only [opOut, hc] at h
  split at h
  ·rename_i vs hvs
   unfold Q1w at h
   split at h
   all_goals (first | (cases ‹Builtin.min = _›; done) | (cases ‹Builtin.max = _›; done) | (cases h; done) | skip)
   rename_i p k m p' k' n hb
   split at h
   ·rename_i hk
    subst hk
    obtain rfl := oi h
    obtain ⟨u1, u2, e, g1, g2, _⟩ := Qji R hvs
    refine Still.mk' (Q24 _ _ _) (Q1v ho hc ?_) rfl
    rw [e, isInt g1, isInt g2]
    simp [builtin, Builtin.min_, Builtin.max_, Builtin.min2, Builtin.max2, GT.gt]
   ·cases h
  ·cases h
theorem Q1ig {o : Oper} {c : Call} {out : Out} {key : Nat} (hT : TTok P T) (R : Rel B G pl σ a w) (ho : o.op = .call c) (hc : c.callee = .builtin .cap)
  (h : opOut T key o.op (look σ) σ.rows = some out) (hok : out.ok = true) : Still P pl σ.rows a w o out := by
 rw [ho] at h
 simp only [opOut, hc] at h
 split at h
 ·rename_i vs hvs
  unfold Q1w at h
  split at h
  all_goals (first | (cases ‹Builtin.cap = _›; done) | (cases h; done) | skip)
  rename_i t ts _ hts
  split at h
  ·rename_i hi
   obtain rfl := oi h
   obtain ⟨g1, ⟨u, us, e1, g2, e2⟩, g3⟩ := Q45 R hvs
   have e2' : us = [] := e2
   subst e2'
   have g2' : u = .slice none 0 0 := g2
   subst g2'
   have e3 : c.args.map a.eval = #[.slice none 0 0] := by
    apply Array.ext'
    simpa using e1
   refine Still.mk' (Q24 _ _ _) (Q1v ho hc ?_) rfl
   rw [e3]
   have ht : c.argTypes[0]? = some t := by rw [← Array.getElem?_toList, hts]; rfl
   simp [builtin, Builtin.cap_, ht, run_underlying ((hT _ _ hi).slice rfl), goInt]
  ·cases h
 ·cases h
theorem Qov {o : Oper} {fn : Fn} {f cs : Array Operand} {out : Out} {key : Nat} (R : Rel B G pl σ a w) (ho : o.op = .makeFunc fn f cs)
  (h : opOut T key o.op (look σ) σ.rows = some out) : Still P pl σ.rows a w o out := by
 rw [ho] at h
 unfold opOut at h
 split at h
 all_goals (first | (cases h; done) | (rename_i he; cases he; done) | skip)
 rename_i fn' cs' he
 cases he
 split at h
 ·rename_i vs hvs
  obtain rfl := oi h
  obtain ⟨g1, g2, g3⟩ := Q45 R hvs
  refine Still.mk' g1 (u := .func (.func fn') #[] (cs.map a.eval)) ?_ ⟨cs.map a.eval, rfl, by simpa using g2⟩
  simp [execOp, ho, Instr.makeFunc]
 ·cases h
theorem Q17k (vs : List Value) (off : Nat) : ∀ (k : Nat) (cs : Array Value), off + k + vs.length ≤ cs.size →
  ((vs.zipIdx k).foldl (fun (cs : Array Value) (x : Value × Nat) => cs.setIfInBounds (off + x.2) x.1) cs).toList = cs.toList.take (off + k) ++ vs ++ cs.toList.drop (off + k + vs.length) := by
 induction vs with
 | nil => intro k cs _; simp
 | cons v vs ih =>
   intro k cs h
   simp only [List.length_cons] at h
   simp only [List.zipIdx_cons, List.foldl_cons]
   rw [ih (k + 1) _ (by simp; omega)]
   simp only [Array.toList_setIfInBounds, List.length_cons]
   have h1 : (cs.toList.set (off + k) v).take (off + (k + 1)) = cs.toList.take (off + k) ++ [v] := by
    rw [← Nat.add_assoc, List.take_add_one]
    simp [List.take_set_of_le, show off + k < cs.size by omega]
   have h2 : (cs.toList.set (off + k) v).drop (off + (k + 1) + vs.length) = cs.toList.drop (off + k + (vs.length + 1)) := by
    rw [List.drop_set_of_lt (by omega)]
    congr 1; omega
   rw [h1, h2]
   simp
theorem Qsc {place : Nat → Option (Nat × Nat)} {cells : Array Value} {i off size : Nat} {v : Value} {rest : List (Nat × Value)} (hp : place i = some (off, size)) (hv : v.cells.size = size) (hle : off + size ≤ cells.size) :
  Instr.fill place cells ((i, v) :: rest) = Instr.fill place ((cells.toList.take off ++ v.cells.toList ++ cells.toList.drop (off + size))).toArray rest := by
 simp only [Instr.fill, hp, hv]
 rw [if_neg (by simp; omega)]
 congr 1
 apply Array.ext'
 rw [← Array.foldl_toList, Array.toList_zipIdx]
 have := Q17k v.cells.toList off 0 cells (by simp; omega)
 rw [Nat.add_zero] at this
 rw [this]
 simp [hv]
theorem Q17i {w : World} {pl : Pl} {rows : Rows} {l : List PV} {us : List Value} (h : VRs w pl rows l us) (n : Nat) : VRs w pl rows (l.take n) (us.take n) := by
 have := Q1e4 h 0 n; simpa using this
theorem Q17h {w : World} {pl : Pl} {rows : Rows} {l : List PV} {us : List Value} (h : VRs w pl rows l us) (n : Nat) : VRs w pl rows (l.drop n) (us.drop n) := by
 refine Qn0 (by simp [Q27 h]) fun j x u hx hu => ?_
 simp only [List.getElem?_drop] at hx hu
 obtain ⟨u2, g1, g2⟩ := Q2s h _ x hx
 rw [hu] at g1
 obtain rfl := oi g1
 exact g2
theorem Q156 {w : World} {pl : Pl} {rows : Rows} {l vs : List PV} {us xs : List Value} (h : VRs w pl rows l us) (h2 : VRs w pl rows vs xs) (off : Nat) :
  VRs w pl rows (setCells l off vs) (us.take off ++ xs ++ us.drop (off + xs.length)) := by
 rw [Q27 h2]
 exact Q3t (Q3t (Q17i h off) h2) (Q17h h _)
theorem Qco {rows : Rows} : ∀ {k : List PV}, (∀ v ∈ k, Men rows v) → Mens rows k
 | [], _ => trivial
 | x :: k, h => ⟨h x List.mem_cons_self, Qco fun v hv => h v (List.mem_cons_of_mem _ hv)⟩
theorem Qsk {rows : Rows} {l vs : List PV} (h : Mens rows l) (h2 : Mens rows vs) (off : Nat) : Mens rows (setCells l off vs) := by
 refine Qco fun v hv => ?_
 simp only [setCells, List.mem_append] at hv
 rcases hv with (hv | hv) | hv
 ·exact Qq h v (List.mem_of_mem_take hv)
 ·exact Qq h2 v hv
 ·exact Qq h v (List.mem_of_mem_drop hv)
theorem Q1cq {l vs : List PV} {off : Nat} (h : off + vs.length ≤ l.length) : (setCells l off vs).length = l.length := by
 simp only [setCells, List.length_append, List.length_take, List.length_drop]; omega
theorem Q4a (R : Rel B G pl σ a w) {fs : List (Nat × Nat)} {place : Nat → Option (Nat × Nat)} (hp : ∀ i t off, fs[i]? = some (t, off) → ∃ ti, T.at t = some ti ∧ place i = some (off, ti.size)) :
  ∀ {ps : List (Nat × Operand)} {l l' : List PV} {cs : Array Value}, Q6b T fs (look σ) ps l = some l' → VRs w pl σ.rows l cs.toList → Mens σ.rows l → (∀ u ∈ cs.toList, u.oneCell' = true) →
  ∃ cs', Instr.fill place cs (ps.map fun x => (x.1, a.eval x.2)) = some cs' ∧ VRs w pl σ.rows l' cs'.toList ∧ Mens σ.rows l' ∧ ∀ u ∈ cs'.toList, u.oneCell' = true
 | [], l, l', cs, h, hv, hm, h1 => by
   obtain rfl := oi h
   exact ⟨cs, rfl, hv, hm, h1⟩
 | (i, x) :: ps, l, l', cs, h, hv, hm, h1 => by
   simp only [Q6b] at h
   split at h
   ·rename_i t off v hf hx
    split at h
    ·rename_i ti vs ht hvs
     split at h
     ·rename_i hc
      obtain ⟨c1, c2⟩ := hc
      obtain ⟨ti', e1, e2⟩ := hp i t off hf
      rw [ht] at e1
      obtain rfl := oi e1
      obtain ⟨g1, g2, g3⟩ := R.look hx
      obtain ⟨f1, f2⟩ := Q8q g2 hvs
      have hlen : (a.eval x).cells.size = ti.size := by
       have := Q27 f1
       simpa [c1] using this
      have hcl := Q27 hv
      have hsz : off + ti.size ≤ cs.size := by
       have : cs.size = l.length := by simpa using hcl
       omega
      rw [List.map_cons, Qsc e2 hlen hsz]
      refine Q4a R hp h ?_ (Qsk hm (Q3o g1 hvs) off) ?_
      ·have := Q156 hv f1 off
       simpa [hlen] using this
      ·intro u hu
       simp only [List.mem_append] at hu
       rcases hu with (hu | hu) | hu
       ·exact h1 u (List.mem_of_mem_take hu)
       ·exact f2 u hu
       ·exact h1 u (List.mem_of_mem_drop hu)
     ·cases h
    ·cases h
   ·cases h
theorem Qm8 (hT : TTok P T) : ∀ (fl : List Field), (fl.map fun f => (f.type, f.offset)).all (fun f => (T.at f.1).isSome) = true →
  ∃ places : List (Nat × Nat), fl.mapM (fun f => (P.info? f.type).map fun i => (f.offset, i.size)) = some places ∧
    ∀ (i t off : Nat), (fl.map fun f => (f.type, f.offset))[i]? = some (t, off) → ∃ ti, T.at t = some ti ∧ places[i]? = some (off, ti.size)
 | [], _ => ⟨[], rfl, fun i t off h => by simp at h⟩
 | f :: fl, h => by
   simp only [List.map_cons, List.all_cons, Bool.and_eq_true] at h
   obtain ⟨h1, h2⟩ := h
   obtain ⟨ti, hti⟩ := Option.isSome_iff_exists.1 h1
   obtain ⟨x, z, e1, e2, _⟩ := (hT _ _ hti).infos
   obtain ⟨places, g1, g2⟩ := Qm8 hT fl h2
   refine ⟨(f.offset, x.size) :: places, by simp [List.mapM_cons, e1, g1], fun i t off hi => ?_⟩
   cases i with
   | zero => simp at hi; obtain ⟨rfl, rfl⟩ := hi; exact ⟨ti, hti, by simp [e2]⟩
   | succ i => exact g2 i t off (by simpa using hi)
theorem Qdx (w : World) (pl : Pl) (rows : Rows) : ∀ {z : List Value}, z.all (·.oneCell') = true → VRs w pl rows (z.map Q3v) z ∧ Mens rows (z.map Q3v) ∧ ∀ u ∈ z, u.oneCell' = true
 | [], _ => ⟨rfl, trivial, fun u h => by cases h⟩
 | v :: z, h => by
   simp only [List.all_cons, Bool.and_eq_true] at h
   obtain ⟨g1, g2, g3⟩ := Qdx w pl rows h.2
   obtain ⟨f1, f2⟩ := Qjj w pl rows v h.1
   exact ⟨⟨v, z, rfl, f1, g1⟩, ⟨f2, g2⟩, fun u hu => (List.mem_cons.1 hu).elim (fun e => e ▸ h.1) (g3 u)⟩
theorem Q16u {o : Oper} {t : Nat} {ps : Array (Nat × Operand)} {out : Out} {key : Nat} (hT : TTok P T) (R : Rel B G pl σ a w) (ho : o.op = .build t ps)
  (h : opOut T key o.op (look σ) σ.rows = some out) : Still P pl σ.rows a w o out := by
 rw [ho] at h
 simp only [opOut] at h
 split at h
 ·rename_i fs z1 z2 z z3 ht
  split at h
  ·rename_i hc
   simp only [Bool.and_eq_true] at hc
   obtain ⟨hc1, hc2⟩ := hc
   split at h
   ·rename_i l hl
    obtain rfl := oi h
    obtain ⟨fl, e1, e2⟩ := (hT _ _ ht).struct rfl
    rw [← e2] at hc1 hl
    obtain ⟨places, p1, p2⟩ := Qm8 hT fl.toList hc1
    obtain ⟨x, zv, f1, f2, f3, f4, f5⟩ := (hT _ _ ht).infos
    obtain ⟨q1, q2, q3⟩ := Qdx w pl σ.rows hc2
    simp only at f5
    obtain ⟨cs, r1, r2, r3, r4⟩ := Q4a (place := (places.toArray[·]?)) (cs := zv.cells) R (fun i t off hi => by obtain ⟨ti, a1, a2⟩ := p2 i t off hi; exact ⟨ti, a1, by simpa using a2⟩) hl
     (by rw [f5]; exact q1) q2 (by rw [f5]; exact q3)
    refine Still.mk' r3 (u := .agg cs) ?_ ⟨cs, rfl, r2, r4⟩
    have e : execOp a.eval o = (do let v ← Instr.build t (ps.map fun (i, x) => (i, a.eval x)); pure (.value v)) := by simp only [execOp, ho]
    have hb : P.built t (ps.map fun (i, x) => (i, a.eval x)).toList = some cs := by
     simp only [Program.built, f1, e1, f4, p1]
     simpa using r1
    rw [e]
    simp [run_build w t _ cs hb]
   ·cases h
  ·cases h
 ·cases h
end
structure Quiet (w w' : World) : Prop where
 os : w'.os = w.os
 tape : w'.tape = w.tape
 output : w'.output = w.output
theorem Quiet.refl (w : World) : Quiet w w := ⟨rfl, rfl, rfl⟩
theorem Quiet.trans {a b c : World} (h : Quiet a b) (k : Quiet b c) : Quiet a c := ⟨k.os.trans h.os, k.tape.trans h.tape, k.output.trans h.output⟩
noncomputable def Pl.put (pl : Pl) (key : Nat) (kl : Option (Nat × Nat)) : Pl := ⟨upd pl.loc key kl, pl.Z, pl.L, fun r b => r ≠ key ∧ pl.hid r b⟩
theorem Q13h (pl : Pl) {key : Nat} (kl : Option (Nat × Nat)) {x : Nat} (h : x ≠ key) : (pl.put key kl).hid x = pl.hid x := by
 funext b
 simp [Pl.put, h]
theorem Q1j (pl : Pl) (key : Nat) (kl : Option (Nat × Nat)) (x : Nat) : (pl.put key kl).loc x = if x = key then kl else pl.loc x := by
 simp [Pl.put, upd]
theorem Q8 {β : Type} (f : Nat → β) (a x : Nat) (b : β) : upd f a b x = if x = a then b else f x := by simp [upd]
section
variable {P : Program} {B nt : Nat} {G : Nat → Prop} {pl pl' : Pl} {σ : St} {a : Act} {w w' : World} {T : TT}
theorem Kin.refl (s : RowS) : Kin s s := ⟨Nat.le_refl _, .inl rfl⟩
theorem Step.refl (w : World) (pl : Pl) {rows : Rows} (h0 : rows 0 = none) : Step w pl rows w pl rows :=
 ⟨rfl, rfl, Nat.le_refl _, fun r s hr => ⟨s, hr, Kin.refl s, fun _ => rfl⟩, fun _ _ _ _ _ => rfl, fun r s' h1 h2 b o h3 => .inl ⟨s', o, h1, h2, h3⟩, fun b _ _ => rfl, fun b arr T fr h => ⟨arr, T, fr, h, rfl⟩, h0⟩
def Goes (P : Program) (B nt : Nat) (G : Nat → Prop) (pl : Pl) (σ : St) (a : Act) (w : World) (o : Oper) (out : Out) : Prop :=
 ∃ pl' w' u, RunsTo P o a w u w' ∧ Step w pl σ.rows w' pl' (updAll σ.rows out.upd) ∧ Quiet w w' ∧ Rel B G pl' ⟨putDst nt σ.env o.dst out.v, updAll σ.rows out.upd⟩ (a.put o.dst u) w'
theorem Still.goes {o : Oper} {out : Out} (R : Rel B G pl σ a w) (hn : nt ≤ a.tmps.size) (h : Still P pl σ.rows a w o out) : Goes P B nt G pl σ a w o out := by
 obtain ⟨h1, v, h2, h3, u, h4, h5⟩ := h
 refine ⟨pl, w, u, h4, ?_, Quiet.refl w, ?_⟩
 ·rw [h1]; exact Step.refl w pl R.zero
 ·rw [h1, h2]; exact R.put hn o.dst h3 h5
def Wane (rows rows1 : Rows) : Prop := ∀ x, rows1 x = rows x ∨ ∃ s n, rows x = some s ∧ (∀ l, s.row ≠ .vars l) ∧ s.ver ≤ n ∧ rows1 x = some ⟨n, .gone⟩
theorem Wane.refl (rows : Rows) : Wane rows rows := fun _ => .inl rfl
theorem Wane.one {rows : Rows} {r n : Nat} {p : Prov} {t : Ty} {l : List t.D} (h : rows r = some ⟨n, .arr p t l⟩) : Wane rows (upd rows r (some ⟨n, .gone⟩)) := by
 intro x
 rw [Q8]
 by_cases e : x = r
 ·subst e; rw [if_pos rfl]; exact .inr ⟨_, n, h, by simp, Nat.le_refl _, rfl⟩
 ·rw [if_neg e]; exact .inl rfl
def Freed (pl : Pl) (rows rows1 : Rows) (b : Nat) : Prop := ∃ r s0 n o0, rows r = some s0 ∧ s0.live ∧ rows1 r = some ⟨n, .gone⟩ ∧ pl.loc r = some (b, o0)
theorem Q13b {rows rows1 : Rows} {key : Nat} {s : RowS} {kl : Option (Nat × Nat)} (h0 : rows 0 = none) (hk : rows key = none) (hw : Wane rows rows1)
  (hsz : w.heap.size ≤ w'.heap.size) (heap : ∀ b, b < w.heap.size → w'.heap[b]? = w.heap[b]? ∨ Freed pl rows rows1 b)
  (blk : ∀ (b : Nat) (arr : Array Value) (T : TypeId) (fr : Nat × Nat), w.heap[b]? = some (Obj.cells arr T fr) → ∃ (arr' : Array Value) (T' : TypeId) (fr' : Nat × Nat), w'.heap[b]? = some (Obj.cells arr' T' fr') ∧ arr'.size = arr.size)
  (hloc : ∀ b o, kl = some (b, o) → w.heap.size ≤ b ∨ Freed pl rows rows1 b) :
  Step w pl rows w' (pl.put key kl) (upd rows1 key (some s)) := by
 have ne : ∀ {x : Nat} {s0 : RowS}, rows x = some s0 → x ≠ key := fun h e => by subst e; rw [hk] at h; cases h
 have fd : ∀ {b : Nat}, Freed pl rows rows1 b → ∃ r s0 n o0, rows r = some s0 ∧ s0.live ∧ upd rows1 key (some s) r = some ⟨n, .gone⟩ ∧ pl.loc r = some (b, o0) := by
  rintro b ⟨r, s0, n, o0, g1, g2, g3, g4⟩
  exact ⟨r, s0, n, o0, g1, g2, by rw [Q8, if_neg (ne g1)]; exact g3, g4⟩
 refine Step.mk0 rfl rfl hsz (fun r s0 hr => ?_) (fun r hr => Q13h pl kl (fun e => hr (e ▸ hk))) (fun r s' h1 h2 _ b h3 => ?_) (fun r s' h1 h2 _ b o h3 => ?_) (fun b hb h => ?_) blk h0
 ·have hne := ne hr
  rw [Q8, if_neg hne, Q1j, if_neg hne]
  rcases hw r with e | ⟨s1, n, e1, e2, e3, e4⟩
  ·exact ⟨s0, e.trans hr, Kin.refl s0, fun _ => rfl⟩
  ·rw [hr] at e1
   obtain rfl := oi e1
   exact ⟨_, e4, ⟨e3, .inr (.inl ⟨rfl, e2⟩)⟩, fun _ => rfl⟩
 ·rw [Q8] at h2
  by_cases e : r = key
  ·exact h3.1 e
  ·rw [if_neg e] at h2
   rcases hw r with e' | ⟨s1, n, e1, _⟩
   ·rw [e', h1] at h2; cases h2
   ·rw [h1] at e1; cases e1
 ·rw [Q8] at h2
  rw [Q1j] at h3
  by_cases e : r = key
  ·rw [if_pos e] at h3
   rcases hloc b o h3 with h | h
   ·exact .inl h
   ·exact .inr (fd h)
  ·rw [if_neg e] at h2
   rcases hw r with e' | ⟨s1, n, e1, _⟩
   ·rw [e', h1] at h2; cases h2
   ·rw [h1] at e1; cases e1
 ·rcases heap b hb with e | hf
  ·exact e
  ·obtain ⟨r, s0, n, o0, g1, g2, g3, g4⟩ := fd hf
   have := h r s0 o0 g1 g2 (.inl g4)
   rw [g3] at this
   obtain rfl := oi this
   exact absurd rfl g2
theorem Qb5 (R : Rel B G pl σ a w) (hn : nt ≤ a.tmps.size) {rows' : Rows} {dst : Option Nat} {ov : Option PV} {u : Value}
  (hv : (∀ v, ov = some v → Men rows' v ∧ (okPV rows' v = true → VR w' pl' rows' v u)) ∧ (ov = none → u = undef)) :
  ∀ s v, putDst nt σ.env dst ov s = some v → (σ.env s = some v ∧ s < (a.put dst u).tmps.size ∧ (a.put dst u).tmps.getD s undef = a.tmps.getD s undef) ∨
    (s < (a.put dst u).tmps.size ∧ Men rows' v ∧ (okPV rows' v = true → VR w' pl' rows' v ((a.put dst u).tmps.getD s undef))) := by
 intro s v h
 rw [Q1p]
 cases dst with
 | none =>
   exact .inl ⟨h, (R.env s v h).1, rfl⟩
 | some d =>
   have other : ∀ {x : Option PV}, upd σ.env d x s = some v → s ≠ d → σ.env s = some v ∧ s < a.tmps.size ∧ (a.put (some d) u).tmps.getD s undef = a.tmps.getD s undef := by
    intro x h hs
    rw [Q8, if_neg hs] at h
    refine ⟨h, (R.env s v h).1, ?_⟩
    by_cases hd : d < a.tmps.size
    ·rw [Q43 a d s u hd, if_neg hs]
    ·have : a.put (some d) u = a := by simp [Act.put, Array.setIfInBounds, hd]
     rw [this]
   have same : ∀ {x : Option PV}, upd σ.env d (if d < nt then x else none) s = some v → s = d → d < nt ∧ x = some v := by
    intro x h hs
    rw [Q8, if_pos hs] at h
    by_cases hlt : d < nt
    ·rw [if_pos hlt] at h; exact ⟨hlt, h⟩
    ·rw [if_neg hlt] at h; cases h
   cases ov with
   | none =>
     by_cases hs : s = d
     ·obtain ⟨h1, h2⟩ := same (x := some .und) h hs
      obtain rfl := oi h2
      subst hs
      refine .inr ⟨by omega, trivial, fun _ => ?_⟩
      rw [Q43 a s s u (by omega), if_pos rfl, hv.2 rfl]
      rfl
     ·exact .inl (other h hs)
   | some x =>
     by_cases hs : s = d
     ·obtain ⟨h1, h2⟩ := same (x := some x) h hs
      subst hs
      obtain ⟨g1, g2⟩ := hv.1 v h2
      refine .inr ⟨by omega, g1, fun hk => ?_⟩
      rw [Q43 a s s u (by omega), if_pos rfl]
      exact g2 hk
     ·exact .inl (other h hs)
theorem Rel.grow (R : Rel B G pl σ a w) (hn : nt ≤ a.tmps.size) (hZ : ∀ b, pl.Z b → b < B) (hB : B ≤ w.heap.size) {rows1 : Rows} {key : Nat} {s : RowS} {kl : Option (Nat × Nat)} (hk : σ.rows key = none) (h0 : key ≠ 0) (hw : Wane σ.rows rows1)
  (hsz : w.heap.size ≤ w'.heap.size) (heap : ∀ b, b < w.heap.size → w'.heap[b]? = w.heap[b]? ∨ Freed pl σ.rows rows1 b)
  (blk : ∀ (b : Nat) (arr : Array Value) (T : TypeId) (fr : Nat × Nat), w.heap[b]? = some (Obj.cells arr T fr) → ∃ (arr' : Array Value) (T' : TypeId) (fr' : Nat × Nat), w'.heap[b]? = some (Obj.cells arr' T' fr') ∧ arr'.size = arr.size)
  (hloc : ∀ b o, kl = some (b, o) → b < w'.heap.size ∧ (w.heap.size ≤ b ∨ Freed pl σ.rows rows1 b))
  (hrow : Step w pl σ.rows w' (pl.put key kl) (upd rows1 key (some s)) → RowR w' (pl.put key kl) (upd rows1 key (some s)) key s)
  {dst : Option Nat} {ov : Option PV} {u : Value}
  (hv : Step w pl σ.rows w' (pl.put key kl) (upd rows1 key (some s)) → (∀ v, ov = some v → Men (upd rows1 key (some s)) v ∧ (okPV (upd rows1 key (some s)) v = true → VR w' (pl.put key kl) (upd rows1 key (some s)) v u)) ∧ (ov = none → u = undef)) :
  Step w pl σ.rows w' (pl.put key kl) (upd rows1 key (some s)) ∧ Rel B G (pl.put key kl) ⟨putDst nt σ.env dst ov, upd rows1 key (some s)⟩ (a.put dst u) w' := by
 have S := Q13b (s := s) R.zero hk hw hsz heap blk (fun b o h => (hloc b o h).2)
 refine ⟨S, ?_⟩
 have old : ∀ {x : Nat} {s1 : RowS}, x ≠ key → upd rows1 key (some s) x = some s1 → s1.live → σ.rows x = some s1 ∧ rows1 x = some s1 := by
  intro x s1 hx h hl
  rw [Q8, if_neg hx] at h
  rcases hw x with e | ⟨s2, n, e1, e2, e3, e4⟩
  ·exact ⟨e ▸ h, h⟩
  ·rw [e4] at h
   obtain rfl := oi h
   exact absurd rfl hl
 have clash : ∀ {x : Nat} {s1 : RowS} {b o o' : Nat}, x ≠ key → upd rows1 key (some s) x = some s1 → s1.live → (pl.put key kl).at x b o → kl = some (b, o') → False := by
  intro x s1 b o o' hx h hl h1 h2
  obtain ⟨e1, e2⟩ := old hx h hl
  replace h1 : pl.at x b o := by
   rcases h1 with h1 | h1
   ·rw [Q1j, if_neg hx] at h1; exact .inl h1
   ·exact .inr h1.2
  rcases (hloc b o' h2).2 with h3 | ⟨r, s0, n, o0, g1, g2, g3, g4⟩
  ·have := (R.own x s1 b o e1 hl h1).1
   omega
  ·obtain rfl := R.inj r x s0 s1 b o0 o g1 g2 e1 hl (.inl g4) h1
   rw [e2] at g3
   obtain rfl := oi g3
   exact hl rfl
 have isnew : ∀ {x : Nat} {s1 : RowS}, upd rows1 key (some s) x = some s1 → σ.rows x = none → x = key := by
  intro x s1 h h1
  by_cases e : x = key
  ·exact e
  ·rw [Q8, if_neg e] at h
   rcases hw x with e' | ⟨s2, n, e1, _⟩
   ·rw [e', h1] at h; cases h
   ·rw [h1] at e1; cases e1
 refine R.step S (fun r hr => Q13h pl kl (fun e => hr (e ▸ hk))) (fun r s1 h1 h2 _ b h3 => h3.1 (isnew h2 h1)) ((Q3m a dst u).trans R.defers) (Qb5 R hn (hv S)) ?_ ?_ ?_ ?_ ?_
 ·intro r s' hr hne
  by_cases e : r = key
  ·subst e
   rw [Q8, if_pos rfl] at hr
   obtain rfl := oi hr
   exact hrow S
  ·rw [Q8, if_neg e] at hr
   rcases hw r with e' | ⟨s2, n, e1, e2, e3, e4⟩
   ·exact absurd (e' ▸ hr) hne
   ·rw [e4] at hr
    obtain rfl := oi hr
    exact trivial
 ·rw [Q8, if_neg (Ne.symm h0)]
  rcases hw 0 with e | ⟨s2, n, e1, _⟩
  ·exact e.trans R.zero
  ·rw [R.zero] at e1; cases e1
 ·intro r r' s1 s2 b o o' h1 l1 h2 l2 h3 h4 h5 h6
  have e := isnew h2 h6
  subst e
  rw [Q1j, if_pos rfl] at h4
  exact clash (fun e => by subst e; exact h5 hk) h1 l1 h3 h4
 ·intro r r' s1 s2 b o o' h1 l1 h2 l2 h3 h4 h5 h6
  rw [isnew h1 h5, isnew h2 h6]
 ·intro r s1 b o h1 l1 h2 h3
  have e := isnew h1 h3
  subst e
  rw [Q1j, if_pos rfl] at h2
  obtain ⟨g1, g2⟩ := hloc b o h2
  refine ⟨g1, ?_⟩
  rcases g2 with g | ⟨r, s0, n, o0, f1, f2, f3, f4⟩
  ·exact ⟨fun hz => by have := hZ b hz; omega, .inl (by omega)⟩
  ·obtain ⟨_, q2, q3⟩ := R.own r s0 b o0 f1 f2 (.inl f4)
   exact ⟨q2, q3⟩
theorem Qu4 {rows : Rows} {r : Nat} {s s' : RowS} (h0 : rows 0 = none) (hr : rows r = some s) (hl : s.live) (hk : Kin s s') (hlt : s.ver < s'.ver)
  (hsz : w'.heap.size = w.heap.size) (heap : ∀ c, (∀ o, pl.loc r ≠ some (c, o)) → w'.heap[c]? = w.heap[c]?)
  (blk : ∀ (b : Nat) (arr : Array Value) (T : TypeId) (fr : Nat × Nat), w.heap[b]? = some (Obj.cells arr T fr) → ∃ (arr' : Array Value) (T' : TypeId) (fr' : Nat × Nat), w'.heap[b]? = some (Obj.cells arr' T' fr') ∧ arr'.size = arr.size) :
  Step w pl rows w' pl (upd rows r (some s')) := by
 refine Step.mk0 rfl rfl (by omega) (fun x s0 hx => ?_) (fun _ _ => rfl) (fun x s1 h1 h2 _ b h3 => ?_) (fun x s1 h1 h2 _ b o h3 => ?_) (fun c hc h => ?_) blk h0
 ·rw [Q8]
  by_cases e : x = r
  ·subst e
   rw [hr] at hx
   obtain rfl := oi hx
   rw [if_pos rfl]
   exact ⟨s', rfl, hk, fun _ => rfl⟩
  ·rw [if_neg e]; exact ⟨s0, hx, Kin.refl s0, fun _ => rfl⟩
 ·rw [Q8] at h2
  by_cases e : x = r
  ·subst e; rw [hr] at h1; cases h1
  ·rw [if_neg e, h1] at h2; cases h2
 ·rw [Q8] at h2
  by_cases e : x = r
  ·subst e; rw [hr] at h1; cases h1
  ·rw [if_neg e, h1] at h2; cases h2
 ·refine heap c fun o hloc => ?_
  have := h r s o hr hl (.inl hloc)
  rw [Q8, if_pos rfl] at this
  obtain rfl := oi this
  omega
theorem Rel.write (R : Rel B G pl σ a w) (hn : nt ≤ a.tmps.size) {r : Nat} {s s' : RowS} (hr : σ.rows r = some s) (hl : s.live) (hk : Kin s s') (hlt : s.ver < s'.ver)
  (hsz : w'.heap.size = w.heap.size) (heap : ∀ c, (∀ o, pl.loc r ≠ some (c, o)) → w'.heap[c]? = w.heap[c]?)
  (blk : ∀ (b : Nat) (arr : Array Value) (T : TypeId) (fr : Nat × Nat), w.heap[b]? = some (Obj.cells arr T fr) → ∃ (arr' : Array Value) (T' : TypeId) (fr' : Nat × Nat), w'.heap[b]? = some (Obj.cells arr' T' fr') ∧ arr'.size = arr.size)
  (hrow : Step w pl σ.rows w' pl (upd σ.rows r (some s')) → RowR w' pl (upd σ.rows r (some s')) r s')
  {dst : Option Nat} {ov : Option PV} {u : Value}
  (hv : Step w pl σ.rows w' pl (upd σ.rows r (some s')) → (∀ v, ov = some v → Men (upd σ.rows r (some s')) v ∧ (okPV (upd σ.rows r (some s')) v = true → VR w' pl (upd σ.rows r (some s')) v u)) ∧ (ov = none → u = undef)) :
  Step w pl σ.rows w' pl (upd σ.rows r (some s')) ∧ Rel B G pl ⟨putDst nt σ.env dst ov, upd σ.rows r (some s')⟩ (a.put dst u) w' := by
 have S := Qu4 (s' := s') R.zero hr hl hk hlt hsz heap blk
 refine ⟨S, ?_⟩
 have hold : ∀ {x : Nat} {s1 : RowS}, upd σ.rows r (some s') x = some s1 → σ.rows x ≠ none := by
  intro x s1 h
  rw [Q8] at h
  by_cases e : x = r
  ·subst e; rw [hr]; simp
  ·rw [if_neg e] at h; rw [h]; simp
 refine R.step S (fun _ _ => rfl) (fun x s1 h1 h2 _ => absurd h1 (hold h2)) ((Q3m a dst u).trans R.defers) (Qb5 R hn (hv S)) ?_ ?_ ?_ ?_ ?_
 ·intro x s1 h hne
  rw [Q8] at h
  by_cases e : x = r
  ·subst e
   rw [if_pos rfl] at h
   obtain rfl := oi h
   exact hrow S
  ·rw [if_neg e] at h; exact absurd h hne
 ·rw [Q8]
  by_cases e : 0 = r
  ·subst e; rw [R.zero] at hr; cases hr
  ·rw [if_neg e]; exact R.zero
 ·intro _ _ _ _ _ _ _ _ _ h2 _ _ _ _ h6
  exact absurd h6 (hold h2)
 ·intro _ _ _ _ _ _ _ h1 _ _ _ _ _ h5 _
  exact absurd h5 (hold h1)
 ·intro _ _ _ _ h1 _ _ h3
  exact absurd h3 (hold h1)
theorem Q6i (w : World) (o : Obj) (b : Nat) (h : b < w.heap.size) : (w.alloc o).heap[b]? = w.heap[b]? := by
 show (w.heap.push o)[b]? = _
 rw [Array.getElem?_push, if_neg (by omega)]
theorem Q8z (w : World) (o : Obj) : (w.alloc o).heap[w.heap.size]? = some o := by
 show (w.heap.push o)[w.heap.size]? = _
 simp
theorem Qqg {w w' : World} (hsz : ∀ b, b < w.heap.size → w'.heap[b]? = w.heap[b]?) : ∀ (b : Nat) (arr : Array Value) (T : TypeId) (fr : Nat × Nat), w.heap[b]? = some (Obj.cells arr T fr) → ∃ (arr' : Array Value) (T' : TypeId) (fr' : Nat × Nat), w'.heap[b]? = some (Obj.cells arr' T' fr') ∧ arr'.size = arr.size := by
 intro b arr Te fr h
 obtain ⟨hb, _⟩ := Array.getElem?_eq_some_iff.1 h
 exact ⟨arr, Te, fr, (hsz b hb).trans h, rfl⟩
theorem Qsp (R : Rel B G pl σ a w) (hn : nt ≤ a.tmps.size) (hZ : ∀ b, pl.Z b → b < B) (hB : B ≤ w.heap.size) {key : Nat} (hk : σ.rows key = none) (h0 : key ≠ 0) {o : Oper} {l : List PV} {cs : Array Value} {t : TypeId}
  (hv : VRs w pl σ.rows l cs.toList) (hm : Mens σ.rows l) (h1 : ∀ u ∈ cs.toList, u.oneCell' = true)
  (hrun : (execOp a.eval o).run P w = .ok (.value (.pointer (some ⟨w.heap.size, 0, none⟩))) (w.alloc (.cells cs t))) :
  Goes P B nt G pl σ a w o ⟨true, some (.ptr key 0), [(key, ⟨0, .vars l⟩)]⟩ := by
 have hold := fun b hb => Q6i w (.cells cs t) b hb
 obtain ⟨S, Q⟩ := R.grow (w' := w.alloc (.cells cs t)) (rows1 := σ.rows) (s := ⟨0, .vars l⟩) (kl := some (w.heap.size, 0)) (dst := o.dst) (ov := some (.ptr key 0)) (u := .pointer (some ⟨w.heap.size, 0, none⟩)) hn hZ hB hk h0 (Wane.refl _) (by simp)
  (fun b hb => .inl (hold b hb)) (Qqg hold) (fun b o h => by cases h; exact ⟨by simp, .inl (Nat.le_refl _)⟩)
  (fun S => by
   refine ⟨S.mens hm, w.heap.size, cs, t, (0, 0), by rw [Q1j, if_pos rfl], Q8z w _, by simpa using Q27 hv, .inl rfl, fun j x hx => ?_⟩
   obtain ⟨u, g1, g2⟩ := Q2s hv j x hx
   exact ⟨u, by simpa using g1, h1 u (List.mem_of_getElem? g1), fun hok => S.vr (Qq hm x (List.mem_of_getElem? hx)) hok (fun _ => g2)⟩)
  (fun S => by
   refine ⟨fun v e => ?_, fun e => by cases e⟩
   obtain rfl := oi e
   refine ⟨by simp [Men, Q8], fun _ => ⟨⟨rfl, ⟨_, rfl⟩, fun n i p kt vt bx l' tk hr => (by rw [Q8, if_pos rfl] at hr; cases hr)⟩, fun n l' hr => ⟨w.heap.size, by rw [Q1j, if_pos rfl], rfl⟩⟩⟩)
 exact ⟨_, _, _, .inl hrun, S, ⟨rfl, rfl, rfl⟩, Q⟩
theorem Q16s {o : Oper} {t : Nat} {out : Out} {key : Nat} (hT : TTok P T) (R : Rel B G pl σ a w) (hn : nt ≤ a.tmps.size) (hZ : ∀ b, pl.Z b → b < B) (hB : B ≤ w.heap.size) (hk : σ.rows key = none) (h0 : key ≠ 0) (ho : o.op = .alloc t)
  (h : opOut T key o.op (look σ) σ.rows = some out) : Goes P B nt G pl σ a w o out := by
 rw [ho] at h
 simp only [opOut] at h
 split at h
 ·rename_i i hi
  split at h
  ·rename_i hz
   obtain rfl := oi h
   obtain ⟨x, z, f1, f2, f3, f4, f5⟩ := (hT _ _ hi).infos
   obtain ⟨q1, q2, q3⟩ := Qdx w pl σ.rows hz
   refine Qsp (cs := z.cells) (t := t) R hn hZ hB hk h0 (by rw [f5]; exact q1) q2 (by rw [f5]; exact q3) ?_
   have e : execOp a.eval o = (do let v ← Instr.alloc t true (.tuple #[]); pure (.value v)) := by simp only [execOp, ho]
   rw [e]
   simp [Instr.alloc, zeroValue, typeInfo, f1, f4, newVar, newRow]
  ·cases h
 ·cases h
theorem Q1if {o : Oper} {t : Nat} {x : Operand} {out : Out} {key : Nat} (R : Rel B G pl σ a w) (hn : nt ≤ a.tmps.size) (hZ : ∀ b, pl.Z b → b < B) (hB : B ≤ w.heap.size) (hk : σ.rows key = none) (h0 : key ≠ 0) (ho : o.op = .box t x)
  (h : opOut T key o.op (look σ) σ.rows = some out) : Goes P B nt G pl σ a w o out := by
 rw [ho] at h
 simp only [opOut] at h
 split at h
 ·rename_i i v hi hx
  split at h
  ·rename_i vs hvs
   split at h
   ·obtain rfl := oi h
    obtain ⟨g1, g2, g3⟩ := R.look hx
    obtain ⟨f1, f2⟩ := Q8q g2 hvs
    refine Qsp (cs := (a.eval x).cells) (t := t) R hn hZ hB hk h0 f1 (Q3o g1 hvs) f2 ?_
    have e : execOp a.eval o = (do let v ← Instr.box t (a.eval x); pure (.value v)) := by simp only [execOp, ho]
    rw [e]
    simp [Instr.box, newVar, newRow]
   ·cases h
  ·cases h
 ·cases h
theorem Qix (R : Rel B G pl σ a w) (hn : nt ≤ a.tmps.size) (hZ : ∀ b, pl.Z b → b < B) (hB : B ≤ w.heap.size) {key : Nat} (hk : σ.rows key = none) (h0 : key ≠ 0) {rows1 : Rows} (hw : Wane σ.rows rows1)
  {ty : Ty} {l : List ty.D} {p : Prov} {cs : Array Value} {t : TypeId} {fr : Nat × Nat} {cap : Nat} (hp : ProvIn σ.rows p)
  (hsz : w'.heap.size = w.heap.size + 1) (hold : ∀ b, b < w.heap.size → w'.heap[b]? = w.heap[b]?) (hnew : w'.heap[w.heap.size]? = some (.cells cs t fr)) (hfr : Q2y ty fr cs.size)
  (hc : ∀ (i : Nat) (x : ty.D), l[i]? = some x → ∃ es, RD w (Safe w pl σ.rows p) ty x es ∧ ∀ (j : Nat) (v : Value), es[j]? = some v → cs[i * ty.size + j]? = some v)
  (hcap : l.length ≤ cap) (hfit : cap * ty.size ≤ cs.size) (hc63 : cap ≤ 9223372036854775807) (dst : Option Nat) :
  ∃ pl', Step w pl σ.rows w' pl' (upd rows1 key (some ⟨0, .arr p ty l⟩)) ∧
    Rel B G pl' ⟨putDst nt σ.env dst (some (.rw key)), upd rows1 key (some ⟨0, .arr p ty l⟩)⟩ (a.put dst (.slice (some ⟨w.heap.size, 0, none⟩) l.length cap)) w' := by
 have hlen : l.length * ty.size ≤ cs.size := Nat.le_trans (Nat.mul_le_mul_right _ hcap) hfit
 refine ⟨pl.put key (some (w.heap.size, 0)), R.grow (w' := w') (rows1 := rows1) (s := ⟨0, .arr p ty l⟩) (kl := some (w.heap.size, 0)) (dst := dst) (ov := some (.rw key)) hn hZ hB hk h0 hw (by omega)
  (fun b hb => .inl (hold b hb)) (Qqg hold) (fun b o h => by cases h; exact ⟨by omega, .inl (Nat.le_refl _)⟩) (fun S => ?_) (fun S => ?_)⟩
 ·refine ⟨S.provIn hp, ?_⟩
  rw [Q1j, if_pos rfl]
  refine ⟨cs, t, fr, hnew, by omega, hfr, fun hok i x hx => ?_⟩
  obtain ⟨es, g1, g2⟩ := hc i x hx
  refine ⟨es, S.rd hp hok g1, fun j v hj => ?_⟩
  rw [Q1a]
  simp only [World.cell?, hnew, Nat.zero_add]
  simpa using g2 j v hj
 ·refine ⟨fun v e => ?_, fun e => by cases e⟩
  obtain rfl := oi e
  refine ⟨by simp [Men, Q8], fun _ => ⟨⟨rfl, fun n p kt vt bx l' tk hr => (by rw [Q8, if_pos rfl] at hr; cases hr)⟩, fun n p' t' l' hr => ?_⟩⟩
  rw [Q8, if_pos rfl] at hr
  cases hr
  refine ⟨_, _, rfl, hcap, fun hc => ⟨w.heap.size, 0, by rw [Q1j, if_pos rfl], by simp, cs, t, fr, hnew, by simpa using hfit, hc63⟩⟩
theorem Q143 (z : Array Value) (n i j : Nat) (v : Value) (hj : z[j]? = some v) (hi : i * z.size + j < n) : (madeCells z n)[i * z.size + j]? = some v := by
 obtain ⟨h1, h2⟩ := Array.getElem?_eq_some_iff.1 hj
 have hm : (i * z.size + j) % z.size = j := by rw [Nat.add_comm, Nat.add_mul_mod_self_right]; exact Nat.mod_eq_of_lt h1
 simp [madeCells, hi, hm, h1, h2]
theorem Q66 {t : Nat} {i : TI} {ty : Ty} (hi : TIok P t i) (hty : i.ty = some ty) : ∃ x z, P.info? t = some x ∧ x.size = ty.size ∧ x.bytes = i.bytes ∧ x.zero = some z ∧ z.cells.toList = zeroCells ty ∧ z.cells.size = ty.size := by
 obtain ⟨x, z, f1, f2, f3, f4, f5⟩ := hi.infos
 obtain ⟨e1, e2⟩ := hi.ty ty hty
 refine ⟨x, z, f1, by omega, f3, f4, by rw [f5, e2], ?_⟩
 have := Q37 (Qy default (fun _ => True) ty)
 rw [← e2, ← f5] at this
 simpa using this
theorem Qot (b : Nat) (m : Int) (h : m ≤ ((LIM b : Nat) : Int)) : (b : Int) * m ≤ 140737488355328 ∧ m ≤ 9223372036854775807 := by
 have hb : LIM b * b ≤ 140737488355328 := Nat.div_mul_le_self _ _
 have h3 : LIM b ≤ 140737488355328 := Nat.div_le_self _ _
 generalize LIM b = L at *
 have h1 : (b : Int) * m ≤ (b : Int) * (L : Int) := Int.mul_le_mul_of_nonneg_left h (by omega)
 have h2 : (b : Int) * (L : Int) ≤ 140737488355328 := by
  have h4 := Int.ofNat_le.2 hb
  rw [Int.natCast_mul] at h4
  rw [Int.mul_comm]; exact h4
 exact ⟨Int.le_trans h1 h2, by omega⟩
theorem Qm3 {o : Oper} {t : Nat} {x y : Operand} {out : Out} {key : Nat} (hT : TTok P T) (R : Rel B G pl σ a w) (hn : nt ≤ a.tmps.size) (hZ : ∀ b, pl.Z b → b < B) (hB : B ≤ w.heap.size) (hk : σ.rows key = none) (h0 : key ≠ 0) (ho : o.op = .makeSlice t x y)
  (h : opOut T key o.op (look σ) σ.rows = some out) (hok : out.ok = true) : Goes P B nt G pl σ a w o out := by
 rw [ho] at h
 simp only [opOut] at h
 split at h
 ·rename_i e i ty p k n q k' m he hx hy
  obtain rfl := oi h
  simp only [Bool.and_eq_true, decide_eq_true_eq] at hok
  obtain ⟨c1, c2, c3⟩ := hok
  replace c1 : (0 : Int) ≤ n := c1
  replace c2 : (n : Int) ≤ m := c2
  replace c3 : (m : Int) ≤ ((LIM i.bytes : Nat) : Int) := c3
  obtain ⟨k1, k2, k3, k4⟩ := Q1r hT he
  obtain ⟨_, g1, _⟩ := R.look hx
  obtain ⟨_, g2, _⟩ := R.look hy
  obtain ⟨f0, z, f1, f2, f3, f4, f5, f6⟩ := Q66 (hT _ _ k2) k3
  obtain ⟨hmul, h63⟩ := Qot i.bytes m c3
  have hnm : Int.toNat n ≤ Int.toNat m := Int.toNat_le_toNat c2
  have hr := run_make (P := P) w t e f0 z k1 f1 f4 k k' n m c1 c2 (by rw [f3]; exact Int.le_trans hmul (by decide)) h63
  obtain ⟨pl', S, Q⟩ := Qix (w' := w.alloc (.cells (madeCells z.cells (m.toNat * f0.size)) e)) (ty := ty) (l := List.replicate n.toNat ty.zero) (p := []) (cap := m.toNat) R hn hZ hB hk h0 (Wane.refl _) (Qa _) (by simp)
   (fun b hb => Q6i w _ b hb) (Q8z w _) (.inl rfl)
   (fun i x hx => by
    refine ⟨zeroCells ty, ?_, fun j v hj => ?_⟩
    ·have : x = ty.zero := (List.mem_replicate.1 (List.mem_of_getElem? hx)).2
     rw [this]; exact Qy _ _ _
    ·have hj' : z.cells[j]? = some v := by rw [← Array.getElem?_toList, f5]; exact hj
     obtain ⟨q1, _⟩ := Array.getElem?_eq_some_iff.1 hj'
     obtain ⟨q2, _⟩ := List.getElem?_eq_some_iff.1 hx
     have q3 : i < Int.toNat m := by rw [List.length_replicate] at q2; exact Nat.lt_of_lt_of_le q2 hnm
     rw [← f6]
     refine Q143 _ _ _ _ _ hj' ?_
     rw [f2, f6]
     rw [f6] at q1
     calc i * ty.size + j < i * ty.size + ty.size := by omega
      _ = (i + 1) * ty.size := by rw [Nat.add_mul, Nat.one_mul]
      _ ≤ m.toNat * ty.size := Nat.mul_le_mul_right _ q3)
   (by rw [List.length_replicate]; exact hnm) (by rw [size_madeCells, f2]; exact Nat.le_refl _) (by omega) o.dst
  refine ⟨pl', _, _, .inl ?_, S, ⟨rfl, rfl, rfl⟩, Q⟩
  have e : execOp a.eval o = (do let v ← Instr.makeSlice t (a.eval x) (a.eval y); pure (.value v)) := by simp only [execOp, ho]
  rw [e, isInt g1, isInt g2]
  simp [hr]
 ·cases h
end
def Laid (w : World) (S : Nat → Prop) (ty : Ty) (l : List ty.D) (arr : List Value) : Prop :=
 ∀ (i : Nat) (x : ty.D), l[i]? = some x → ∃ es, RD w S ty x es ∧ ∀ (j : Nat) (v : Value), es[j]? = some v → arr[i * ty.size + j]? = some v
section
variable {w : World} {S S' : Nat → Prop} {ty : Ty}
theorem Qv {α : Type} (l vs : List α) (off : Nat) (h : off + vs.length ≤ l.length) (k : Nat) :
  (l.take off ++ vs ++ l.drop (off + vs.length))[k]? = if off ≤ k ∧ k < off + vs.length then vs[k - off]? else l[k]? := by
 by_cases h1 : k < off
 ·rw [if_neg (by omega), List.append_assoc, List.getElem?_append_left (by simp; omega), List.getElem?_take, if_pos h1]
 ·by_cases h2 : k < off + vs.length
  ·rw [if_pos ⟨by omega, h2⟩, List.append_assoc, List.getElem?_append_right (by simp; omega), List.getElem?_append_left (by simp; omega)]
   simp; congr 1; omega
  ·rw [if_neg (by omega), List.getElem?_append_right (by simp; omega), List.getElem?_drop]
   simp; congr 1; omega
theorem Laid.nil (w : World) (S : Nat → Prop) (ty : Ty) (arr : List Value) : Laid w S ty [] arr := fun i x h => by simp at h
theorem Laid.mono (hS : ∀ b, S b → S' b) {l : List ty.D} {arr : List Value} (h : Laid w S ty l arr) : Laid w S' ty l arr := fun i x hx => by
 obtain ⟨es, g1, g2⟩ := h i x hx
 exact ⟨es, Qn hS (fun _ _ => rfl) g1, g2⟩
theorem Qfr {i n sz j : Nat} (hi : i < n) (hj : j < sz) : i * sz + j < n * sz :=
 calc i * sz + j < i * sz + sz := by omega
  _ = (i + 1) * sz := by rw [Nat.add_mul, Nat.one_mul]
  _ ≤ n * sz := Nat.mul_le_mul_right _ hi
theorem Q1ac {i k sz j m : Nat} (h : i ≠ k) (hj : j < sz) (hm : m < sz) : i * sz + j ≠ k * sz + m := by
 intro e
 rcases Nat.lt_or_gt_of_ne h with h | h
 ·have := Qfr (sz := sz) h hj; omega
 ·have := Qfr (sz := sz) h hm; omega
theorem Laid.set {l : List ty.D} {arr : List Value} (h : Laid w S ty l arr) (hlen : arr.length = l.length * ty.size) {k : Nat} (hk : k < l.length) {y : ty.D} {es : List Value} (hy : RD w S ty y es) :
  Laid w S ty (l.set k y) (arr.take (k * ty.size) ++ es ++ arr.drop (k * ty.size + es.length)) := by
 have hes := Q37 hy
 have hle : k * ty.size + es.length ≤ arr.length := by
  rw [hlen, hes]
  calc k * ty.size + ty.size = (k + 1) * ty.size := by rw [Nat.add_mul, Nat.one_mul]
   _ ≤ l.length * ty.size := Nat.mul_le_mul_right _ hk
 intro i x hx
 rw [List.getElem?_set] at hx
 by_cases e : k = i
 ·subst e
  rw [if_pos rfl, if_pos hk] at hx
  obtain rfl := oi hx
  refine ⟨es, hy, fun j v hj => ?_⟩
  obtain ⟨hj1, _⟩ := List.getElem?_eq_some_iff.1 hj
  rw [Qv _ _ _ hle, if_pos ⟨by omega, by omega⟩]
  rwa [Nat.add_sub_cancel_left]
 ·rw [if_neg e] at hx
  obtain ⟨fs, g1, g2⟩ := h i x hx
  refine ⟨fs, g1, fun j v hj => ?_⟩
  obtain ⟨hj1, _⟩ := List.getElem?_eq_some_iff.1 hj
  rw [Qv _ _ _ hle, if_neg ?_]
  ·exact g2 j v hj
  ·rintro ⟨q1, q2⟩
   have hfs := Q37 g1
   have := Q1ac (sz := ty.size) (j := j) (m := i * ty.size + j - k * ty.size) (Ne.symm e) (by omega) (by omega)
   omega
theorem Laid.append {l1 l2 : List ty.D} {a1 a2 : List Value} (h1 : Laid w S ty l1 a1) (hlen : a1.length = l1.length * ty.size) (h2 : Laid w S ty l2 a2) : Laid w S ty (l1 ++ l2) (a1 ++ a2) := by
 intro i x hx
 by_cases hi : i < l1.length
 ·rw [List.getElem?_append_left hi] at hx
  obtain ⟨es, g1, g2⟩ := h1 i x hx
  refine ⟨es, g1, fun j v hj => ?_⟩
  have := g2 j v hj
  obtain ⟨q, _⟩ := List.getElem?_eq_some_iff.1 this
  rw [List.getElem?_append_left q]; exact this
 ·rw [List.getElem?_append_right (by omega)] at hx
  obtain ⟨es, g1, g2⟩ := h2 _ x hx
  refine ⟨es, g1, fun j v hj => ?_⟩
  have hm : l1.length * ty.size ≤ i * ty.size := Nat.mul_le_mul_right _ (by omega)
  rw [List.getElem?_append_right (by omega)]
  have := g2 j v hj
  rw [Nat.sub_mul] at this
  rw [hlen, show i * ty.size + j - l1.length * ty.size = i * ty.size - l1.length * ty.size + j by omega]
  exact this
theorem Laid.more {l : List ty.D} {a1 a2 : List Value} (h : Laid w S ty l a1) : Laid w S ty l (a1 ++ a2) := fun i x hx => by
 obtain ⟨es, g1, g2⟩ := h i x hx
 refine ⟨es, g1, fun j v hj => ?_⟩
 have := g2 j v hj
 obtain ⟨q, _⟩ := List.getElem?_eq_some_iff.1 this
 rw [List.getElem?_append_left q]; exact this
theorem Qck {z : Array Value} (hz : z.toList = zeroCells ty) (n : Nat) : Laid w S ty (List.replicate n ty.zero) (madeCells z (n * ty.size)).toList := by
 intro i x hx
 have hsz : z.size = ty.size := by
  have := Q37 (Qy default (fun _ => True) ty)
  rw [← hz] at this; simpa using this
 refine ⟨zeroCells ty, ?_, fun j v hj => ?_⟩
 ·have : x = ty.zero := (List.mem_replicate.1 (List.mem_of_getElem? hx)).2
  rw [this]; exact Qy _ _ _
 ·have hj' : z[j]? = some v := by rw [← Array.getElem?_toList, hz]; exact hj
  obtain ⟨q1, _⟩ := Array.getElem?_eq_some_iff.1 hj'
  obtain ⟨q2, _⟩ := List.getElem?_eq_some_iff.1 hx
  rw [List.length_replicate] at q2
  rw [Array.getElem?_toList, ← hsz]
  exact Q143 _ _ _ _ _ hj' (by rw [hsz]; exact Qfr q2 (by omega))
theorem Qfe {ad : Addr} : ∀ {l : List ty.D}, (∀ (i : Nat) (x : ty.D), l[i]? = some x → ∃ es, RD w S ty x es ∧ Q1e w (ad.add (i * ty.size)) es) →
  ∃ arr : List Value, arr.length = l.length * ty.size ∧ Laid w S ty l arr ∧ (∀ (j : Nat) (v : Value), arr[j]? = some v → w.cell? (ad.add j) = some v) ∧ ∀ v ∈ arr, v.oneCell' = true := by
 intro l
 induction l generalizing ad with
 | nil => intro _; exact ⟨[], by simp, Laid.nil _ _ _ _, fun j v h => by simp at h, fun v h => by cases h⟩
 | cons x l ih =>
   intro h
   obtain ⟨es, g1, g2⟩ := h 0 x rfl
   obtain ⟨arr, f1, f2, f3, f4⟩ := ih (ad := ad.add ty.size) fun i y hy => by
    obtain ⟨fs, q1, q2⟩ := h (i + 1) y (by simpa using hy)
    refine ⟨fs, q1, ?_⟩
    rw [Addr.add_add]
    rw [Nat.add_mul, Nat.one_mul, Nat.add_comm] at q2
    exact q2
   have hes := Q37 g1
   refine ⟨es ++ arr, by simp [hes, f1, Nat.add_mul]; omega, ?_, fun j v hj => ?_, fun v hv => ?_⟩
   ·refine Laid.append (l1 := [x]) ?_ (by simpa using hes) f2
    intro i y hy
    cases i with
    | zero => simp at hy; subst hy; exact ⟨es, g1, fun j v hj => by simpa using hj⟩
    | succ i => simp at hy
   ·by_cases hj' : j < es.length
    ·rw [List.getElem?_append_left hj'] at hj
     have := g2 j v hj
     rwa [Addr.add_add, Nat.zero_mul, Nat.zero_add] at this
    ·rw [List.getElem?_append_right (by omega)] at hj
     have := f3 _ v hj
     rwa [Addr.add_add, hes, show ty.size + (j - ty.size) = j by omega] at this
   ·rcases List.mem_append.1 hv with hv | hv
    ·exact Q9o g1 v hv
    ·exact f4 v hv
end
section
variable {P : Program} {B nt : Nat} {G : Nat → Prop} {pl pl' : Pl} {σ : St} {a : Act} {w w' : World} {T : TT}
theorem Qln {rows : Rows} {t : Ty} {v : PV} {x : t.D} {u : Value} (h : leafOf t v = some x) (hv : VR w pl rows v u) : RD w (Safe w pl rows (provOf v)) t x [u] := by
 unfold leafOf at h
 split at h
 ·split at h
  ·rename_i ht
   subst ht
   obtain rfl := oi h
   exact hv
  ·cases h
 ·split at h
  ·obtain rfl := oi h
   have hv' : u = .slice none 0 0 := hv
   subst hv'
   exact ⟨none, 0, rfl, Nat.le_refl _, fun h => absurd rfl h⟩
  ·cases h
 ·cases h
theorem Q8b {rows : Rows} {p : Prov} : ∀ {t : Ty} {l r : List PV} {x : t.D} {us : List Value}, Q14 t l = some (x, r) → VRs w pl rows l us → (∀ v ∈ l, ∀ q ∈ provOf v, q ∈ p) →
  ∃ es rs, us = es ++ rs ∧ RD w (Safe w pl rows p) t x es ∧ VRs w pl rows r rs ∧ (∀ v ∈ r, v ∈ l) := by
 intro t
 have leaf : ∀ {t : Ty} {v : PV} {l r : List PV} {x : t.D} {us : List Value}, ((leafOf t v).map fun x => (x, l)) = some (x, r) → VRs w pl rows (v :: l) us → (∀ v' ∈ v :: l, ∀ q ∈ provOf v', q ∈ p) →
   ∃ es rs, us = es ++ rs ∧ RD w (Safe w pl rows p) t x es ∧ VRs w pl rows r rs ∧ (∀ v' ∈ r, v' ∈ v :: l) := by
  intro t v l r x us h hv hp
  obtain ⟨y, h1, h2⟩ := Option.map_eq_some_iff.1 h
  cases h2
  obtain ⟨u, us', rfl, g1, g2⟩ := hv
  exact ⟨[u], us', rfl, Q1z (hp v List.mem_cons_self) (Qln h1 g1), g2, fun v' hv' => List.mem_cons_of_mem _ hv'⟩
 induction t with
 | int k => intro l r x us h hv hp; cases l with
   | nil => cases h
   | cons v l => exact leaf h hv hp
 | bool => intro l r x us h hv hp; cases l with
   | nil => cases h
   | cons v l => exact leaf h hv hp
 | str => intro l r x us h hv hp; cases l with
   | nil => cases h
   | cons v l => exact leaf h hv hp
 | slice t ih => intro l r x us h hv hp; cases l with
   | nil => cases h
   | cons v l => exact leaf h hv hp
 | unit => 
   intro l r x us h hv hp
   have h' : l = r := by cases l <;> simp [Q14] at h <;> first | exact h | exact h.symm
   subst h'
   exact ⟨[], us, rfl, rfl, hv, fun v hv => hv⟩
 | prod t1 t2 ih1 ih2 =>
   intro l r x us h hv hp
   have h' : (match Q14 t1 l with | some (x, l1) => (match Q14 t2 l1 with | some (y, l2) => some ((x, y), l2) | none => none) | none => none) = some (x, r) := by
    cases l <;> exact h
   split at h'
   ·rename_i y1 l1 e1
    split at h'
    ·rename_i y2 l2 e2
     simp only [Option.some.injEq, Prod.mk.injEq] at h'
     obtain ⟨rfl, rfl⟩ := h'
     obtain ⟨es, rs, rfl, f1, f2, f3⟩ := ih1 e1 hv hp
     obtain ⟨es2, rs2, rfl, f4, f5, f6⟩ := ih2 e2 f2 fun v hv => hp v (f3 v hv)
     exact ⟨es ++ es2, rs2, by rw [List.append_assoc], ⟨es, es2, rfl, f1, f4⟩, f5, fun v hv => f3 v (f6 v hv)⟩
    ·cases h'
   ·cases h'
theorem Q65 (R : Rel B G pl σ a w) : ∀ {vs cs : List PV} {us : List Value}, toVals σ.rows vs = some cs → Mens σ.rows vs → okPV.okAll σ.rows vs = true → VRs w pl σ.rows vs us →
  Mens σ.rows cs ∧ okPV.okAll σ.rows cs = true ∧ VRs w pl σ.rows cs us ∧ cs.length = vs.length
 | [], cs, us, h, hm, hk, hv => by
   obtain rfl := oi h
   exact ⟨hm, hk, hv, rfl⟩
 | v :: vs, cs, us, h, hm, hk, hv => by
   simp only [toVals] at h
   simp only [okPV.okAll, Bool.and_eq_true] at hk
   split at h
   ·rename_i x hx
    split at h
    ·rename_i y hy
     obtain rfl := oi h
     obtain ⟨u, us', rfl, g1, g2⟩ := hv
     obtain ⟨f1, f2, f3⟩ := Q19 R hm.1 hk.1 g1 hx
     obtain ⟨q1, q2, q3, q4⟩ := Q65 R hy hm.2 hk.2 g2
     exact ⟨⟨f1, q1⟩, by simp only [okPV.okAll, f2, q2, Bool.and_self], ⟨u, us', rfl, f3, q3⟩, by simp [q4]⟩
    ·cases h
   ·cases h
theorem Q7e {rows : Rows} : ∀ {l : List PV}, Mens rows l → ProvIn rows (l.flatMap provOf)
 | [], _ => Qa rows
 | v :: l, h => by
   rw [List.flatMap_cons]
   refine ProvIn.append ?_ (Q7e h.2)
   have := h.1
   cases v <;> first | exact this | exact Qa rows
theorem Qcs {rows : Rows} : ∀ {l : List PV}, okPV.okAll rows l = true → okProv rows (l.flatMap provOf) = true
 | [], _ => rfl
 | v :: l, h => by
   simp only [okPV.okAll, Bool.and_eq_true] at h
   rw [List.flatMap_cons]
   refine Qct ?_ (Qcs h.2)
   have := h.1
   cases v <;> first | exact this | rfl
theorem Qtf (R : Rel B G pl σ a w) {v : PV} {u : Value} {vs cs : List PV} {ty : Ty} {y : ty.D} (hm : Men σ.rows v) (hk : okPV σ.rows v = true) (hv : VR w pl σ.rows v u) (h1 : cells v = some vs) (h2 : toVals σ.rows vs = some cs)
  (h3 : Q14 ty cs = some (y, [])) :
  RD w (Safe w pl σ.rows (cs.flatMap provOf)) ty y u.cells.toList ∧ ProvIn σ.rows (cs.flatMap provOf) ∧ okProv σ.rows (cs.flatMap provOf) = true := by
 obtain ⟨f1, f2⟩ := Q8q hv h1
 obtain ⟨q1, q2, q3, _⟩ := Q65 R h2 (Q3o hm h1) (Qsr hk h1) f1
 obtain ⟨es, rs, e1, e2, e3, _⟩ := Q8b (p := cs.flatMap provOf) h3 q3 fun v hv q hq => List.mem_flatMap.2 ⟨v, hv, hq⟩
 have e3' : rs = [] := e3
 subst e3'
 rw [e1, List.append_nil]
 exact ⟨e2, Q7e q1, Qcs q2⟩
theorem Q8i (R : Rel B G pl σ a w) {ty : Ty} {n : Nat} : ∀ {ps : List (Nat × Operand)} {p : Prov} {xs : List (Nat × ty.D)}, Qcw σ.rows ty (look σ) ps = some (p, xs) → ps.all (fun q => decide (q.1 < n)) = true →
  ProvIn σ.rows p ∧ ∀ {q : Prov} {l : List ty.D} {cs : Array Value}, (∀ x ∈ p, x ∈ q) → l.length = n → cs.size = n * ty.size → Laid w (Safe w pl σ.rows q) ty l cs.toList →
   ∃ cs', Instr.fill (fun i => some (i * ty.size, ty.size)) cs (ps.map fun x => (x.1, a.eval x.2)) = some cs' ∧ Laid w (Safe w pl σ.rows q) ty (Q89 xs l) cs'.toList ∧ cs'.size = n * ty.size ∧ (Q89 xs l).length = n
 | [], p, xs, h, _ => by
   simp only [Qcw, Option.some.injEq, Prod.mk.injEq] at h
   obtain ⟨rfl, rfl⟩ := h
   exact ⟨Qa _, fun {q l cs} _ hl hc hd => ⟨cs, rfl, hd, hc, hl⟩⟩
 | (i, x) :: ps, p, xs, h, hn => by
   simp only [Qcw] at h
   simp only [List.all_cons, Bool.and_eq_true, decide_eq_true_eq] at hn
   split at h
   ·rename_i v hx
    split at h
    ·rename_i vs hvs
     split at h
     ·rename_i cs hcs
      split at h
      ·rename_i y hy
       split at h
       ·rename_i p' l' hps
        simp only [Option.some.injEq, Prod.mk.injEq] at h
        obtain ⟨rfl, rfl⟩ := h
        obtain ⟨g1, g2, g3⟩ := R.look hx
        obtain ⟨e1, e2, _⟩ := Qtf R g1 g3 g2 hvs hcs hy
        obtain ⟨f1, f2⟩ := Q8i R hps hn.2
        refine ⟨ProvIn.append e2 f1, fun {q l arr} hq hl hc hd => ?_⟩
        have e1' := Q1z (fun z hz => hq z (List.mem_append_left _ hz)) e1
        have hsz : (a.eval x).cells.size = ty.size := by
         have := Q37 e1; simpa using this
        have hle : i * ty.size + ty.size ≤ arr.size := by
         rw [hc]
         calc i * ty.size + ty.size = (i + 1) * ty.size := by rw [Nat.add_mul, Nat.one_mul]
          _ ≤ n * ty.size := Nat.mul_le_mul_right _ hn.1
        have hd' := hd.set (by simp [hc, hl]) (k := i) (by omega) e1'
        rw [List.map_cons, Qsc rfl hsz hle]
        refine f2 (fun z hz => hq z (List.mem_append_right _ hz)) (by simpa using hl) ?_ ?_
        ·simp [hsz]; omega
        ·simpa [hsz] using hd'
       ·cases h
      ·cases h
     ·cases h
    ·cases h
   ·cases h
theorem Q1im (w : World) {t e n sz : Nat} {f0 : TypeInfo} {z : Value} {cs : Array Value} (k1 : P.underlying t = some (.slice e)) (f1 : P.info? e = some f0) (f2 : f0.size = sz) (f4 : f0.zero = some z) (hle : n * sz ≤ 16777216) (parts : Array (Nat × Value))
  (q : Instr.fill (fun i => some (i * sz, sz)) (madeCells z.cells (n * sz)) parts.toList = some cs) :
  (Instr.buildSlice t n parts).run P w = .ok (.slice (some ⟨w.heap.size, 0, none⟩) n n) (w.alloc (.cells cs e)) := by
 have hle' : ¬ (n * sz > 2 ^ 24) := by omega
 subst f2
 unfold madeCells at q
 have hs : (sizeOf e).run P w = .ok f0.size w := by simp [sizeOf, typeInfo, f1]
 have hv : (zeroValue e).run P w = .ok z w := by simp [zeroValue, typeInfo, f1, f4]
 by_cases hz : n * f0.size = 0
 ·have e0 : (Array.range (n * f0.size)) = #[] := by rw [hz]; simp [Array.range_zero']
  simp only [e0, Array.map_empty] at q
  simp [Instr.buildSlice, run_underlying k1, hs, hz, Array.range_zero', q, newRow]
 ·have hle2 : ¬ 16777216 < n * f0.size := by omega
  generalize hm : (Array.range (n * f0.size)).map (fun x => z.cells[x % z.cells.size]!) = M at q
  simp [Instr.buildSlice, run_underlying k1, hs, hz, hle2, hv, hm, q, newRow]
theorem Qiy {o : Oper} {t n : Nat} {ps : Array (Nat × Operand)} {out : Out} {key : Nat} (hT : TTok P T) (R : Rel B G pl σ a w) (hn : nt ≤ a.tmps.size) (hZ : ∀ b, pl.Z b → b < B) (hB : B ≤ w.heap.size) (hk : σ.rows key = none) (h0 : key ≠ 0) (ho : o.op = .buildSlice t n ps)
  (h : opOut T key o.op (look σ) σ.rows = some out) (hok : out.ok = true) : Goes P B nt G pl σ a w o out := by
 rw [ho] at h
 simp only [opOut] at h
 split at h
 ·rename_i e i ty he
  split at h
  ·cases h
  ·rename_i hc
   simp only [Bool.not_eq_true, Bool.not_eq_false', Bool.and_eq_true, decide_eq_true_eq] at hc
   obtain ⟨c1, c2, c3⟩ := hc
   split at h
   ·rename_i p xs hp
    obtain rfl := oi h
    obtain ⟨k1, k2, k3, k4⟩ := Q1r hT he
    obtain ⟨f0, z, f1, f2, f3, f4, f5, f6⟩ := Q66 (hT _ _ k2) k3
    obtain ⟨g1, g2⟩ := Q8i R hp c1
    obtain ⟨cs, q1, q2, q3, q4⟩ := g2 (q := p) (l := List.replicate n ty.zero) (cs := madeCells z.cells (n * ty.size)) (fun _ h => h) (by simp) (size_madeCells _ _) (Qck f5 n)
    obtain ⟨pl', S, Q⟩ := Qix (w' := w.alloc (.cells cs e)) (ty := ty) (l := Q89 xs (List.replicate n ty.zero)) (p := p) (cap := n) R hn hZ hB hk h0 (Wane.refl _) g1 (by simp)
     (fun b hb => Q6i w _ b hb) (Q8z w _) (.inl rfl) (fun i x hx => by obtain ⟨es, r1, r2⟩ := q2 i x hx; exact ⟨es, r1, fun j v hj => by simpa using r2 j v hj⟩)
     (by omega) (by omega) (by omega) o.dst
    refine ⟨pl', _, _, .inl ?_, S, ⟨rfl, rfl, rfl⟩, Q⟩
    have e' : execOp a.eval o = (do let v ← Instr.buildSlice t n (ps.map fun (i, x) => (i, a.eval x)); pure (.value v)) := by simp only [execOp, ho]
    rw [e', q4]
    simp [Q1im (P := P) w k1 f1 f2 f4 c2 (ps.map fun (i, x) => (i, a.eval x)) (cs := cs) (by simpa using q1)]
   ·cases h
 ·cases h
theorem Qz0 (s : BA) (i : Nat) (x : Int) (h : (bytesOf s)[i]? = some x) : i < s.size ∧ x = ((s.data.toList.getD i 0).toNat : Int) := by
 unfold bytesOf at h
 rw [List.getElem?_map, Option.map_eq_some_iff] at h
 obtain ⟨b, h1, rfl⟩ := h
 obtain ⟨h2, h3⟩ := List.getElem?_eq_some_iff.1 h1
 refine ⟨by simpa using h2, ?_⟩
 rw [List.getD_eq_getElem?_getD, h1]; rfl
theorem Q4f (s : BA) : (bytesOf s).length = s.size := by simp [bytesOf]
theorem Qow {o : Oper} {s d : Nat} {x : Operand} {key : Nat} {e : Nat} {y : BA} {p : Prov} (hT : TTok P T) (R : Rel B G pl σ a w) (hn : nt ≤ a.tmps.size) (hZ : ∀ b, pl.Z b → b < B) (hB : B ≤ w.heap.size) (hk : σ.rows key = none) (h0 : key ≠ 0) (ho : o.op = .convert s d x)
  {i1 i2 i3 : TI} (hs : T.at s = some i1) (hs' : i1.d = .str) (hd : T.at d = some i2) (hd' : i2.d = .slice e) (he : T.at e = some i3) (he' : i3.d = .int .u8) (hx : look σ x = some (.val p .str y)) (hys : y.size ≤ 140737488355328) :
  Goes P B nt G pl σ a w o ⟨true, some (.rw key), [(key, ⟨0, .arr [] (.int .u8) (bytesOf y)⟩)]⟩ := by
 obtain ⟨_, g1, _⟩ := R.look hx
 have hr := Lib.run_convert_string_bytes (P := P) w s d e y ((hT _ _ hs).str hs') ((hT _ _ hd).slice hd') ((hT _ _ he).int he')
 have hge : y.size ≤ grownCap w y.size 0 e := grownCap_ge w _ _ _
 have hsz : (Lib.bytesCells w e y).size = grownCap w y.size 0 e := by
  have : y.data.size = y.size := rfl
  simp [Lib.bytesCells]; omega
 obtain ⟨pl', S, Q⟩ := Qix (w' := Lib.bytesWorld w e y) (ty := .int .u8) (l := bytesOf y) (p := []) (cap := grownCap w y.size 0 e) R hn hZ hB hk h0 (Wane.refl _) (Qa _)
  (Lib.bytesWorld_size w e y) (fun b hb => Lib.bytesWorld_at_old w e y b hb) (Lib.bytesWorld_at_new w e y) (.inr ⟨rfl, Nat.le_refl _⟩)
  (fun i x hx => by
   refine ⟨[.int .u8 x], rfl, fun j v hj => ?_⟩
   cases j with
   | succ j => simp at hj
   | zero =>
     simp at hj
     subst hj
     obtain ⟨q1, q2⟩ := Qz0 y i x hx
     have := Lib.bytesWorld_cell w e y i q1
     simp only [World.cell?, Lib.bytesWorld_at_new] at this
     simpa [Ty.size, q2] using this)
  (by rw [Q4f]; exact hge) (by rw [hsz]; simp [Ty.size]) (by have := grownCap_le_maxLen w y.size 0 e (by simp only [maxLen]; omega); simp only [maxLen] at this; omega) o.dst
 refine ⟨pl', _, _, .inl (Q6n ho (isStr g1) hr), S, ?_, by rw [Q4f] at Q; exact Q⟩
 exact ⟨by simp [Lib.bytesWorld, World.freeze]; rfl, by simp [Lib.bytesWorld, World.freeze], by simp [Lib.bytesWorld, World.freeze]; rfl⟩
structure Adds (P : Program) (w : World) (t2 : Nat) (x : Value) (sz : Nat) (f0 : TypeInfo) (z : Value) (m : Nat) (news : List Value) : Prop where
 h : (∃ d, P.underlying t2 = some d ∧ (∀ k, d ≠ .int k) ∧ (Builtin.lenOf x).run P w = .ok m w ∧ ∀ w' : World, (∀ a, w'.cell? a = w.cell? a) → (Builtin.firstCells sz m x).run P w' = .ok news.toArray w') ∨
   (∃ k, P.underlying t2 = some (.int k) ∧ x = .int .i64 m ∧ m * f0.bytes ≤ 140737488355328 ∧ m ≤ 140737488355328 ∧ news = (madeCells z.cells (m * sz)).toList)
theorem notInt {d : TypeDesc} (h : ∀ k, d ≠ .int k) : (d matches .int _) = false := by cases d <;> first | rfl | exact absurd rfl (h _)
theorem Qga (z : Value) (m sz : Nat) (h : z.cells.size = sz) : Builtin.zeroCells z.cells m = madeCells z.cells (m * sz) := by
 subst h; rfl
theorem Qyv {t t2 e ty : Nat} {f0 : TypeInfo} {z x : Value} {n m cap sz : Nat} {news : List Value} {ts : Array Nat} (ht1 : ts[0]? = some t) (ht2 : ts[1]? = some t2) (ht : P.underlying t = some (.slice e)) (hi : P.info? e = some f0) (hsz : f0.size = sz) (hz : f0.zero = some z) (hzs : z.cells.size = sz)
  (hA : Adds P w t2 x sz f0 z m news) (hfit : n + m ≤ cap) (base : Option Addr) (w2 : World)
  (hst : ∀ ad, base = some ad → (storeCells (ad.add (n * sz)) news).run P w = .ok () w2) (hno : base = none → w2 = w) :
  (Builtin.append_ ts ty #[.slice base n cap, x]).run P w = .ok (.slice base (n + m) cap) w2 := by
 have hs : (sizeOf e).run P w = .ok sz w := by simp [sizeOf, typeInfo, hi, hsz]
 have hv : (zeroValue e).run P w = .ok z w := by simp [zeroValue, typeInfo, hi, hz]
 rcases hA.h with ⟨d, h1, h2, h3, h4⟩ | ⟨k, h1, rfl, h3, h4, rfl⟩
 ·have hf := h4 w (fun _ => rfl)
  have hd := notInt h2
  cases base with
  | none => simp [Builtin.append_, ht1, ht2, run_underlying ht, run_underlying h1, hs, hd, h3, hfit, hf, hno rfl]
  | some ad => simp [Builtin.append_, ht1, ht2, run_underlying ht, run_underlying h1, hs, hd, h3, hfit, hf, hst ad rfl]
 ·have hw : IntKind.i64.wrap (m : Int) = m := by rw [IntKind.wrap_i64]; omega
  have hb : ¬ (281474976710656 < (m : Int) * (f0.bytes : Int)) := by
   have := Int.ofNat_le.2 h3
   rw [Int.natCast_mul] at this
   omega
  have hn0 : ¬ ((m : Int) < 0) := by omega
  have hzm := Qga z m sz hzs
  by_cases hm : m * sz = 0
  ·have hmm : madeCells z.cells (m * sz) = #[] := by rw [hm]; simp [madeCells, Array.range_zero']
   rw [hmm] at hst
   cases base with
   | none => simp [Builtin.append_, ht1, ht2, run_underlying ht, run_underlying h1, hs, asInt, asIntOf, hw, hn0, typeInfo, hi, hb, hm, hfit, hno rfl]
   | some ad => simp [Builtin.append_, ht1, ht2, run_underlying ht, run_underlying h1, hs, asInt, asIntOf, hw, hn0, typeInfo, hi, hb, hm, hfit, hst ad rfl]
  ·cases base with
   | none => simp [Builtin.append_, ht1, ht2, run_underlying ht, run_underlying h1, hs, asInt, asIntOf, hw, hn0, typeInfo, hi, hb, hm, hfit, hv, hno rfl]
   | some ad => simp [Builtin.append_, ht1, ht2, run_underlying ht, run_underlying h1, hs, asInt, asIntOf, hw, hn0, typeInfo, hi, hb, hm, hfit, hv, hzm, hst ad rfl]
theorem Q15s {t t2 e ty : Nat} {f0 : TypeInfo} {z x : Value} {n m cap sz : Nat} {olds news : List Value} {ts : Array Nat} (ht1 : ts[0]? = some t) (ht2 : ts[1]? = some t2) (ht : P.underlying t = some (.slice e)) (hi : P.info? e = some f0) (hsz : f0.size = sz) (hz : f0.zero = some z) (hzs : z.cells.size = sz)
  (hA : Adds P w t2 x sz f0 z m news) (hfit : cap < n + m) (hb : (n + m) * f0.bytes ≤ 140737488355328) (h63 : n + m ≤ 140737488355328) (base : Option Addr)
  (ho : (Builtin.firstCells sz n (.slice base n cap)).run P w.drew = .ok olds.toArray w.drew) :
  (Builtin.append_ ts ty #[.slice base n cap, x]).run P w = .ok (.slice (some ⟨w.heap.size, 0, none⟩) (n + m) (grownCap w (n + m) cap e)) (w.drew.alloc (.cells (olds.toArray ++ news.toArray ++ Builtin.zeroCells z.cells (grownCap w (n + m) cap e - (n + m))) e)) := by
 have hs : ∀ w, (sizeOf e).run P w = .ok sz w := by intro w; simp [sizeOf, typeInfo, hi, hsz]
 have hv : ∀ w, (zeroValue e).run P w = .ok z w := by intro w; simp [zeroValue, typeInfo, hi, hz]
 have hn : ¬ (n + m ≤ cap) := by omega
 have h63' : ¬ (9223372036854775807 < ((n : Int) + (m : Int))) := by omega
 have h48 := growslice_fits hfit hb
 have h48' : ¬ (281474976710656 < Builtin.nextslicecap (n + m) cap * f0.bytes) := by omega
 have hz' : ∀ w, (typeInfo e).run P w = .ok f0 w := by intro w; simp [typeInfo, hi]
 rcases hA.h with ⟨d, h1, h2, h3, h4⟩ | ⟨k, h1, rfl, h3, h4, rfl⟩
 ·have hf := h4 w.drew (fun _ => rfl)
  have hd := notInt h2
  simp [Builtin.append_, ht1, ht2, run_underlying ht, run_underlying h1, hs, hd, h3, hn, hz', h63', h48', Question.forced, ho, hf, hv, newRow, grownCap]
  refine congrArg (fun c => w.drew.alloc (.cells c e)) ?_
  apply Array.ext'
  simp
 ·have hw : IntKind.i64.wrap (m : Int) = m := by rw [IntKind.wrap_i64]; omega
  have hb : ¬ (281474976710656 < (m : Int) * (f0.bytes : Int)) := by
   have := Int.ofNat_le.2 h3
   rw [Int.natCast_mul] at this
   omega
  have hn0 : ¬ ((m : Int) < 0) := by omega
  have hzm := Qga z m sz hzs
  by_cases hm : m * sz = 0
  ·have hmm : madeCells z.cells (m * sz) = #[] := by rw [hm]; simp [madeCells, Array.range_zero']
   rw [hmm]
   simp [Builtin.append_, ht1, ht2, run_underlying ht, run_underlying h1, hs, asInt, asIntOf, hw, hn0, hz', hb, hm, hn, h63', h48', Question.forced, ho, hv, newRow, grownCap]
  ·simp [Builtin.append_, ht1, ht2, run_underlying ht, run_underlying h1, hs, asInt, asIntOf, hw, hn0, hz', hb, hm, hn, h63', h48', Question.forced, ho, hv, hzm, newRow, grownCap]
end
end Go.Proofs.YtecnlienmpdlaaaGreat.PM
