/- The small machine PM is sound, fifth part: slices built, converted, appended to, copied to; stores. -/
import Derived.Test.YtecnlienmpdlaaaPmV
import Derived.Lib.ConvBytes
import Derived.Laws.Append
set_option linter.unusedSimpArgs false
set_option linter.unusedVariables false
namespace Go.Proofs.Ytecnlienmpdlaaa.PM
open Go

section
variable {P : Program} {B nt : Nat} {G : Nat → Prop} {pl pl' : Pl} {σ : St} {a : Act} {w w' : World} {T : TT}

theorem leafOf_sound {rows : Rows} {t : Ty} {v : PV} {x : t.D} {u : Value} (h : leafOf t v = some x) (hv : VR w pl rows v u) : RD w (Safe w pl rows (provOf v)) t x [u] := by
  unfold leafOf at h
  split at h
  · split at h
    · rename_i ht
      subst ht
      obtain rfl := Option.some.inj h
      exact hv
    · cases h
  · split at h
    · obtain rfl := Option.some.inj h
      have hv' : u = .slice none 0 0 := hv
      subst hv'
      exact ⟨none, 0, rfl, Nat.le_refl _, fun h => absurd rfl h⟩
    · cases h
  · cases h

theorem flat_mem {p : Prov} {l : List PV} {v : PV} (hv : v ∈ l) (h : ∀ x ∈ provOf v, x ∈ p) : ∀ x ∈ provOf v, x ∈ p := h

theorem implode_sound {rows : Rows} {p : Prov} : ∀ {t : Ty} {l r : List PV} {x : t.D} {us : List Value}, implode t l = some (x, r) → VRs w pl rows l us → (∀ v ∈ l, ∀ q ∈ provOf v, q ∈ p) →
    ∃ es rs, us = es ++ rs ∧ RD w (Safe w pl rows p) t x es ∧ VRs w pl rows r rs ∧ (∀ v ∈ r, v ∈ l) := by
  intro t
  have leaf : ∀ {t : Ty} {v : PV} {l r : List PV} {x : t.D} {us : List Value}, ((leafOf t v).map fun x => (x, l)) = some (x, r) → VRs w pl rows (v :: l) us → (∀ v' ∈ v :: l, ∀ q ∈ provOf v', q ∈ p) →
      ∃ es rs, us = es ++ rs ∧ RD w (Safe w pl rows p) t x es ∧ VRs w pl rows r rs ∧ (∀ v' ∈ r, v' ∈ v :: l) := by
    intro t v l r x us h hv hp
    obtain ⟨y, h1, h2⟩ := Option.map_eq_some_iff.1 h
    cases h2
    obtain ⟨u, us', rfl, g1, g2⟩ := hv
    exact ⟨[u], us', rfl, RD_mono (hp v List.mem_cons_self) (leafOf_sound h1 g1), g2, fun v' hv' => List.mem_cons_of_mem _ hv'⟩
  induction t with
  | int k => intro l r x us h hv hp; cases l with
    | nil => cases h
    | cons v l => exact leaf h hv hp
  | bool => intro l r x us h hv hp; cases l with
    | nil => cases h
    | cons v l => exact leaf h hv hp
  | str => intro l r x us h hv hp; cases l with
    | nil => cases h
    | cons v l => exact leaf h hv hp
  | slice t ih => intro l r x us h hv hp; cases l with
    | nil => cases h
    | cons v l => exact leaf h hv hp
  | unit => 
    intro l r x us h hv hp
    have h' : l = r := by cases l <;> simp [implode] at h <;> first | exact h | exact h.symm
    subst h'
    exact ⟨[], us, rfl, rfl, hv, fun v hv => hv⟩
  | prod t1 t2 ih1 ih2 =>
    intro l r x us h hv hp
    have h' : (match implode t1 l with | some (x, l1) => (match implode t2 l1 with | some (y, l2) => some ((x, y), l2) | none => none) | none => none) = some (x, r) := by
      cases l <;> exact h
    split at h'
    · rename_i y1 l1 e1
      split at h'
      · rename_i y2 l2 e2
        simp only [Option.some.injEq, Prod.mk.injEq] at h'
        obtain ⟨rfl, rfl⟩ := h'
        obtain ⟨es, rs, rfl, f1, f2, f3⟩ := ih1 e1 hv hp
        obtain ⟨es2, rs2, rfl, f4, f5, f6⟩ := ih2 e2 f2 fun v hv => hp v (f3 v hv)
        exact ⟨es ++ es2, rs2, by rw [List.append_assoc], ⟨es, es2, rfl, f1, f4⟩, f5, fun v hv => f3 v (f6 v hv)⟩
      · cases h'
    · cases h'

theorem toVals_sound (R : Rel B G pl σ a w) : ∀ {vs cs : List PV} {us : List Value}, toVals σ.rows vs = some cs → Mens σ.rows vs → okPV.okAll σ.rows vs = true → VRs w pl σ.rows vs us →
    Mens σ.rows cs ∧ okPV.okAll σ.rows cs = true ∧ VRs w pl σ.rows cs us ∧ cs.length = vs.length
  | [], cs, us, h, hm, hk, hv => by
    obtain rfl := Option.some.inj h
    exact ⟨hm, hk, hv, rfl⟩
  | v :: vs, cs, us, h, hm, hk, hv => by
    simp only [toVals] at h
    simp only [okPV.okAll, Bool.and_eq_true] at hk
    split at h
    · rename_i x hx
      split at h
      · rename_i y hy
        obtain rfl := Option.some.inj h
        obtain ⟨u, us', rfl, g1, g2⟩ := hv
        obtain ⟨f1, f2, f3⟩ := toVal_sound R hm.1 hk.1 g1 hx
        obtain ⟨q1, q2, q3, q4⟩ := toVals_sound R hy hm.2 hk.2 g2
        exact ⟨⟨f1, q1⟩, by simp only [okPV.okAll, f2, q2, Bool.and_self], ⟨u, us', rfl, f3, q3⟩, by simp [q4]⟩
      · cases h
    · cases h

theorem provIn_flat {rows : Rows} : ∀ {l : List PV}, Mens rows l → ProvIn rows (l.flatMap provOf)
  | [], _ => provIn_nil rows
  | v :: l, h => by
    rw [List.flatMap_cons]
    refine ProvIn.append ?_ (provIn_flat h.2)
    have := h.1
    cases v <;> first | exact this | exact provIn_nil rows
theorem okProv_flat {rows : Rows} : ∀ {l : List PV}, okPV.okAll rows l = true → okProv rows (l.flatMap provOf) = true
  | [], _ => rfl
  | v :: l, h => by
    simp only [okPV.okAll, Bool.and_eq_true] at h
    rw [List.flatMap_cons]
    refine okProv_join ?_ (okProv_flat h.2)
    have := h.1
    cases v <;> first | exact this | rfl

/-- A value of cells as an element of a list. -/
theorem elem_sound (R : Rel B G pl σ a w) {v : PV} {u : Value} {vs cs : List PV} {ty : Ty} {y : ty.D} (hm : Men σ.rows v) (hk : okPV σ.rows v = true) (hv : VR w pl σ.rows v u) (h1 : cells v = some vs) (h2 : toVals σ.rows vs = some cs)
    (h3 : implode ty cs = some (y, [])) :
    RD w (Safe w pl σ.rows (cs.flatMap provOf)) ty y u.cells.toList ∧ ProvIn σ.rows (cs.flatMap provOf) ∧ okProv σ.rows (cs.flatMap provOf) = true := by
  obtain ⟨f1, f2⟩ := vr_cells hv h1
  obtain ⟨q1, q2, q3, _⟩ := toVals_sound R h2 (men_cells hm h1) (ok_cells hk h1) f1
  obtain ⟨es, rs, e1, e2, e3, _⟩ := implode_sound (p := cs.flatMap provOf) h3 q3 fun v hv q hq => List.mem_flatMap.2 ⟨v, hv, hq⟩
  have e3' : rs = [] := e3
  subst e3'
  rw [e1, List.append_nil]
  exact ⟨e2, provIn_flat q1, okProv_flat q2⟩

theorem partsOf_sound (R : Rel B G pl σ a w) {ty : Ty} {n : Nat} : ∀ {ps : List (Nat × Operand)} {p : Prov} {xs : List (Nat × ty.D)}, partsOf σ.rows ty (look σ) ps = some (p, xs) → ps.all (fun q => decide (q.1 < n)) = true →
    ProvIn σ.rows p ∧ ∀ {q : Prov} {l : List ty.D} {cs : Array Value}, (∀ x ∈ p, x ∈ q) → l.length = n → cs.size = n * ty.size → Laid w (Safe w pl σ.rows q) ty l cs.toList →
      ∃ cs', Instr.fill (fun i => some (i * ty.size, ty.size)) cs (ps.map fun x => (x.1, a.eval x.2)) = some cs' ∧ Laid w (Safe w pl σ.rows q) ty (fillList xs l) cs'.toList ∧ cs'.size = n * ty.size ∧ (fillList xs l).length = n
  | [], p, xs, h, _ => by
    simp only [partsOf, Option.some.injEq, Prod.mk.injEq] at h
    obtain ⟨rfl, rfl⟩ := h
    exact ⟨provIn_nil _, fun {q l cs} _ hl hc hd => ⟨cs, rfl, hd, hc, hl⟩⟩
  | (i, x) :: ps, p, xs, h, hn => by
    simp only [partsOf] at h
    simp only [List.all_cons, Bool.and_eq_true, decide_eq_true_eq] at hn
    split at h
    · rename_i v hx
      split at h
      · rename_i vs hvs
        split at h
        · rename_i cs hcs
          split at h
          · rename_i y hy
            split at h
            · rename_i p' l' hps
              simp only [Option.some.injEq, Prod.mk.injEq] at h
              obtain ⟨rfl, rfl⟩ := h
              obtain ⟨g1, g2, g3⟩ := R.look hx
              obtain ⟨e1, e2, _⟩ := elem_sound R g1 g3 g2 hvs hcs hy
              obtain ⟨f1, f2⟩ := partsOf_sound R hps hn.2
              refine ⟨ProvIn.append e2 f1, fun {q l arr} hq hl hc hd => ?_⟩
              have e1' := RD_mono (fun z hz => hq z (List.mem_append_left _ hz)) e1
              have hsz : (a.eval x).cells.size = ty.size := by
                have := RD_len e1; simpa using this
              have hle : i * ty.size + ty.size ≤ arr.size := by
                rw [hc]
                calc i * ty.size + ty.size = (i + 1) * ty.size := by rw [Nat.add_mul, Nat.one_mul]
                  _ ≤ n * ty.size := Nat.mul_le_mul_right _ hn.1
              have hd' := hd.set (by simp [hc, hl]) (k := i) (by omega) e1'
              rw [List.map_cons, fill_one rfl hsz hle]
              refine f2 (fun z hz => hq z (List.mem_append_right _ hz)) (by simpa using hl) ?_ ?_
              · simp [hsz]; omega
              · simpa [hsz] using hd'
            · cases h
          · cases h
        · cases h
      · cases h
    · cases h

theorem run_bs (w : World) {t e n sz : Nat} {f0 : TypeInfo} {z : Value} {cs : Array Value} (k1 : P.underlying t = some (.slice e)) (f1 : P.info? e = some f0) (f2 : f0.size = sz) (f4 : f0.zero = some z) (hle : n * sz ≤ 16777216) (parts : Array (Nat × Value))
    (q : Instr.fill (fun i => some (i * sz, sz)) (madeCells z.cells (n * sz)) parts.toList = some cs) :
    (Instr.buildSlice t n parts).run P w = .ok (.slice (some ⟨w.heap.size, 0, none⟩) n n) (w.alloc (.cells cs e)) := by
  have hle' : ¬ (n * sz > 2 ^ 24) := by omega
  subst f2
  unfold madeCells at q
  have hs : (sizeOf e).run P w = .ok f0.size w := by simp [sizeOf, typeInfo, f1]
  have hv : (zeroValue e).run P w = .ok z w := by simp [zeroValue, typeInfo, f1, f4]
  by_cases hz : n * f0.size = 0
  · have e0 : (Array.range (n * f0.size)) = #[] := by rw [hz]; simp [Array.range_zero']
    simp only [e0, Array.map_empty] at q
    simp [Instr.buildSlice, run_underlying k1, hs, hz, Array.range_zero', q, newRow]
  · have hle2 : ¬ 16777216 < n * f0.size := by omega
    generalize hm : (Array.range (n * f0.size)).map (fun x => z.cells[x % z.cells.size]!) = M at q
    simp [Instr.buildSlice, run_underlying k1, hs, hz, hle2, hv, hm, q, newRow]

theorem op_buildSlice {o : Oper} {t n : Nat} {ps : Array (Nat × Operand)} {out : Out} {key : Nat} (hT : TTok P T) (R : Rel B G pl σ a w) (hn : nt ≤ a.tmps.size) (hZ : ∀ b, pl.Z b → b < B) (hB : B ≤ w.heap.size) (hk : σ.rows key = none) (h0 : key ≠ 0) (ho : o.op = .buildSlice t n ps)
    (h : opOut T key o.op (look σ) σ.rows = some out) (hok : out.ok = true) : Goes P B nt G pl σ a w o out := by
  rw [ho] at h
  simp only [opOut] at h
  split at h
  · rename_i e i ty he
    split at h
    · cases h
    · rename_i hc
      simp only [Bool.not_eq_true, Bool.not_eq_false', Bool.and_eq_true, decide_eq_true_eq] at hc
      obtain ⟨c1, c2, c3⟩ := hc
      split at h
      · rename_i p xs hp
        obtain rfl := Option.some.inj h
        obtain ⟨k1, k2, k3, k4⟩ := elemTy_spec hT he
        obtain ⟨f0, z, f1, f2, f3, f4, f5, f6⟩ := zero_rows (hT _ _ k2) k3
        obtain ⟨g1, g2⟩ := partsOf_sound R hp c1
        obtain ⟨cs, q1, q2, q3, q4⟩ := g2 (q := p) (l := List.replicate n ty.zero) (cs := madeCells z.cells (n * ty.size)) (fun _ h => h) (by simp) (size_madeCells _ _) (laid_zero f5 n)
        obtain ⟨pl', S, Q⟩ := new_arr (w' := w.alloc (.cells cs e)) (ty := ty) (l := fillList xs (List.replicate n ty.zero)) (p := p) (cap := n) R hn hZ hB hk h0 (Wane.refl _) g1 (by simp)
          (fun b hb => heap_new w _ b hb) (heap_at w _) (.inl rfl) (fun i x hx => by obtain ⟨es, r1, r2⟩ := q2 i x hx; exact ⟨es, r1, fun j v hj => by simpa using r2 j v hj⟩)
          (by omega) (by omega) (by omega) o.dst
        refine ⟨pl', _, _, .inl ?_, S, ⟨rfl, rfl, rfl⟩, Q⟩
        have e' : execOp a.eval o = (do let v ← Instr.buildSlice t n (ps.map fun (i, x) => (i, a.eval x)); pure (.value v)) := by simp only [execOp, ho]
        rw [e', q4]
        simp [run_bs (P := P) w k1 f1 f2 f4 c2 (ps.map fun (i, x) => (i, a.eval x)) (cs := cs) (by simpa using q1)]
      · cases h
  · cases h

/-! ### bytes of a string -/
theorem bytes_get (s : ByteArray) (i : Nat) (x : Int) (h : (bytesOf s)[i]? = some x) : i < s.size ∧ x = ((s.data.toList.getD i 0).toNat : Int) := by
  unfold bytesOf at h
  rw [List.getElem?_map, Option.map_eq_some_iff] at h
  obtain ⟨b, h1, rfl⟩ := h
  obtain ⟨h2, h3⟩ := List.getElem?_eq_some_iff.1 h1
  refine ⟨by simpa using h2, ?_⟩
  rw [List.getD_eq_getElem?_getD, h1]; rfl
theorem bytes_len (s : ByteArray) : (bytesOf s).length = s.size := by simp [bytesOf]

theorem op_strBytes {o : Oper} {s d : Nat} {x : Operand} {key : Nat} {e : Nat} {y : ByteArray} {p : Prov} (hT : TTok P T) (R : Rel B G pl σ a w) (hn : nt ≤ a.tmps.size) (hZ : ∀ b, pl.Z b → b < B) (hB : B ≤ w.heap.size) (hk : σ.rows key = none) (h0 : key ≠ 0) (ho : o.op = .convert s d x)
    {i1 i2 i3 : TI} (hs : T.at s = some i1) (hs' : i1.d = .str) (hd : T.at d = some i2) (hd' : i2.d = .slice e) (he : T.at e = some i3) (he' : i3.d = .int .u8) (hx : look σ x = some (.val p .str y)) (hys : y.size ≤ 140737488355328) :
    Goes P B nt G pl σ a w o ⟨true, some (.rw key), [(key, ⟨0, .arr [] (.int .u8) (bytesOf y)⟩)]⟩ := by
  obtain ⟨_, g1, _⟩ := R.look hx
  have hr := Lib.run_convert_string_bytes (P := P) w s d e y ((hT _ _ hs).str hs') ((hT _ _ hd).slice hd') ((hT _ _ he).int he')
  have hge : y.size ≤ grownCap w y.size 0 e := grownCap_ge w _ _ _
  have hsz : (Lib.bytesCells w e y).size = grownCap w y.size 0 e := by
    have : y.data.size = y.size := rfl
    simp [Lib.bytesCells]; omega
  obtain ⟨pl', S, Q⟩ := new_arr (w' := Lib.bytesWorld w e y) (ty := .int .u8) (l := bytesOf y) (p := []) (cap := grownCap w y.size 0 e) R hn hZ hB hk h0 (Wane.refl _) (provIn_nil _)
    (Lib.bytesWorld_size w e y) (fun b hb => Lib.bytesWorld_at_old w e y b hb) (Lib.bytesWorld_at_new w e y) (.inr ⟨rfl, Nat.le_refl _⟩)
    (fun i x hx => by
      refine ⟨[.int .u8 x], rfl, fun j v hj => ?_⟩
      cases j with
      | succ j => simp at hj
      | zero =>
        simp at hj
        subst hj
        obtain ⟨q1, q2⟩ := bytes_get y i x hx
        have := Lib.bytesWorld_cell w e y i q1
        simp only [World.cell?, Lib.bytesWorld_at_new] at this
        simpa [Ty.size, q2] using this)
    (by rw [bytes_len]; exact hge) (by rw [hsz]; simp [Ty.size]) (by have := grownCap_le_maxLen w y.size 0 e (by simp only [maxLen]; omega); simp only [maxLen] at this; omega) o.dst
  refine ⟨pl', _, _, .inl (run_conv ho (isStr g1) hr), S, ?_, by rw [bytes_len] at Q; exact Q⟩
  exact ⟨by simp [Lib.bytesWorld, World.freeze]; rfl, by simp [Lib.bytesWorld, World.freeze], by simp [Lib.bytesWorld, World.freeze]; rfl⟩

/-! ### append -/
structure Adds (P : Program) (w : World) (t2 : Nat) (x : Value) (sz : Nat) (f0 : TypeInfo) (z : Value) (m : Nat) (news : List Value) : Prop where
  h : (∃ d, P.underlying t2 = some d ∧ (∀ k, d ≠ .int k) ∧ (Builtin.lenOf x).run P w = .ok m w ∧ ∀ w' : World, (∀ a, w'.cell? a = w.cell? a) → (Builtin.firstCells sz m x).run P w' = .ok news.toArray w') ∨
    (∃ k, P.underlying t2 = some (.int k) ∧ x = .int .i64 m ∧ m * f0.bytes ≤ 140737488355328 ∧ m ≤ 140737488355328 ∧ news = (madeCells z.cells (m * sz)).toList)

theorem notInt {d : TypeDesc} (h : ∀ k, d ≠ .int k) : (d matches .int _) = false := by cases d <;> first | rfl | exact absurd rfl (h _)

theorem zeros_made (z : Value) (m sz : Nat) (h : z.cells.size = sz) : Builtin.zeroCells z.cells m = madeCells z.cells (m * sz) := by
  subst h; rfl

theorem app_fit {t t2 e ty : Nat} {f0 : TypeInfo} {z x : Value} {n m cap sz : Nat} {news : List Value} {ts : Array Nat} (ht1 : ts[0]? = some t) (ht2 : ts[1]? = some t2) (ht : P.underlying t = some (.slice e)) (hi : P.info? e = some f0) (hsz : f0.size = sz) (hz : f0.zero = some z) (hzs : z.cells.size = sz)
    (hA : Adds P w t2 x sz f0 z m news) (hfit : n + m ≤ cap) (base : Option Addr) (w2 : World)
    (hst : ∀ ad, base = some ad → (storeCells (ad.add (n * sz)) news).run P w = .ok () w2) (hno : base = none → w2 = w) :
    (Builtin.append_ ts ty #[.slice base n cap, x]).run P w = .ok (.slice base (n + m) cap) w2 := by
  have hs : (sizeOf e).run P w = .ok sz w := by simp [sizeOf, typeInfo, hi, hsz]
  have hv : (zeroValue e).run P w = .ok z w := by simp [zeroValue, typeInfo, hi, hz]
  rcases hA.h with ⟨d, h1, h2, h3, h4⟩ | ⟨k, h1, rfl, h3, h4, rfl⟩
  · have hf := h4 w (fun _ => rfl)
    have hd := notInt h2
    cases base with
    | none => simp [Builtin.append_, ht1, ht2, run_underlying ht, run_underlying h1, hs, hd, h3, hfit, hf, hno rfl]
    | some ad => simp [Builtin.append_, ht1, ht2, run_underlying ht, run_underlying h1, hs, hd, h3, hfit, hf, hst ad rfl]
  · have hw : IntKind.i64.wrap (m : Int) = m := by rw [IntKind.wrap_i64]; omega
    have hb : ¬ (281474976710656 < (m : Int) * (f0.bytes : Int)) := by
      have := Int.ofNat_le.2 h3
      rw [Int.natCast_mul] at this
      omega
    have hn0 : ¬ ((m : Int) < 0) := by omega
    have hzm := zeros_made z m sz hzs
    by_cases hm : m * sz = 0
    · have hmm : madeCells z.cells (m * sz) = #[] := by rw [hm]; simp [madeCells, Array.range_zero']
      rw [hmm] at hst
      cases base with
      | none => simp [Builtin.append_, ht1, ht2, run_underlying ht, run_underlying h1, hs, asInt, asIntOf, hw, hn0, typeInfo, hi, hb, hm, hfit, hno rfl]
      | some ad => simp [Builtin.append_, ht1, ht2, run_underlying ht, run_underlying h1, hs, asInt, asIntOf, hw, hn0, typeInfo, hi, hb, hm, hfit, hst ad rfl]
    · cases base with
      | none => simp [Builtin.append_, ht1, ht2, run_underlying ht, run_underlying h1, hs, asInt, asIntOf, hw, hn0, typeInfo, hi, hb, hm, hfit, hv, hno rfl]
      | some ad => simp [Builtin.append_, ht1, ht2, run_underlying ht, run_underlying h1, hs, asInt, asIntOf, hw, hn0, typeInfo, hi, hb, hm, hfit, hv, hzm, hst ad rfl]

theorem app_grow {t t2 e ty : Nat} {f0 : TypeInfo} {z x : Value} {n m cap sz : Nat} {olds news : List Value} {ts : Array Nat} (ht1 : ts[0]? = some t) (ht2 : ts[1]? = some t2) (ht : P.underlying t = some (.slice e)) (hi : P.info? e = some f0) (hsz : f0.size = sz) (hz : f0.zero = some z) (hzs : z.cells.size = sz)
    (hA : Adds P w t2 x sz f0 z m news) (hfit : cap < n + m) (hb : (n + m) * f0.bytes ≤ 140737488355328) (h63 : n + m ≤ 140737488355328) (base : Option Addr)
    (ho : (Builtin.firstCells sz n (.slice base n cap)).run P w.drew = .ok olds.toArray w.drew) :
    (Builtin.append_ ts ty #[.slice base n cap, x]).run P w = .ok (.slice (some ⟨w.heap.size, 0, none⟩) (n + m) (grownCap w (n + m) cap e)) (w.drew.alloc (.cells (olds.toArray ++ news.toArray ++ Builtin.zeroCells z.cells (grownCap w (n + m) cap e - (n + m))) e)) := by
  have hs : ∀ w, (sizeOf e).run P w = .ok sz w := by intro w; simp [sizeOf, typeInfo, hi, hsz]
  have hv : ∀ w, (zeroValue e).run P w = .ok z w := by intro w; simp [zeroValue, typeInfo, hi, hz]
  have hn : ¬ (n + m ≤ cap) := by omega
  have h63' : ¬ (9223372036854775807 < ((n : Int) + (m : Int))) := by omega
  have h48 := growslice_fits hfit hb
  have h48' : ¬ (281474976710656 < Builtin.nextslicecap (n + m) cap * f0.bytes) := by omega
  have hz' : ∀ w, (typeInfo e).run P w = .ok f0 w := by intro w; simp [typeInfo, hi]
  rcases hA.h with ⟨d, h1, h2, h3, h4⟩ | ⟨k, h1, rfl, h3, h4, rfl⟩
  · have hf := h4 w.drew (fun _ => rfl)
    have hd := notInt h2
    simp [Builtin.append_, ht1, ht2, run_underlying ht, run_underlying h1, hs, hd, h3, hn, hz', h63', h48', Question.forced, ho, hf, hv, newRow, grownCap]
    refine congrArg (fun c => w.drew.alloc (.cells c e)) ?_
    apply Array.ext'
    simp
  · have hw : IntKind.i64.wrap (m : Int) = m := by rw [IntKind.wrap_i64]; omega
    have hb : ¬ (281474976710656 < (m : Int) * (f0.bytes : Int)) := by
      have := Int.ofNat_le.2 h3
      rw [Int.natCast_mul] at this
      omega
    have hn0 : ¬ ((m : Int) < 0) := by omega
    have hzm := zeros_made z m sz hzs
    by_cases hm : m * sz = 0
    · have hmm : madeCells z.cells (m * sz) = #[] := by rw [hm]; simp [madeCells, Array.range_zero']
      rw [hmm]
      simp [Builtin.append_, ht1, ht2, run_underlying ht, run_underlying h1, hs, asInt, asIntOf, hw, hn0, hz', hb, hm, hn, h63', h48', Question.forced, ho, hv, newRow, grownCap]
    · simp [Builtin.append_, ht1, ht2, run_underlying ht, run_underlying h1, hs, asInt, asIntOf, hw, hn0, hz', hb, hm, hn, h63', h48', Question.forced, ho, hv, hzm, newRow, grownCap]
end
end Go.Proofs.Ytecnlienmpdlaaa.PM
