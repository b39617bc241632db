import Derived.Test.YtecnlienmpdlaaaGreatPmMr
set_option linter.unusedSimpArgs false
set_option linter.unusedVariables false
namespace Go.Proofs.YtecnlienmpdlaaaGreat.PM
open Go
section
variable {P : Program} {B nt : Nat} {G : Nat → Prop} {pl pl' : Pl} {σ : St} {a : Act} {w w' : World} {T : TT}
theorem Qd5 {o : Oper} {t : Nat} {x y : Operand} {b off : Nat} {i : TI} {arr : Array Value} {Te : TypeId} {fr : Nat × Nat} (hi : TIok P t i) (ho : o.op = .store t x y) (hx : a.eval x = .pointer (some ⟨b, off, none⟩)) (hsz : (a.eval y).cells.size = i.size)
  (h : w.heap[b]? = some (Obj.cells arr Te fr)) (hl : off + i.size ≤ arr.size) (hf : Q7n fr arr.size) (h1 : ∀ v ∈ (a.eval y).cells.toList, v.oneCell' = true) :
  (execOp a.eval o).run P w = .ok .skip (w.setCells b off (a.eval y).cells.toList) := by
 have e : execOp a.eval o = (do Instr.storeAt t (a.eval x) (a.eval y); pure .skip) := by simp only [execOp, ho]
 have hst := Q6o (P := P) (vs := (a.eval y).cells.toList) h (by simp [hsz]; exact hl) hf h1
 rw [e, hx]
 simp [Instr.storeAt, Instr.sureAddr, storeVar, hi.sizeOf, hsz, hst]
theorem Qu0 (R : Rel B G pl σ a w) (hn : nt ≤ a.tmps.size) {o : Oper} {t : Nat} {x y : Operand} {r n off : Nat} {l vs : List PV} {v : PV} {i : TI} (hi : TIok P t i) (ho : o.op = .store t x y)
  (hx : look σ x = some (.ptr r off)) (hy : look σ y = some v) (hr : σ.rows r = some ⟨n, .vars l⟩) (hvs : cells v = some vs) (hlen : vs.length = i.size) (hle : off + i.size ≤ l.length) :
  Goes P B nt G pl σ a w o ⟨true, none, [(r, ⟨n + 1, .vars (setCells l off vs)⟩)]⟩ := by
 obtain ⟨_, g1, _⟩ := R.look hx
 obtain ⟨m2, g2, k2⟩ := R.look hy
 obtain ⟨b, e1, e2⟩ := g1.2 n l hr
 obtain ⟨m1, b', arr, Te, fr, f0, f1, f2, f3, f4⟩ := R.rows _ _ hr
 rw [e1] at f0
 cases f0
 obtain ⟨c1, c2⟩ := Q8q g2 hvs
 have hcs : (a.eval y).cells.size = i.size := by
  have := Q27 c1; simpa [hlen] using this
 have hroom : off + (a.eval y).cells.toList.length ≤ arr.size := by simp [hcs]; omega
 have hrun := Qd5 (w := w) hi ho e2 hcs f1 (by omega) f3 c2
 obtain ⟨arr', a1, a2⟩ := Q1n b (a.eval y).cells.toList off w arr Te fr f1 hroom
 have asz : arr'.size = arr.size := by
  have := congrArg List.length a2
  simp only [List.length_append, List.length_take, List.length_drop, Array.length_toList] at this
  simp only [Array.length_toList] at hroom
  omega
 have hnl : (setCells l off vs).length = l.length := Q1cq (by omega)
 obtain ⟨S, Q⟩ := R.write (w' := w.setCells b off (a.eval y).cells.toList) (s' := ⟨n + 1, .vars (setCells l off vs)⟩) (dst := o.dst) (ov := none) (u := undef) hn hr (by simp [RowS.live]) ⟨by simp, .inr (.inr (.inr (.inl ⟨l, _, rfl, rfl, hnl, by simp⟩)))⟩ (by simp)
  (Q18 _ _ _ _) (fun d hd => Qh b _ _ w d (fun e => by subst e; exact hd 0 e1))
  (fun d arr3 T3 fr3 h => by
   by_cases e : d = b
   ·subst e
    rw [f1] at h
    cases h
    exact ⟨arr', _, _, a1, asz⟩
   ·exact ⟨arr3, T3, fr3, (Qh b _ _ w d e).trans h, rfl⟩)
  (fun S => by
   refine ⟨S.mens (Qsk m1 (Q3o m2 hvs) off), b, arr', Te, fr, e1, a1, by rw [asz, hnl]; exact f2, asz ▸ f3, fun j z hz => ?_⟩
   have hz2 := hz
   unfold setCells at hz
   rw [Qv _ _ _ (by omega)] at hz
   have hget : arr'[j]? = (arr.toList.take off ++ (a.eval y).cells.toList ++ arr.toList.drop (off + (a.eval y).cells.toList.length))[j]? := by rw [← a2]; simp
   rw [Qv _ _ _ (by simpa using hroom)] at hget
   have hcl : (a.eval y).cells.toList.length = vs.length := Q27 c1
   rw [hcl] at hget
   rw [hget]
   by_cases hj : off ≤ j ∧ j < off + vs.length
   ·rw [if_pos hj] at hz ⊢
    obtain ⟨u, q1, q2⟩ := Q2s c1 _ z hz
    exact ⟨u, q1, c2 u (List.mem_of_getElem? q1), fun hok => S.vr (Qq (Q3o m2 hvs) z (List.mem_of_getElem? hz)) hok (fun _ => q2)⟩
   ·rw [if_neg hj] at hz ⊢
    obtain ⟨u, q1, q2, q3⟩ := f4 j z hz
    exact ⟨u, by simpa using q1, q2, fun hok => S.vr (Qq m1 z (List.mem_of_getElem? hz)) hok q3⟩)
  (fun S => ⟨fun v ev => (by cases ev), fun _ => rfl⟩)
 exact ⟨pl, _, undef, .inr ⟨rfl, hrun⟩, S, Q1c _ _ _ _, Q⟩
theorem Q14y (R : Rel B G pl σ a w) (hn : nt ≤ a.tmps.size) {o : Oper} {t : Nat} {x y : Operand} {r n j off : Nat} {ty : Ty} {p : Prov} {l : List ty.D} {vs cs : List PV} {v : PV} {i : TI} {y' : ty.D} (hi : TIok P t i) (ho : o.op = .store t x y)
  (hx : look σ x = some (.pel r j off)) (hy : look σ y = some v) (hr : σ.rows r = some ⟨n, .arr p ty l⟩) (hvs : cells v = some vs) (hcs : toVals σ.rows vs = some cs) (hlen : cs.length = i.size) (hle : off + i.size ≤ ty.size)
  (hp : okProv σ.rows p = true) (him : Q14 ty (setCells (Q1i p ty (l.getD j ty.zero)) off cs) = some (y', [])) :
  Goes P B nt G pl σ a w o ⟨true, none, [(r, ⟨n + 1, .arr (p ++ cs.flatMap provOf) ty (l.set j y')⟩)]⟩ := by
 obtain ⟨_, g1, _⟩ := R.look hx
 obtain ⟨m2, g2, k2⟩ := R.look hy
 obtain ⟨hj, b, o0, e1, e2⟩ := g1.2 n p ty l hr
 obtain ⟨m1, f⟩ := R.rows _ _ hr
 rw [e1] at f
 obtain ⟨arr, Te, fr, f1, f2, f3, f4⟩ := f
 obtain ⟨c1, c2⟩ := Q8q g2 hvs
 obtain ⟨d1, d2, d3, d4⟩ := Q65 R hcs (Q3o m2 hvs) (Qsr k2 hvs) c1
 have hsz : (a.eval y).cells.size = i.size := by
  have := Q27 d3; simpa [hlen] using this
 have hcl : (a.eval y).cells.toList.length = cs.length := Q27 d3
 have hjr : j * ty.size + ty.size ≤ l.length * ty.size := by
  have : (j + 1) * ty.size ≤ l.length * ty.size := Nat.mul_le_mul_right _ hj
  rw [Nat.add_mul, Nat.one_mul] at this
  exact this
 have hroom : o0 + j * ty.size + off + (a.eval y).cells.toList.length ≤ arr.size := by omega
 have hrun := Qd5 (w := w) hi ho e2 hsz f1 (by omega) f3.un c2
 obtain ⟨arr', a1, a2⟩ := Q1n b (a.eval y).cells.toList (o0 + j * ty.size + off) w arr Te fr f1 hroom
 have asz : arr'.size = arr.size := by
  have := congrArg List.length a2
  simp only [List.length_append, List.length_take, List.length_drop, Array.length_toList] at this
  simp only [Array.length_toList] at hroom
  omega
 have hxj : l[j]? = some (l.getD j ty.zero) := by rw [List.getD_eq_getElem?_getD, List.getElem?_eq_getElem hj]; rfl
 obtain ⟨es, h1, h2⟩ := f4 hp j _ hxj
 have hes := Q37 h1
 have hvr := Q156 (Q6u h1) d3 off
 obtain ⟨es', rs, q1, q2, q3, _⟩ := Q8b (p := p ++ cs.flatMap provOf) him hvr (fun z hz q hq => by
  simp only [setCells, List.mem_append] at hz
  have hex : ∀ {t : Ty} {x : t.D} {z : PV}, z ∈ Q1i p t x → ∀ q ∈ provOf z, q ∈ p := by
   intro t
   induction t with
   | int k => intro x z hz q hq; simp [Q1i] at hz; subst hz; simp [provOf] at hq
   | bool => intro x z hz q hq; simp [Q1i] at hz; subst hz; simp [provOf] at hq
   | str => intro x z hz q hq; simp [Q1i] at hz; subst hz; simp [provOf] at hq
   | unit => intro x z hz q hq; simp [Q1i] at hz
   | slice t _ => intro x z hz q hq; simp [Q1i] at hz; subst hz; exact hq
   | prod s t ih1 ih2 =>
     intro x z hz q hq
     simp only [Q1i, List.mem_append] at hz
     exact hz.elim (fun h => ih1 h q hq) (fun h => ih2 h q hq)
  rcases hz with (hz | hz) | hz
  ·exact List.mem_append_left _ (hex (List.mem_of_mem_take hz) q hq)
  ·exact List.mem_append_right _ (List.mem_flatMap.2 ⟨z, hz, hq⟩)
  ·exact List.mem_append_left _ (hex (List.mem_of_mem_drop hz) q hq))
 have q3' : rs = [] := q3
 subst q3'
 rw [List.append_nil] at q1
 have hnl : (l.set j y').length = l.length := List.length_set
 have hcell : ∀ k, (w.setCells b (o0 + j * ty.size + off) (a.eval y).cells.toList).cell? ⟨b, k, none⟩ = if o0 + j * ty.size + off ≤ k ∧ k < o0 + j * ty.size + off + (a.eval y).cells.toList.length then (a.eval y).cells.toList[k - (o0 + j * ty.size + off)]? else arr[k]? := by
  intro k
  simp only [World.cell?, a1]
  rw [← Array.getElem?_toList (xs := arr), ← Qv _ _ _ (by simpa using hroom), ← a2]
  simp
 obtain ⟨S, Q⟩ := R.write (w' := w.setCells b (o0 + j * ty.size + off) (a.eval y).cells.toList) (s' := ⟨n + 1, .arr (p ++ cs.flatMap provOf) ty (l.set j y')⟩) (dst := o.dst) (ov := none) (u := undef) hn hr (by simp [RowS.live])
  ⟨by simp, .inr (.inr (.inl ⟨p, _, ty, l, _, rfl, rfl, hnl, by simp⟩))⟩ (by simp)
  (Q18 _ _ _ _) (fun d hd => Qh b _ _ w d (fun e => by subst e; exact hd o0 e1))
  (fun d arr3 T3 fr3 h => by
   by_cases e : d = b
   ·subst e
    rw [f1] at h
    cases h
    exact ⟨arr', _, _, a1, asz⟩
   ·exact ⟨arr3, T3, fr3, (Qh b _ _ w d e).trans h, rfl⟩)
  (fun S => by
   have hpp := ProvIn.append m1 (Q7e d1)
   refine ⟨S.provIn hpp, ?_⟩
   rw [e1]
   refine ⟨arr', Te, fr, a1, by rw [hnl, asz]; exact f2, asz ▸ f3, fun hok i' z hz => ?_⟩
   rw [List.getElem?_set] at hz
   by_cases e : j = i'
   ·subst e
    rw [if_pos rfl, if_pos hj] at hz
    obtain rfl := oi hz
    refine ⟨es', S.rd hpp hok q2, fun k u hk => ?_⟩
    rw [← q1, Qv _ _ _ (by rw [hes, hcl]; omega)] at hk
    rw [Q1a, hcell]
    by_cases hk' : off ≤ k ∧ k < off + (a.eval y).cells.toList.length
    ·rw [if_pos hk'] at hk
     rw [if_pos ⟨by omega, by omega⟩, show o0 + j * ty.size + k - (o0 + j * ty.size + off) = k - off by omega]
     exact hk
    ·rw [if_neg hk'] at hk
     rw [if_neg (by omega)]
     have := h2 k u hk
     rw [Q1a] at this
     simp only [World.cell?, f1] at this
     simpa using this
   ·rw [if_neg e] at hz
    obtain ⟨k1, _⟩ := Q1m hok
    obtain ⟨fs, r1, r2⟩ := f4 (S.okProv m1 k1) i' z hz
    refine ⟨fs, Q1z (fun x hx => List.mem_append_left _ hx) (S.rd m1 k1 r1), fun k u hk => ?_⟩
    obtain ⟨hk1, _⟩ := List.getElem?_eq_some_iff.1 hk
    have hfs := Q37 r1
    rw [Q1a, hcell, if_neg ?_]
    ·have := r2 k u hk
     rw [Q1a] at this
     simp only [World.cell?, f1] at this
     simpa using this
    ·rintro ⟨s1, s2⟩
     have := Q1ac (sz := ty.size) (j := k) (m := o0 + i' * ty.size + k - (o0 + j * ty.size)) (Ne.symm e) (by omega) (by omega)
     omega)
  (fun S => ⟨fun v ev => (by cases ev), fun _ => rfl⟩)
 exact ⟨pl, _, undef, .inr ⟨rfl, hrun⟩, S, Q1c _ _ _ _, Q⟩
theorem Q172 {o : Oper} {t : Nat} {x y : Operand} {out : Out} {key : Nat} (hT : TTok P T) (R : Rel B G pl σ a w) (hn : nt ≤ a.tmps.size) (ho : o.op = .store t x y)
  (h : opOut T key o.op (look σ) σ.rows = some out) : Goes P B nt G pl σ a w o out := by
 rw [ho] at h
 simp only [opOut] at h
 split at h
 ·rename_i r off v i hx hy hi
  split at h
  ·rename_i n l vs hr hvs
   split at h
   ·rename_i hc
    obtain rfl := oi h
    exact Qu0 R hn (hT _ _ hi) ho hx hy hr hvs hc.1 hc.2
   ·cases h
  ·cases h
 ·rename_i r j off v i hx hy hi
  split at h
  ·rename_i n p ty l vs hr hvs
   split at h
   ·rename_i cs hcs
    split at h
    ·rename_i hc
     split at h
     ·rename_i y' him
      obtain rfl := oi h
      exact Q14y R hn (hT _ _ hi) ho hx hy hr hvs hcs hc.1 hc.2.1 hc.2.2 him
     ·cases h
    ·cases h
   ·cases h
  ·cases h
 ·cases h
theorem Qli (w : World) {b : Nat} {arr : Array Value} {Te : TypeId} {fr : Nat × Nat} (h : w.heap[b]? = some (Obj.cells arr Te fr)) :
  (w.freeze ⟨b, arr.size, none⟩ 1).heap[b]? = some (Obj.cells arr Te (if fr.1 == fr.2 then (arr.size, arr.size + 1) else (min fr.1 arr.size, max fr.2 (arr.size + 1)))) ∧
  (∀ c, c ≠ b → (w.freeze ⟨b, arr.size, none⟩ 1).heap[c]? = w.heap[c]?) ∧ (w.freeze ⟨b, arr.size, none⟩ 1).heap.size = w.heap.size ∧ Quiet w (w.freeze ⟨b, arr.size, none⟩ 1) := by
 refine ⟨?_, fun c hc => ?_, ?_, ?_⟩
 ·simp [World.freeze, Array.getElem?_modify, h]
 ·have : ¬ b = c := fun e => hc e.symm
  simp [World.freeze, Array.getElem?_modify, this]
 ·simp [World.freeze]
 ·constructor <;> simp [World.freeze]
theorem Qm1 {o : Oper} {s : Nat} {x : Operand} {r n e : Nat} {p : Prov} {ty : Ty} {l : List ty.D} {i1 i2 : TI} (hT : TTok P T) (R : Rel B G pl σ a w) (hn : nt ≤ a.tmps.size) (ho : o.op = .convert s s x)
  (hs : T.at s = some i1) (hs' : i1.d = .slice e) (he : T.at e = some i2) (he' : i2.d = .int .u8) (hx : look σ x = some (.rw r)) (hr : σ.rows r = some ⟨n, .arr p ty l⟩) (hl : 0 < l.length) (hu8 : ty = .int .u8) :
  Goes P B nt G pl σ a w o ⟨true, some (.rw r), [(r, ⟨n + 1, .arr p ty l⟩)]⟩ := by
 obtain ⟨m, g1, _⟩ := R.look hx
 have g := g1.2 n p ty l hr
 obtain ⟨A, c, e1, e2, e3⟩ := id g
 obtain ⟨b, o0, f1, rfl, arr, Te, fr, f2, f3⟩ := e3 (by omega)
 obtain ⟨m1, q⟩ := R.rows _ _ hr
 rw [f1] at q
 obtain ⟨arr2, T2, fr2, q1, q2, q3, q4⟩ := q
 rw [f2] at q1
 cases q1
 obtain ⟨z1, z2, z3, z4⟩ := Qli w f2
 have k1 := (hT _ _ hs).slice hs'
 have k2 := (hT _ _ he).int he'
 have hsh : w.shape? b = some (Te, arr.size) := by simp [World.shape?, f2]
 have hrun : (execOp a.eval o).run P w = .ok (.value (a.eval x)) (w.freeze ⟨b, arr.size, none⟩ 1) := by
  rw [e1]
  refine Q6n ho e1 ?_
  simp [convert, run_underlying k1, run_underlying k2, markStringish, hsh]
 obtain ⟨S, Q⟩ := R.write (w' := w.freeze ⟨b, arr.size, none⟩ 1) (s' := ⟨n + 1, .arr p ty l⟩) (dst := o.dst) (ov := some (.rw r)) (u := a.eval x) hn hr (by simp [RowS.live])
  ⟨by simp, .inr (.inr (.inl ⟨p, _, ty, l, _, rfl, rfl, rfl, by simp⟩))⟩ (by simp)
  z3 (fun d hd => z2 d (fun e => by subst e; exact hd o0 f1))
  (fun d arr3 T3 fr3 h => by
   by_cases e : d = b
   ·subst e
    rw [f2] at h
    cases h
    exact ⟨arr, _, _, z1, rfl⟩
   ·exact ⟨arr3, T3, fr3, (z2 d e).trans h, rfl⟩)
  (fun S => by
   refine ⟨S.provIn m1, ?_⟩
   rw [f1]
   refine ⟨arr, Te, _, z1, q2, ?_, fun hok i z hz => ?_⟩
   ·unfold Q2y at q3 ⊢
    split
    ·exact .inr ⟨hu8, Nat.le_refl _⟩
    ·rename_i hne
     have hne' : ¬ fr.1 = fr.2 := by simpa using hne
     refine .inr ⟨hu8, ?_⟩
     have := (q3.resolve_left hne').2
     simp only
     omega
   ·obtain ⟨es, r1, r2⟩ := q4 (S.okProv m1 hok) i z hz
    refine ⟨es, S.rd m1 hok r1, fun j v hj => ?_⟩
    have := r2 j v hj
    rw [Q1a] at this ⊢
    simp only [World.cell?, f2] at this
    simp only [World.cell?, z1]
    exact this)
  (fun S => by
   refine ⟨fun v ev => ?_, fun ev => by cases ev⟩
   obtain rfl := oi ev
   refine ⟨by simp [Men, Q8], fun _ => ⟨⟨g1.1.1, fun n p kt vt bx l tk hr' => (by rw [Q8, if_pos rfl] at hr'; cases hr')⟩, fun n' p' t' l' hr' => ?_⟩⟩
   rw [Q8, if_pos rfl] at hr'
   cases hr'
   exact S.sliceOf rfl g)
 exact ⟨pl, _, _, .inl hrun, S, z4, Q⟩
theorem Q1cz {o : Oper} {s d : Nat} {x : Operand} {out : Out} {key : Nat} (hT : TTok P T) (R : Rel B G pl σ a w) (hn : nt ≤ a.tmps.size) (hZ : ∀ b, pl.Z b → b < B) (hB : B ≤ w.heap.size) (hk : σ.rows key = none) (h0 : key ≠ 0) (ho : o.op = .convert s d x)
  (h : opOut T key o.op (look σ) σ.rows = some out) (hok : out.ok = true) : Goes P B nt G pl σ a w o out := by
 by_cases hno : ∃ e i j, T.at d = some i ∧ i.d = .slice e ∧ T.at s = some j
 ·obtain ⟨e, i, j, h1, h2, h3⟩ := hno
  rw [ho] at h
  simp only [opOut] at h
  split at h
  ·rename_i hd _
   rw [h1] at hd
   cases hd
   cases h2
  ·rename_i hd _
   rw [h1] at hd
   cases hd
   cases h2
  ·rename_i hd _
   rw [h1] at hd
   cases hd
   cases h2
  ·rename_i hs hd hx
   split at h
   ·rename_i he
    obtain rfl := oi h
    have hys := of_decide_eq_true hok
    rw [show decide _ = true from hok]
    exact Qow hT R hn hZ hB hk h0 ho hs rfl hd rfl he rfl hx hys
   ·cases h
  ·rename_i hs hd hx
   split at h
   ·rename_i he hr
    split at h
    ·rename_i hsd
     obtain ⟨hsd, hu8⟩ := hsd
     subst hsd
     obtain rfl := oi h
     have hl := of_decide_eq_true hok
     rw [show decide _ = true from hok]
     rw [hs] at hd
     cases hd
     exact Qm1 hT R hn ho hs rfl he rfl hx hr hl hu8
    ·cases h
   ·cases h
  ·cases h
 ·exact (Qts hT R ho h (fun e hx => hno ⟨e, hx⟩) hok).goes R hn
theorem Q1cy {o : Oper} {c : Call} {out : Out} {key : Nat} (hT : TTok P T) (R : Rel B G pl σ a w) (hn : nt ≤ a.tmps.size) (hZ : ∀ b, pl.Z b → b < B) (hB : B ≤ w.heap.size) (hk : σ.rows key = none) (h0 : key ≠ 0) (ho : o.op = .call c)
  (h : opOut T key o.op (look σ) σ.rows = some out) (hok : out.ok = true) : Goes P B nt G pl σ a w o out := by
 have h' := h
 rw [ho] at h'
 simp only [opOut] at h'
 split at h'
 ·rename_i b hb
  cases b
  case append => exact Q148 hT R hn hZ hB hk h0 ho hb h hok
  case copy => exact Q1d0 hT R hn ho hb h hok
  case len => exact (Q1ih hT R ho hb h hok).goes R hn
  case clear => exact Q16v hT R hn ho hb h hok
  case cap => exact (Q1ig hT R ho hb h hok).goes R hn
  case min => exact (Qm5 R ho (.inl hb) h hok).goes R hn
  case max => exact (Qm5 R ho (.inr hb) h hok).goes R hn
  all_goals
   split at h'
   ·unfold Q1w at h'
    split at h' <;> first | (cases h'; done) | (rename_i hx; cases hx; done) | skip
    all_goals (simp at *; done)
   ·cases h'
 ·cases h'
theorem Q171 {o : Oper} {out : Out} {key : Nat} (hT : TTok P T) (R : Rel B G pl σ a w) (hn : nt ≤ a.tmps.size) (hZ : ∀ b, pl.Z b → b < B) (hB : B ≤ w.heap.size) (hk : σ.rows key = none) (h0 : key ≠ 0)
  (h : opOut T key o.op (look σ) σ.rows = some out) (hok : out.ok = true) : Goes P B nt G pl σ a w o out := by
 generalize ho : o.op = op
 cases op
 case move => exact (Qiz R (.inl ho) h).goes R hn
 case assign => exact (Qiz R (.inr ho) h).goes R hn
 case pick => exact (Q1d1 R ho h hok).goes R hn
 case alloc => exact Q16s hT R hn hZ hB hk h0 ho h
 case box => exact Q1if R hn hZ hB hk h0 ho h
 case build => exact (Q16u hT R ho h).goes R hn
 case buildSlice => exact Qiy hT R hn hZ hB hk h0 ho h hok
 case load => exact (Q149 hT R ho h).goes R hn
 case store => exact Q172 hT R hn ho h
 case nilCheck => exact (Qcu R ho h).goes R hn
 case binOp => exact (Q16t hT R ho h hok).goes R hn
 case unOp => exact (Q1d2 R ho h).goes R hn
 case convert => exact Q1cz hT R hn hZ hB hk h0 ho h hok
 case makeFunc => exact (Qov R ho h).goes R hn
 case makeSlice => exact Qm3 hT R hn hZ hB hk h0 ho h hok
 case slice t x lo hi m =>
  cases m with
  | none => exact (Q170 hT R ho h hok).goes R hn
  | some m => rw [ho] at h; simp [opOut] at h
 case fieldAddr => exact (Qan hT R ho h).goes R hn
 case field => exact (Q16x hT R ho h).goes R hn
 case indexAddr => exact (Qm2 hT R ho h hok).goes R hn
 case index => exact (Q16y hT R ho h hok).goes R hn
 case extract => exact (Qtt R ho h).goes R hn
 case call => exact Q1cy hT R hn hZ hB hk h0 ho h hok
 case makeMap t m =>
  cases m with
  | none => exact Qtu hT R hn hZ hB hk h0 ho h
  | some m => rw [ho] at h; simp [opOut] at h
 case lookup => exact Q14a hT R hn hZ hB hk h0 ho h
 case mapUpdate => exact Qm4 hT R hn hZ hB ho h hok
 case range => exact Q16z hT R hn hZ hB hk h0 ho h
 case entry => exact Q16w hT R hn hZ hB hk h0 ho h hok
 all_goals (rw [ho] at h; simp [opOut] at h; done)
end
theorem Q6z : ∀ {ids : List Nat} {n r i : Nat}, findN (Qe n ids) r = some i → ∃ k, i = n + k ∧ ids[k]? = some r
 | [], n, r, i, h => by cases h
 | x :: ids, n, r, i, h => by
   simp only [Qe, findN] at h
   by_cases e : x = r
   ·subst e
    simp at h
    subst h
    exact ⟨0, rfl, rfl⟩
   ·have : (x == r) = false := by simpa using e
    rw [this] at h
    obtain ⟨k, h1, h2⟩ := Q6z (n := n + 1) h
    exact ⟨k + 1, by omega, by simpa using h2⟩
theorem Q6e : ∀ {ids : List Nat} {n k r : Nat}, ids.Nodup → ids[k]? = some r → findN (Qe n ids) r = some (n + k)
 | [], _, _, _, _, h => by simp at h
 | x :: ids, n, k, r, hn, h => by
   simp only [Qe, findN]
   rw [List.nodup_cons] at hn
   cases k with
   | zero => simp at h; subst h; simp
   | succ k =>
     have h' : ids[k]? = some r := by simpa using h
     have hne : ¬ x = r := fun e => hn.1 (e ▸ List.mem_of_getElem? h')
     have : (x == r) = false := by simpa using hne
     rw [this]
     have := Q6e (n := n + 1) hn.2 h'
     simp only [this]
     simp; omega
theorem Qme : ∀ {l : List RowS} {i : Nat}, rowAt l i = if i = 0 then none else l[i - 1]?
 | [], i => by simp [rowAt]
 | s :: l, i => by
   simp only [rowAt]
   by_cases h1 : i = 1
   ·subst h1; simp
   ·have : (i == 1) = false := by simpa using h1
    rw [this]
    simp only [Bool.false_eq_true, if_false]
    rw [Qme]
    by_cases h0 : i = 0
    ·subst h0; simp
    ·rw [if_neg (by omega), if_neg h0]
     obtain ⟨j, rfl⟩ : ∃ j, i = j + 2 := ⟨i - 2, by omega⟩
     simp
theorem Q1b (l : List RowS) (i : Nat) : rowsOf l i = if i = 0 then none else l[i - 1]? := by
 unfold rowsOf
 by_cases h0 : i = 0
 ·subst h0; simp
 ·have : (i == 0) = false := by simpa using h0
  rw [this, if_neg h0]
  simp only [Bool.false_eq_true, if_false]
  rw [Qme, if_neg h0]
theorem Qf (l : List RowS) (k : Nat) : rowsOf l (k + 1) = l[k]? := by rw [Q1b, if_neg (by omega)]; simp
theorem Q11 (l : List RowS) : rowsOf l 0 = none := by rw [Q1b, if_pos rfl]
theorem Q96 {rows : Rows} : ∀ {n : Nat} {todo acc ids : List Nat}, reach rows n todo acc = some ids → acc.Nodup → ids.Nodup ∧ ∃ l, ids = acc ++ l
 | 0, _, _, _, h, _ => by cases h
 | n + 1, [], acc, ids, h, hn => by
   obtain rfl := oi h
   exact ⟨hn, [], by simp⟩
 | n + 1, r :: todo, acc, ids, h, hn => by
   simp only [reach] at h
   split at h
   ·exact Q96 h hn
   ·rename_i hr
    have hr' : r ∉ acc := fun hm => hr (List.any_eq_true.2 ⟨r, hm, by simp⟩)
    obtain ⟨h1, l, h2⟩ := Q96 h (by
     rw [List.nodup_append]
     refine ⟨hn, by simp, fun a ha b hb => ?_⟩
     simp at hb
     subst hb
     intro e
     subst e
     exact hr' ha)
    exact ⟨h1, r :: l, by rw [h2]; simp⟩
theorem Qt5 : ∀ {n k : Nat}, k < n → (upTo n)[k]? = some (k + 1)
 | n + 1, k, h => by
   have hlen : ∀ n, (upTo n).length = n := by
    intro n
    induction n with
    | zero => rfl
    | succ n ih => simp [upTo, ih]
   simp only [upTo]
   by_cases h1 : k < n
   ·rw [List.getElem?_append_left (by rw [hlen]; exact h1)]; exact Qt5 h1
   ·have : k = n := by omega
    subst this
    rw [List.getElem?_append_right (by rw [hlen]; exact Nat.le_refl _), hlen]; simp
theorem Qt7 : ∀ {n x : Nat}, x ∈ upTo n → 1 ≤ x ∧ x ≤ n
 | 0, x, h => by cases h
 | n + 1, x, h => by
   simp only [upTo, List.mem_append, List.mem_singleton] at h
   rcases h with h | h
   ·have := Qt7 h; omega
   ·omega
theorem Qg6 : ∀ n, (upTo n).Nodup
 | 0 => List.nodup_nil
 | n + 1 => by
   simp only [upTo]
   rw [List.nodup_append]
   refine ⟨Qg6 n, by simp, fun a ha b hb => ?_⟩
   simp at hb
   have := Qt7 ha
   omega
theorem Qt6 : ∀ n, (upTo n).length = n
 | 0 => rfl
 | n + 1 => by simp [upTo, Qt6 n]
section
variable {leave : Option Prov} {m : List (Nat × Nat)} {rows : Rows}
theorem Q4i : ∀ {p : Prov} {q}, q ∈ dedup p → q ∈ p
 | [], _, h => h
 | (r, n) :: p, q, h => by
   simp only [dedup] at h
   split at h
   ·exact List.mem_cons_of_mem _ (Q4i h)
   ·rcases List.mem_cons.1 h with rfl | h
    ·exact List.mem_cons_self
    ·exact List.mem_cons_of_mem _ (Q4i h)
theorem Q7v : ∀ {p : Prov} {q}, q ∈ p → ∃ q' ∈ dedup p, q'.1 = q.1
 | (r, n) :: p, q, h => by
   simp only [dedup]
   rcases List.mem_cons.1 h with rfl | h
   ·split
    ·rename_i ha
     obtain ⟨q', h1, h2⟩ := List.any_eq_true.1 ha
     exact ⟨q', h1, by simpa using h2⟩
    ·exact ⟨_, List.mem_cons_self, rfl⟩
   ·obtain ⟨q', h1, h2⟩ := Q7v h
    split
    ·exact ⟨q', h1, h2⟩
    ·exact ⟨q', List.mem_cons_of_mem _ h1, h2⟩
theorem Q1t : ∀ {p : Prov} {q}, q ∈ Qs leave m rows p → q.1 = 0 ∨ (q.2 = 0 ∧ ∃ r n, (r, n) ∈ p ∧ findN m r = some q.1)
 | [], _, h => by cases h
 | (r, n) :: p, q, h => by
   have up : (q.1 = 0 ∨ (q.2 = 0 ∧ ∃ r n, (r, n) ∈ p ∧ findN m r = some q.1)) → q.1 = 0 ∨ (q.2 = 0 ∧ ∃ r' n', (r', n') ∈ (r, n) :: p ∧ findN m r' = some q.1) := by
    rintro (h | ⟨h1, r', n', h2, h3⟩)
    ·exact .inl h
    ·exact .inr ⟨h1, r', n', List.mem_cons_of_mem _ h2, h3⟩
   simp only [Qs] at h
   split at h
   ·rename_i r' hr
    rcases List.mem_cons.1 h with rfl | h
    ·exact .inr ⟨rfl, r, n, List.mem_cons_self, hr⟩
    ·exact up (Q1t h)
   ·split at h
    ·split at h
     ·rcases List.mem_cons.1 h with rfl | h
      ·exact .inl rfl
      ·exact up (Q1t h)
     ·exact up (Q1t h)
    ·split at h
     ·rcases List.mem_cons.1 h with rfl | h
      ·exact .inl rfl
      ·exact up (Q1t h)
     ·exact up (Q1t h)
theorem Q5q {r n : Nat} {p : Prov} {q} (h : q ∈ Qs leave m rows p) : q ∈ Qs leave m rows ((r, n) :: p) := by
 simp only [Qs]
 split
 ·exact List.mem_cons_of_mem _ h
 ·split
  ·split
   ·exact List.mem_cons_of_mem _ h
   ·exact h
  ·split
   ·exact List.mem_cons_of_mem _ h
   ·exact h
theorem Qd1 {r n r' : Nat} (hf : findN m r = some r') : ∀ {p : Prov}, (r, n) ∈ p → (r', 0) ∈ Qs leave m rows p
 | (s, k) :: p, h => by
   rcases List.mem_cons.1 h with h | h
   ·cases h
    simp only [Qs, hf]
    exact List.mem_cons_self
   ·exact Q5q (Qd1 hf h)
theorem Qaq (h0 : rows 0 = none) (hf : findN m 0 = none) {n : Nat} : ∀ {p : Prov}, (0, n) ∈ p → (0, n) ∈ Qs leave m rows p
 | (s, k) :: p, h => by
   rcases List.mem_cons.1 h with h | h
   ·cases h
    simp only [Qs, hf, h0]
    simp
   ·exact Q5q (Qaq h0 hf h)
theorem Q8k {r n : Nat} {s : RowS} (hl : leave.isSome = true) (hf : findN m r = none) (hr : rows r = some s) : ∀ {p : Prov}, (r, n) ∈ p → (0, 0) ∈ Qs leave m rows p
 | (x, k) :: p, h => by
   rcases List.mem_cons.1 h with h | h
   ·cases h
    simp only [Qs, hf, hr, hl]
    simp
   ·exact Q5q (Q8k hl hf hr h)
end
structure Pk (leave : Option Prov) (rows : Rows) (ids : List Nat) (rs : List RowS) : Prop where
 nodup : ids.Nodup
 len : rs.length = ids.length
 get : ∀ (k : Nat) (id : Nat), ids[k]? = some id → ∃ s x, rows id = some s ∧ renRow leave (Qe 1 ids) rows s.row = some x ∧ rs[k]? = some ⟨0, x⟩
theorem Qd2 {leave : Option Prov} {m : List (Nat × Nat)} {rows : Rows} : ∀ {ids : List Nat} {rs : List RowS}, Qj3 leave m rows ids = some rs →
  rs.length = ids.length ∧ ∀ (k : Nat) (id : Nat), ids[k]? = some id → ∃ s x, rows id = some s ∧ renRow leave m rows s.row = some x ∧ rs[k]? = some ⟨0, x⟩
 | [], rs, h => by
   obtain rfl := oi h
   exact ⟨rfl, fun k id h => by simp at h⟩
 | r :: ids, rs, h => by
   simp only [Qj3] at h
   split at h
   ·rename_i s hs
    split at h
    ·rename_i x hx
     split at h
     ·rename_i l hl
      obtain rfl := oi h
      obtain ⟨h1, h2⟩ := Qd2 hl
      refine ⟨by simp [h1], fun k id hk => ?_⟩
      cases k with
      | zero => simp at hk; subst hk; exact ⟨s, x, hs, hx, rfl⟩
      | succ k => simpa using h2 k id (by simpa using hk)
     ·cases h
    ·cases h
   ·cases h
noncomputable def pkPl (pl : Pl) (ids : List Nat) (Z L : Nat → Prop) : Pl := ⟨fun i => if i = 0 then none else (ids[i - 1]?).bind pl.loc, Z, L, fun i b => i ≠ 0 ∧ ∃ r, ids[i - 1]? = some r ∧ pl.hid r b⟩
theorem Q1ab {pl : Pl} {ids : List Nat} {Z L : Nat → Prop} {k r : Nat} (h : ids[k]? = some r) : (pkPl pl ids Z L).hid (k + 1) = pl.hid r := by
 funext b
 simp [pkPl, h]
section
variable {leave : Option Prov} {rows : Rows} {ids : List Nat} {rs : List RowS} {w : World} {pl : Pl} {Z L : Nat → Prop}
theorem Pk.found (h : Pk leave rows ids rs) {r i : Nat} (hf : findN (Qe 1 ids) r = some i) :
  ∃ k s x, i = k + 1 ∧ ids[k]? = some r ∧ rows r = some s ∧ renRow leave (Qe 1 ids) rows s.row = some x ∧ rowsOf rs i = some ⟨0, x⟩ ∧ (pkPl pl ids Z L).loc i = pl.loc r := by
 obtain ⟨k, e, hk⟩ := Q6z hf
 obtain ⟨s, x, h1, h2, h3⟩ := h.get k r hk
 refine ⟨k, s, x, by omega, hk, h1, h2, ?_, ?_⟩
 ·rw [e, Nat.add_comm, Qf]; exact h3
 ·simp [pkPl, e, hk]
theorem pk_at {k r : Nat} (hk : ids[k]? = some r) {b o : Nat} : (pkPl pl ids Z L).at (k + 1) b o ↔ pl.at r b o := by
 unfold Pl.at
 rw [Q1ab hk]
 simp [pkPl, hk]
theorem Pk.at (h : Pk leave rows ids rs) {i : Nat} {s' : RowS} (hr : rowsOf rs i = some s') :
  ∃ k r s x, i = k + 1 ∧ ids[k]? = some r ∧ findN (Qe 1 ids) r = some i ∧ rows r = some s ∧ renRow leave (Qe 1 ids) rows s.row = some x ∧ s' = ⟨0, x⟩ ∧ (pkPl pl ids Z L).loc i = pl.loc r := by
 rw [Q1b] at hr
 by_cases h0 : i = 0
 ·rw [if_pos h0] at hr; cases hr
 ·rw [if_neg h0] at hr
  obtain ⟨k, rfl⟩ : ∃ k, i = k + 1 := ⟨i - 1, by omega⟩
  simp only [Nat.add_sub_cancel] at hr
  have hk : k < ids.length := by
   have := (List.getElem?_eq_some_iff.1 hr).1
   rw [h.len] at this; exact this
  obtain ⟨s, x, h1, h2, h3⟩ := h.get k _ (List.getElem?_eq_getElem hk)
  rw [h3] at hr
  obtain rfl := oi hr
  refine ⟨k, _, s, x, rfl, List.getElem?_eq_getElem hk, ?_, h1, h2, rfl, by simp [pkPl, hk]⟩
  rw [Q6e h.nodup (List.getElem?_eq_getElem hk)]; simp; omega
theorem Pk.nozero (h : Pk leave rows ids rs) (h0 : rows 0 = none) : findN (Qe 1 ids) 0 = none := by
 cases hf : findN (Qe 1 ids) 0 with
 | none => rfl
 | some i =>
   obtain ⟨k, s, x, _, _, h1, _⟩ := h.found (pl := ⟨fun _ => none, fun _ => False, fun _ => False, fun _ _ => False⟩) (Z := fun _ => False) (L := fun _ => False) hf
   rw [h0] at h1; cases h1
theorem Q1u {m : List (Nat × Nat)} {x y : Row} (h : renRow leave m rows x = some y) : y = .gone ↔ x = .gone := by
 cases x with
 | arr p t l =>
   simp only [renRow] at h
   split at h
   ·obtain rfl := oi h; simp
   ·cases h
 | vars l =>
   simp only [renRow] at h
   split at h
   ·obtain rfl := oi h; simp
   ·cases h
 | gone => obtain rfl := oi h; simp
 | mp it p kt vt bx l tk =>
   simp only [renRow] at h
   split at h
   ·split at h
    ·obtain rfl := oi h; simp
    ·split at h
     ·obtain rfl := oi h; simp
     ·cases h
   ·cases h
theorem Qmc {m : List (Nat × Nat)} {x : Row} {it : Nat} {bx : Bool} {p : Prov} {kt vt : Ty} {l : List (kt.D × vt.D)} {tk : Option (kt.D × Nat)} (h : renRow leave m rows x = some (.mp it p kt vt bx l tk)) :
  ∃ (n0 : Nat) (p0 : Prov) (l0 : List (kt.D × vt.D)) (tk0 : Option (kt.D × Nat)), x = .mp it p0 kt vt bx l0 tk0 := by
 cases x with
 | arr p t l =>
   simp only [renRow] at h
   split at h <;> cases h
 | gone => cases h
 | vars l =>
   simp only [renRow] at h
   split at h <;> cases h
 | mp it p kt vt bx l tk =>
   simp only [renRow] at h
   split at h
   ·split at h
    ·cases h; exact ⟨0, _, _, _, rfl⟩
    ·split at h
     ·cases h; exact ⟨0, _, _, _, rfl⟩
     ·cases h
   ·cases h
theorem Qmd {m : List (Nat × Nat)} {x y : Row} (h : renRow leave m rows x = some y) (hx : x.plain) : y.plain := by
 cases x with
 | arr p t l =>
   simp only [renRow] at h
   split at h
   ·obtain rfl := oi h; trivial
   ·cases h
 | gone => obtain rfl := oi h; trivial
 | vars l => exact hx.elim
 | mp it p kt vt bx l tk => exact hx.elim
theorem Q5o (h : Pk leave rows ids rs) {p : Prov} (hp : okProv rows p = true) : okProv (rowsOf rs) (dedup (Qs leave (Qe 1 ids) rows p)) = true := by
 refine Q33 fun q hq s hs => ?_
 rcases Q1t (Q4i hq) with h0 | ⟨h1, r, n, h2, h3⟩
 ·rw [h0, Q11] at hs; cases hs
 ·obtain ⟨k, s0, x, _, _, g1, g2, g3, _⟩ := h.found (pl := ⟨fun _ => none, fun _ => False, fun _ => False, fun _ _ => False⟩) (Z := fun _ => False) (L := fun _ => False) h3
  rw [hs] at g3
  obtain rfl := oi g3
  obtain ⟨g4, _⟩ := Q2l hp (r, n) h2 s0 g1
  exact ⟨fun e => g4 ((Q1u g2).1 e), h1.symm⟩
theorem Q5p (h0 : rows 0 = none) (h : Pk leave rows ids rs) {p : Prov} (hp : ProvIn rows p) : ProvIn (rowsOf rs) (dedup (Qs leave (Qe 1 ids) rows p)) := by
 intro q hq
 rcases Q1t (Q4i hq) with hz | ⟨h1, r, n, h2, h3⟩
 ·exact .inl hz
 ·obtain ⟨k, s0, x, _, _, g1, g2, g3, _⟩ := h.found (pl := ⟨fun _ => none, fun _ => False, fun _ => False, fun _ _ => False⟩) (Z := fun _ => False) (L := fun _ => False) h3
  refine .inr ⟨_, g3, .inl (by omega), Qmd g2 ?_⟩
  rcases hp (r, n) h2 with e | ⟨s1, e1, _, e3⟩
  ·simp only at e
   subst e
   rw [h0] at g1; cases g1
  ·rw [g1] at e1
   obtain rfl := oi e1
   exact e3
def Left (leave : Option Prov) (pl : Pl) (rows : Rows) (ids : List Nat) (b : Nat) : Prop := leave.isSome = true ∧ ∃ r s o, rows r = some s ∧ s.live ∧ pl.at r b o ∧ r ∉ ids
theorem Qcx (h : Pk leave rows ids rs) (h0 : rows 0 = none) (hZ : ∀ b, Z b → pl.Z b ∨ Left leave pl rows ids b) (hL : ∀ (p : Prov) (b : Nat), covers leave (Qe 1 ids) p = true → Safe w pl rows p b → Z b → L b) {p : Prov} {b : Nat} (hc : covers leave (Qe 1 ids) p = true) (hs : Safe w pl rows p b) :
  Safe w (pkPl pl ids Z L) (rowsOf rs) (dedup (Qs leave (Qe 1 ids) rows p)) b := by
 have hs0 := hs
 obtain ⟨h1, h2, h3⟩ := hs
 refine ⟨h1, fun hz => ⟨hL p b hc hs0 hz, ?_⟩, fun r' s' o hr hl hloc => ?_⟩
 ·rcases hZ b hz with hz | ⟨hl, r, s, o, g1, g2, g3, g4⟩
  ·obtain ⟨_, ⟨r, n⟩, hq, e⟩ := h2 hz
   simp only at e
   subst e
   obtain ⟨q', e1, e2⟩ := Q7v (Qaq (leave := leave) h0 (h.nozero h0) hq)
   exact ⟨q', e1, e2⟩
  ·obtain ⟨⟨r', n⟩, hq, e⟩ := h3 r s o g1 g2 g3
   simp only at e
   subst e
   have hf : findN (Qe 1 ids) r' = none := by
    cases hf : findN (Qe 1 ids) r' with
    | none => rfl
    | some i =>
      obtain ⟨k, _, _, _, hk, _⟩ := h.found (pl := pl) (Z := Z) (L := L) hf
      exact absurd (List.mem_of_getElem? hk) g4
   obtain ⟨q', e1, e2⟩ := Q7v (Q8k hl hf g1 hq)
   exact ⟨q', e1, e2⟩
 ·obtain ⟨k, r, s, x, rfl, hk, hf, g1, g2, rfl, g3⟩ := h.at (pl := pl) (Z := Z) (L := L) hr
  rw [pk_at hk] at hloc
  obtain ⟨⟨r2, n⟩, hq, e⟩ := h3 r s o g1 (fun e => hl ((Q1u g2).2 e)) hloc
  simp only at e
  subst e
  obtain ⟨q', e1, e2⟩ := Q7v (Qd1 (leave := leave) (rows := rows) hf hq)
  exact ⟨q', e1, e2⟩
mutual
theorem Q1il {m : List (Nat × Nat)} : ∀ {v v' : PV}, ren leave m rows v = some v' → okPV rows v = true
 | .val p t x, v', h => by
   simp only [ren] at h
   split at h
   ·rename_i hc; exact (Bool.and_eq_true _ _ ▸ hc : _ ∧ _).1
   ·cases h
 | .pvl p t l i off, v', h => by
   simp only [ren] at h
   split at h
   ·rename_i hc; exact (Bool.and_eq_true _ _ ▸ hc : _ ∧ _).1
   ·cases h
 | .nils, _, _ => rfl
 | .nilp, _, _ => rfl
 | .lit _, _, _ => rfl
 | .und, _, _ => rfl
 | .rw _, _, _ => rfl
 | .rs _ _ _, _, _ => rfl
 | .ptr _ _, _, _ => rfl
 | .pel _ _ _, _, _ => rfl
 | .fn f l, v', h => by
   simp only [ren] at h
   split at h
   ·rename_i l' hl; exact Q26 hl
   ·cases h
 | .agg l, v', h => by
   simp only [ren] at h
   split at h
   ·rename_i l' hl; exact Q26 hl
   ·cases h
 | .tup l, v', h => by
   simp only [ren] at h
   split at h
   ·rename_i l' hl; exact Q26 hl
   ·cases h
theorem Q26 {m : List (Nat × Nat)} : ∀ {l l' : List PV}, ren.renAll leave m rows l = some l' → okPV.okAll rows l = true
 | [], _, _ => rfl
 | v :: l, l', h => by
   simp only [ren.renAll] at h
   split at h
   ·rename_i v' hv
    split at h
    ·rename_i l'' hl
     simp only [okPV.okAll, Q1il hv, Q26 hl, Bool.and_self]
    ·cases h
   ·cases h
end
mutual
theorem pk_vr (h : Pk leave rows ids rs) (h0 : rows 0 = none) (hZ : ∀ b, Z b → pl.Z b ∨ Left leave pl rows ids b) (hL : ∀ (p : Prov) (b : Nat), covers leave (Qe 1 ids) p = true → Safe w pl rows p b → Z b → L b) : ∀ {v v' : PV} {u : Value}, ren leave (Qe 1 ids) rows v = some v' → Men rows v → VR w pl rows v u →
  Men (rowsOf rs) v' ∧ okPV (rowsOf rs) v' = true ∧ VR w (pkPl pl ids Z L) (rowsOf rs) v' u
 | .val p t x, v', u, hr, hm, hv => by
   simp only [ren] at hr
   split at hr
   ·rename_i hp
    rw [Bool.and_eq_true] at hp
    obtain rfl := oi hr
    exact ⟨Q5p h0 h hm, Q5o h hp.1, Qn (fun b hb => Qcx h h0 hZ hL hp.2 hb) (fun _ _ => rfl) hv⟩
   ·cases hr
 | .pvl p t l i off, v', u, hr, hm, hv => by
   simp only [ren] at hr
   split at hr
   ·rename_i hp
    rw [Bool.and_eq_true] at hp
    obtain rfl := oi hr
    obtain ⟨x, es, g1, g2, ad, g3, g4, g5⟩ := hv
    exact ⟨Q5p h0 h hm, Q5o h hp.1, x, es, g1, Qn (fun b hb => Qcx h h0 hZ hL hp.2 hb) (fun _ _ => rfl) g2, ad, g3, Qcx h h0 hZ hL hp.2 g4, g5⟩
   ·cases hr
 | .nils, v', u, hr, _, hv => by obtain rfl := oi hr; exact ⟨trivial, rfl, hv⟩
 | .nilp, v', u, hr, _, hv => by obtain rfl := oi hr; exact ⟨trivial, rfl, hv⟩
 | .lit _, v', u, hr, _, hv => by obtain rfl := oi hr; exact ⟨trivial, rfl, hv⟩
 | .und, v', u, hr, _, hv => by obtain rfl := oi hr; exact ⟨trivial, rfl, hv⟩
 | .rw r, v', u, hr, hm, hv => by
   simp only [ren] at hr
   split at hr
   ·rename_i i hf
    obtain rfl := oi hr
    obtain ⟨k, s, x, _, _, g1, g2, g3, g4⟩ := h.found (pl := pl) (Z := Z) (L := L) hf
    refine ⟨by simp [Men, g3], rfl, ⟨hv.1.1, fun n p kt vt bx l tk hl => ?_⟩, fun n p t l hl => ?_⟩
    ·rw [g3] at hl
     cases hl
     obtain ⟨n0, p0, l0, tk0, e⟩ := Qmc g2
     obtain ⟨n1, row⟩ := s
     simp only at e
     subst e
     obtain ⟨b, e1, e2⟩ := hv.1.2 _ _ _ _ _ _ _ g1
     exact ⟨b, by rw [g4]; exact e1, e2⟩
    rw [g3] at hl
    cases hl
    obtain ⟨n0, row⟩ := s
    cases row with
    | arr p0 t0 l0 =>
      simp only [renRow] at g2
      split at g2
      ·cases g2
       obtain ⟨A, c, e1, e2, e3⟩ := hv.2 _ _ _ _ g1
       exact ⟨A, c, e1, e2, fun hc => by rw [g4]; exact e3 hc⟩
      ·cases g2
    | vars l0 => simp only [renRow] at g2; split at g2 <;> cases g2
    | gone => cases g2
    | mp it p0 kt0 vt0 bx0 l0 tk0 =>
      simp only [renRow] at g2
      split at g2
      ·split at g2
       ·cases g2
       ·split at g2 <;> cases g2
      ·cases g2
   ·cases hr
 | .rs r off len, v', u, hr, hm, hv => by
   simp only [ren] at hr
   split at hr
   ·rename_i i hf
    obtain rfl := oi hr
    obtain ⟨k, s, x, _, _, g1, g2, g3, g4⟩ := h.found (pl := pl) (Z := Z) (L := L) hf
    refine ⟨by simp [Men, g3], rfl, hv.1, fun n p t l hl => ?_⟩
    rw [g3] at hl
    cases hl
    obtain ⟨n0, row⟩ := s
    cases row with
    | arr p0 t0 l0 =>
      simp only [renRow] at g2
      split at g2
      ·cases g2
       obtain ⟨hle, A, c, e1, e2, e3⟩ := hv.2 _ _ _ _ g1
       exact ⟨hle, A, c, e1, e2, fun hc => by rw [g4]; exact e3 hc⟩
      ·cases g2
    | vars l0 => simp only [renRow] at g2; split at g2 <;> cases g2
    | gone => cases g2
    | mp it p0 kt0 vt0 bx0 l0 tk0 =>
      simp only [renRow] at g2
      split at g2
      ·split at g2
       ·cases g2
       ·split at g2 <;> cases g2
      ·cases g2
   ·cases hr
 | .ptr r off, v', u, hr, hm, hv => by
   simp only [ren] at hr
   split at hr
   ·rename_i i hf
    obtain rfl := oi hr
    obtain ⟨k, s, x, _, _, g1, g2, g3, g4⟩ := h.found (pl := pl) (Z := Z) (L := L) hf
    refine ⟨by simp [Men, g3], rfl, ⟨hv.1.1, hv.1.2.1, fun n i p kt vt bx l tk hl => ?_⟩, fun n l hl => ?_⟩
    ·rw [g3] at hl
     cases hl
     obtain ⟨n0, p0, l0, tk0, e⟩ := Qmc g2
     obtain ⟨n1, row⟩ := s
     simp only at e
     subst e
     obtain ⟨b, e1, e2⟩ := hv.1.2.2 _ _ _ _ _ _ _ _ g1
     exact ⟨b, by rw [g4]; exact e1, e2⟩
    rw [g3] at hl
    cases hl
    obtain ⟨n0, row⟩ := s
    cases row with
    | vars l0 =>
      obtain ⟨b, e1, e2⟩ := hv.2 _ _ g1
      exact ⟨b, by rw [g4]; exact e1, e2⟩
    | arr p0 t0 l0 => simp only [renRow] at g2; split at g2 <;> cases g2
    | gone => cases g2
    | mp it p0 kt0 vt0 bx0 l0 tk0 =>
      simp only [renRow] at g2
      split at g2
      ·split at g2
       ·cases g2
       ·split at g2 <;> cases g2
      ·cases g2
   ·cases hr
 | .pel r i off, v', u, hr, hm, hv => by
   simp only [ren] at hr
   split at hr
   ·rename_i i' hf
    obtain rfl := oi hr
    obtain ⟨k, s, x, _, _, g1, g2, g3, g4⟩ := h.found (pl := pl) (Z := Z) (L := L) hf
    refine ⟨by simp [Men, g3], rfl, hv.1, fun n p t l hl => ?_⟩
    rw [g3] at hl
    cases hl
    obtain ⟨n0, row⟩ := s
    cases row with
    | arr p0 t0 l0 =>
      simp only [renRow] at g2
      split at g2
      ·cases g2
       obtain ⟨hi, b, o, e1, e2⟩ := hv.2 _ _ _ _ g1
       exact ⟨hi, b, o, by rw [g4]; exact e1, e2⟩
      ·cases g2
    | vars l0 => simp only [renRow] at g2; split at g2 <;> cases g2
    | gone => cases g2
    | mp it p0 kt0 vt0 bx0 l0 tk0 =>
      simp only [renRow] at g2
      split at g2
      ·split at g2
       ·cases g2
       ·split at g2 <;> cases g2
      ·cases g2
   ·cases hr
 | .fn f l, v', u, hr, hm, hv => by
   simp only [ren] at hr
   split at hr
   ·rename_i l' hl
    obtain rfl := oi hr
    obtain ⟨cs, e, g⟩ := hv
    obtain ⟨q1, q2, q3⟩ := Qao h h0 hZ hL (l := l) hl hm g
    exact ⟨q1, q2, cs, e, q3⟩
   ·cases hr
 | .agg l, v', u, hr, hm, hv => by
   simp only [ren] at hr
   split at hr
   ·rename_i l' hl
    obtain rfl := oi hr
    obtain ⟨cs, e, g, g1⟩ := hv
    obtain ⟨q1, q2, q3⟩ := Qao h h0 hZ hL (l := l) hl hm g
    exact ⟨q1, q2, cs, e, q3, g1⟩
   ·cases hr
 | .tup l, v', u, hr, hm, hv => by
   simp only [ren] at hr
   split at hr
   ·rename_i l' hl
    obtain rfl := oi hr
    obtain ⟨cs, us, es, e, e2, g⟩ := hv
    obtain ⟨q1, q2, q3⟩ := Qao h h0 hZ hL (l := l) hl hm g
    exact ⟨q1, q2, cs, us, es, e, e2, q3⟩
   ·cases hr
theorem Qao (h : Pk leave rows ids rs) (h0 : rows 0 = none) (hZ : ∀ b, Z b → pl.Z b ∨ Left leave pl rows ids b) (hL : ∀ (p : Prov) (b : Nat), covers leave (Qe 1 ids) p = true → Safe w pl rows p b → Z b → L b) : ∀ {l l' : List PV} {us : List Value}, ren.renAll leave (Qe 1 ids) rows l = some l' → Mens rows l → VRs w pl rows l us →
  Mens (rowsOf rs) l' ∧ okPV.okAll (rowsOf rs) l' = true ∧ VRs w (pkPl pl ids Z L) (rowsOf rs) l' us
 | [], l', us, hr, _, hv => by
   obtain rfl := oi hr
   exact ⟨trivial, rfl, hv⟩
 | v :: l, l', us, hr, hm, hv => by
   simp only [ren.renAll] at hr
   split at hr
   ·rename_i v' hv'
    split at hr
    ·rename_i l'' hl
     obtain rfl := oi hr
     obtain ⟨u, us', rfl, g1, g2⟩ := hv
     obtain ⟨q1, q2, q3⟩ := pk_vr h h0 hZ hL (v := v) hv' hm.1 g1
     obtain ⟨r1, r2, r3⟩ := Qao h h0 hZ hL (l := l) hl hm.2 g2
     exact ⟨⟨q1, r1⟩, by simp only [okPV.okAll, q2, r2, Bool.and_self], u, us', rfl, q3, r3⟩
    ·cases hr
   ·cases hr
end
theorem Q97 {m : List (Nat × Nat)} : ∀ {l l' : List PV}, ren.renAll leave m rows l = some l' → ∀ (j : Nat) (y : PV), l'[j]? = some y → ∃ x, l[j]? = some x ∧ ren leave m rows x = some y
 | [], l', h, j, y, hy => by obtain rfl := oi h; simp at hy
 | v :: l, l', h, j, y, hy => by
   simp only [ren.renAll] at h
   split at h
   ·rename_i v' hv
    split at h
    ·rename_i l'' hl
     obtain rfl := oi h
     cases j with
     | zero => simp at hy; subst hy; exact ⟨v, rfl, hv⟩
     | succ j => simpa using Q97 hl j y (by simpa using hy)
    ·cases h
   ·cases h
theorem Qfq {m : List (Nat × Nat)} : ∀ {l l' : List PV}, ren.renAll leave m rows l = some l' → l'.length = l.length
 | [], l', h => by obtain rfl := oi h; rfl
 | v :: l, l', h => by
   simp only [ren.renAll] at h
   split at h
   ·split at h
    ·rename_i l'' hl
     obtain rfl := oi h
     simp [Qfq hl]
    ·cases h
   ·cases h
theorem Q1ij (h : Pk leave rows ids rs) (h0 : rows 0 = none) (hZ : ∀ b, Z b → pl.Z b ∨ Left leave pl rows ids b) (hL : ∀ (p : Prov) (b : Nat), covers leave (Qe 1 ids) p = true → Safe w pl rows p b → Z b → L b) {r i : Nat} {s : RowS} {x : Row} (hx : renRow leave (Qe 1 ids) rows s.row = some x) (hloc : (pkPl pl ids Z L).loc i = pl.loc r) (hhid : (pkPl pl ids Z L).hid i = pl.hid r) (hR : RowR w pl rows r s) :
  RowR w (pkPl pl ids Z L) (rowsOf rs) i ⟨0, x⟩ := by
 obtain ⟨n, row⟩ := s
 cases row with
 | gone => cases hx; trivial
 | arr p t l =>
   simp only [renRow] at hx
   split at hx
   ·rename_i hp
    rw [Bool.and_eq_true] at hp
    cases hx
    obtain ⟨g1, g2⟩ := hR
    refine ⟨Q5p h0 h g1, ?_⟩
    rw [hloc]
    cases hlr : pl.loc r with
    | none => rw [hlr] at g2; exact g2
    | some bo =>
      obtain ⟨b, o⟩ := bo
      rw [hlr] at g2
      obtain ⟨arr, Te, fr, e1, e2, e3, e4⟩ := g2
      refine ⟨arr, Te, fr, e1, e2, e3, fun _ j y hy => ?_⟩
      obtain ⟨es, q1, q2⟩ := e4 hp.1 j y hy
      exact ⟨es, Qn (fun b hb => Qcx h h0 hZ hL hp.2 hb) (fun _ _ => rfl) q1, q2⟩
   ·cases hx
 | vars l =>
   simp only [renRow] at hx
   split at hx
   ·rename_i l' hl
    cases hx
    obtain ⟨g1, b, arr, Te, fr, e0, e1, e2, e3, e4⟩ := hR
    have ok := Q26 hl
    refine ⟨Qco fun y hy => ?_, b, arr, Te, fr, hloc.trans e0, e1, by rw [Qfq hl]; exact e2, e3, fun j y hy => ?_⟩
    ·obtain ⟨j, hj⟩ := List.getElem?_of_mem hy
     obtain ⟨z, z1, z2⟩ := Q97 hl j y hj
     obtain ⟨u, q1, q2, q3⟩ := e4 j z z1
     exact (pk_vr (Z := Z) (L := L) h h0 hZ hL z2 (Qq g1 z (List.mem_of_getElem? z1)) (q3 (Q25 ok z (List.mem_of_getElem? z1)))).1
    ·obtain ⟨z, z1, z2⟩ := Q97 hl j y hy
     obtain ⟨u, q1, q2, q3⟩ := e4 j z z1
     exact ⟨u, q1, q2, fun _ => (pk_vr h h0 hZ hL z2 (Qq g1 z (List.mem_of_getElem? z1)) (q3 (Q25 ok z (List.mem_of_getElem? z1)))).2.2⟩
   ·cases hx
 | mp it p kt vt bx l tk =>
   simp only [renRow] at hx
   split at hx
   ·rename_i hp
    rw [Bool.and_eq_true] at hp
    obtain ⟨g1, g2, b, es1, st, bs, e1, e2, e4, e5, e6, e7, e8⟩ := hR
    have hents := e4.frame (w' := w) (S' := Safe w (pkPl pl ids Z L) (rowsOf rs) (dedup (Qs leave (Qe 1 ids) rows p))) (ok' := okProv (rowsOf rs) (dedup (Qs leave (Qe 1 ids) rows p)) = true)
     (fun _ => ⟨hp.1, fun b hb => ⟨Qcx h h0 hZ hL hp.2 hb, rfl⟩⟩) (fun _ _ => rfl)
    have hmap := e2.frame (w' := w) (pl' := pkPl pl ids Z L) (r' := i) (fun x hx => ⟨by rw [hhid]; exact hx, rfl⟩) rfl
    split at hx
    ·cases hx
     exact ⟨Q5p h0 h g1, g2, b, es1, st, bs, hloc.trans e1, hmap, hents, e5, e6, e7, fun x hx => by rw [hhid]; exact e8 x hx⟩
    ·rename_i k r0
     split at hx
     ·rename_i r1 hf
      cases hx
      have hren : ren leave (Qe 1 ids) rows (tkPV bx r0) = some (tkPV bx r1) := by
       cases bx
       ·show ren leave (Qe 1 ids) rows (.rw r0) = some (.rw r1)
        simp only [ren, hf]
       ·show ren leave (Qe 1 ids) rows (.ptr r0 0) = some (.ptr r1 0)
        simp only [ren, hf]
      have hmen : Men (rowsOf rs) (tkPV bx r1) := by
       obtain ⟨k1, s1, x1, _, hk1, f1, f2, f3, f4⟩ := h.found (pl := pl) (Z := Z) (L := L) hf
       cases bx
       ·show rowsOf rs r1 ≠ none
        rw [f3]; simp
       ·show rowsOf rs r1 ≠ none
        rw [f3]; simp
      refine ⟨Q5p h0 h g1, g2, b, es1, st, bs, hloc.trans e1, hmap, hents, ⟨hmen, e5.2.imp id ?_⟩, e6, e7, fun x hx => by rw [hhid]; exact e8 x hx⟩
      rintro ⟨e, q1, q2, q3⟩
      exact ⟨e, q1, q2, (pk_vr h h0 hZ hL hren e5.1 q3).2.2⟩
     ·cases hx
   ·cases hx
def rowOk (rows : Rows) : Row → Prop
 | .arr p _ _ => okProv rows p = true
 | .vars l => okPV.okAll rows l = true
 | .gone => True
 | .mp _ p _ _ _ _ _ => okProv rows p = true
theorem Q175 (h : Pk leave rows ids rs) (h0 : rows 0 = none) {x : Row} {s : RowS} {r : Nat} (hx : renRow leave (Qe 1 ids) rows s.row = some x) (hR : RowR w pl rows r s) : rowOk (rowsOf rs) x := by
 obtain ⟨n, row⟩ := s
 cases row with
 | gone => cases hx; trivial
 | arr p t l =>
   simp only [renRow] at hx
   split at hx
   ·rename_i hp
    rw [Bool.and_eq_true] at hp
    cases hx
    exact Q5o h hp.1
   ·cases hx
 | vars l =>
   simp only [renRow] at hx
   split at hx
   ·rename_i l' hl
    cases hx
    obtain ⟨g1, b, arr, Te, fr, e0, e1, e2, e3, e4⟩ := hR
    have ok := Q26 hl
    have hvs : VRs w pl rows l arr.toList := Qn0 (by simpa using e2) fun j z u hz hu => by
     obtain ⟨u', q1, q2, q3⟩ := e4 j z hz
     have : u = u' := by
      rw [Array.getElem?_toList, q1] at hu
      exact (oi hu).symm
     rw [this]
     exact q3 (Q25 ok z (List.mem_of_getElem? hz))
    exact (Qao (Z := pl.Z) (L := pl.L) h h0 (fun b hb => .inl hb) (fun p b _ hs hz => (hs.2.1 hz).1) hl g1 hvs).2.1
   ·cases hx
 | mp it p kt vt bx l tk =>
   simp only [renRow] at hx
   split at hx
   ·rename_i hp
    rw [Bool.and_eq_true] at hp
    split at hx
    ·cases hx
     exact Q5o h hp.1
    ·split at hx
     ·cases hx
      exact Q5o h hp.1
     ·cases hx
   ·cases hx
end
def CRs (w : World) (pl : Pl) (rows : Rows) : List PV → List Value → Prop
 | [], us => us = []
 | x :: l, us => ∃ u us', us = u :: us' ∧ (Men rows x ∧ (okPV rows x = true → VR w pl rows x u)) ∧ CRs w pl rows l us'
section
variable {P : Program} {B nt : Nat} {G : Nat → Prop} {pl pl' : Pl} {σ : St} {a : Act} {w w' : World} {rows rows' : Rows}
theorem CRs.step (S : Step w pl rows w' pl' rows') : ∀ {l : List PV} {us : List Value}, CRs w pl rows l us → CRs w' pl' rows' l us
 | [], _, h => h
 | x :: l, us, h => by
   obtain ⟨u, us', rfl, ⟨h1, h2⟩, h3⟩ := h
   exact ⟨u, us', rfl, ⟨S.men h1, fun hk => S.vr h1 hk h2⟩, CRs.step S h3⟩
theorem CRs.of : ∀ {l : List PV} {us : List Value}, Mens rows l → VRs w pl rows l us → CRs w pl rows l us
 | [], _, _, h => h
 | x :: l, us, hm, h => by
   obtain ⟨u, us', rfl, h1, h2⟩ := h
   exact ⟨u, us', rfl, ⟨hm.1, fun _ => h1⟩, CRs.of hm.2 h2⟩
theorem CRs.out : ∀ {l : List PV} {us : List Value}, CRs w pl rows l us → Mens rows l ∧ (okPV.okAll rows l = true → VRs w pl rows l us)
 | [], us, h => ⟨trivial, fun _ => h⟩
 | x :: l, us, h => by
   obtain ⟨u, us', rfl, ⟨h1, h2⟩, h3⟩ := h
   obtain ⟨g1, g2⟩ := CRs.out h3
   refine ⟨⟨h1, g1⟩, fun hk => ?_⟩
   simp only [okPV.okAll, Bool.and_eq_true] at hk
   exact ⟨u, us', rfl, h2 hk.1, g2 hk.2⟩
theorem CRs.len : ∀ {l : List PV} {us : List Value}, CRs w pl rows l us → us.length = l.length
 | [], us, h => by rw [show us = [] from h]; rfl
 | x :: l, us, h => by obtain ⟨u, us', rfl, _, h3⟩ := h; simp [h3.len]
theorem CRs.get : ∀ {l : List PV} {us : List Value}, CRs w pl rows l us → ∀ (j : Nat) (x : PV), l[j]? = some x → ∃ u, us[j]? = some u ∧ Men rows x ∧ (okPV rows x = true → VR w pl rows x u)
 | [], us, h, j, x, hx => by simp at hx
 | y :: l, us, h, j, x, hx => by
   obtain ⟨u, us', rfl, h1, h3⟩ := h
   cases j with
   | zero => simp at hx; subst hx; exact ⟨u, rfl, h1⟩
   | succ j => simpa using CRs.get h3 j x (by simpa using hx)
theorem CRs.mk_ : ∀ {l : List PV} {us : List Value}, us.length = l.length → (∀ (j : Nat) (x : PV) (u : Value), l[j]? = some x → us[j]? = some u → Men rows x ∧ (okPV rows x = true → VR w pl rows x u)) → CRs w pl rows l us
 | [], us, h, _ => by simpa [CRs] using h
 | x :: l, [], h, _ => by simp at h
 | x :: l, u :: us, h, g => ⟨u, us, rfl, g 0 x u rfl rfl, CRs.mk_ (by simpa using h) fun j y v hy hv => g (j + 1) y v (by simpa using hy) (by simpa using hv)⟩
theorem Rel.grow0 (R : Rel B G pl σ a w) (hZ : ∀ b, pl.Z b → b < B) (hB : B ≤ w.heap.size) {rows1 : Rows} {key : Nat} {s : RowS} {kl : Option (Nat × Nat)} (hk : σ.rows key = none) (h0 : key ≠ 0) (hw : Wane σ.rows rows1)
  (hloc : ∀ b o, kl = some (b, o) → b < w.heap.size ∧ Freed pl σ.rows rows1 b)
  (hrow : Step w pl σ.rows w (pl.put key kl) (upd rows1 key (some s)) → RowR w (pl.put key kl) (upd rows1 key (some s)) key s) :
  Step w pl σ.rows w (pl.put key kl) (upd rows1 key (some s)) ∧ Rel B G (pl.put key kl) ⟨σ.env, upd rows1 key (some s)⟩ a w := by
 have := R.grow (nt := 0) (w' := w) (rows1 := rows1) (s := s) (kl := kl) (dst := none) (ov := none) (u := undef) (Nat.zero_le _) hZ hB hk h0 hw (Nat.le_refl _) (fun b hb => .inl rfl)
  (fun b arr Te fr h => ⟨arr, Te, fr, h, rfl⟩) (fun b o h => ⟨(hloc b o h).1, .inr (hloc b o h).2⟩) hrow (fun S => ⟨fun v e => (by cases e), fun _ => rfl⟩)
 exact this
theorem Q7o {key : Nat} {x : Row} {r : Rows × Nat} (h : addRow rows key x = some r) : rows key = none ∧ r = (upd rows key (some ⟨0, x⟩), key + 1) := by
 unfold addRow at h
 split at h
 ·rename_i hk
  exact ⟨hk, (oi h).symm⟩
 ·cases h
theorem Q1cv (R : Rel B G pl σ a w) (hZ : ∀ b, pl.Z b → b < B) (hB : B ≤ w.heap.size) {key : Nat} {t : Ty} (hk : σ.rows key = none) (h0 : key ≠ 0) {u : Value} (hu : u = .slice none 0 0) :
  ∃ pl', Step w pl σ.rows w pl' (upd σ.rows key (some ⟨0, .arr [] t []⟩)) ∧ Rel B G pl' ⟨σ.env, upd σ.rows key (some ⟨0, .arr [] t []⟩)⟩ a w ∧ Men (upd σ.rows key (some ⟨0, .arr [] t []⟩)) (.rw key) ∧
    VR w pl' (upd σ.rows key (some ⟨0, .arr [] t []⟩)) (.rw key) u := by
 obtain ⟨S, Q⟩ := R.grow0 (rows1 := σ.rows) (s := ⟨0, .arr [] t []⟩) (kl := none) hZ hB hk h0 (Wane.refl _) (fun b o h => by cases h)
  (fun S => ⟨Qa _, by rw [Q1j, if_pos rfl]⟩)
 refine ⟨_, S, Q, by simp [Men, Q8], ?_⟩
 subst hu
 refine ⟨⟨rfl, fun n p kt vt bx l tk hr => (by rw [Q8, if_pos rfl] at hr; cases hr)⟩, fun n p t' l hr => ?_⟩
 rw [Q8, if_pos rfl] at hr
 cases hr
 exact ⟨none, 0, rfl, Nat.le_refl _, fun h => absurd h (Nat.lt_irrefl _)⟩
theorem Qjh (R : Rel B G pl σ a w) (hZ : ∀ b, pl.Z b → b < B) (hB : B ≤ w.heap.size) {key r n off len : Nat} {p : Prov} {t : Ty} {l : List t.D} (hr : σ.rows r = some ⟨n, .arr p t l⟩) (hk : σ.rows key = none) (h0 : key ≠ 0) {u : Value}
  (hv : VR w pl σ.rows (.rs r off len) u) :
  ∃ pl', Step w pl σ.rows w pl' (upd (upd σ.rows r (some ⟨n, .gone⟩)) key (some ⟨0, .arr p t ((l.drop off).take len)⟩)) ∧
    Rel B G pl' ⟨σ.env, upd (upd σ.rows r (some ⟨n, .gone⟩)) key (some ⟨0, .arr p t ((l.drop off).take len)⟩)⟩ a w ∧
    Men (upd (upd σ.rows r (some ⟨n, .gone⟩)) key (some ⟨0, .arr p t ((l.drop off).take len)⟩)) (.rw key) ∧
    VR w pl' (upd (upd σ.rows r (some ⟨n, .gone⟩)) key (some ⟨0, .arr p t ((l.drop off).take len)⟩)) (.rw key) u := by
 obtain ⟨g1, g2⟩ := R.rows _ _ hr
 obtain ⟨hle, A, c, rfl, e2, e3⟩ := hv.2 n p t l hr
 have hlen : ((l.drop off).take len).length = len := by simp; omega
 have hle2 : off * t.size + len * t.size ≤ l.length * t.size := by
  rw [← Nat.add_mul]; exact Nat.mul_le_mul_right _ hle
 obtain ⟨kl, hkl⟩ : ∃ kl, kl = (pl.loc r).map fun bo => (bo.1, bo.2 + off * t.size) := ⟨_, rfl⟩
 obtain ⟨S, Q⟩ := R.grow0 (rows1 := upd σ.rows r (some ⟨n, .gone⟩)) (s := ⟨0, .arr p t ((l.drop off).take len)⟩) (kl := kl) hZ hB hk h0 (Wane.one hr)
  (fun b o h => by
   rw [hkl] at h
   obtain ⟨⟨b', o'⟩, e, h⟩ := Option.map_eq_some_iff.1 h
   cases h
   exact ⟨(R.own r _ b' o' hr (by simp [RowS.live]) (.inl e)).1, r, _, n, o', hr, by simp [RowS.live], by rw [Q8, if_pos rfl], e⟩)
  (fun S => by
   refine ⟨S.provIn g1, ?_⟩
   rw [Q1j, if_pos rfl]
   cases hlr : pl.loc r with
   | none =>
     rw [hlr] at g2 hkl
     have g2' : l = [] := g2
     subst g2'
     subst hkl
     simp
   | some bo =>
     obtain ⟨b, o⟩ := bo
     rw [hlr] at g2 hkl
     subst hkl
     obtain ⟨arr, Te, fr, f1, f2, f3, f4⟩ := g2
     refine ⟨arr, Te, fr, f1, by rw [hlen]; simp only; omega, f3, fun hok i x hx => ?_⟩
     simp only [List.getElem?_take, List.getElem?_drop] at hx
     split at hx
     ·obtain ⟨es, q1, q2⟩ := f4 (S.okProv g1 hok) _ x hx
      refine ⟨es, S.rd g1 hok q1, ?_⟩
      rw [Nat.add_assoc, ← Nat.add_mul]
      exact q2
     ·cases hx)
 refine ⟨_, S, Q, by simp [Men, Q8], ⟨rfl, fun n p kt vt bx l tk hr => (by rw [Q8, if_pos rfl] at hr; cases hr)⟩, fun n' p' t' l' hr' => ?_⟩
 rw [Q8, if_pos rfl] at hr'
 cases hr'
 refine ⟨A, c, by rw [hlen], by rw [hlen]; exact e2, fun hc => ?_⟩
 obtain ⟨b, o, k1, k2, arr, Te, fr, k3, k4⟩ := e3 hc
 refine ⟨b, o + off * t.size, by rw [Q1j, if_pos rfl, hkl, k1]; rfl, by rw [k2]; simp, arr, Te, fr, k3, ?_⟩
 rw [Nat.zero_add, Nat.add_assoc, ← Nat.add_mul]
 exact k4
theorem Q16p (R : Rel B G pl σ a w) (hZ : ∀ b, pl.Z b → b < B) (hB : B ≤ w.heap.size) {key r n : Nat} {p : Prov} {t : Ty} {l : List t.D} (hr : σ.rows r = some ⟨n, .arr p t l⟩) (hk : σ.rows key = none) (h0 : key ≠ 0) {u : Value}
  (hv : VR w pl σ.rows (.rw r) u) :
  ∃ pl', Step w pl σ.rows w pl' (upd (upd σ.rows r (some ⟨n, .gone⟩)) key (some ⟨0, .arr p t l⟩)) ∧
    Rel B G pl' ⟨σ.env, upd (upd σ.rows r (some ⟨n, .gone⟩)) key (some ⟨0, .arr p t l⟩)⟩ a w ∧
    Men (upd (upd σ.rows r (some ⟨n, .gone⟩)) key (some ⟨0, .arr p t l⟩)) (.rw key) ∧
    VR w pl' (upd (upd σ.rows r (some ⟨n, .gone⟩)) key (some ⟨0, .arr p t l⟩)) (.rw key) u := by
 have hv' : VR w pl σ.rows (.rs r 0 l.length) u := by
  refine ⟨hv.1.1, fun n' p' t' l' hr' => ?_⟩
  have h := hv.2 n' p' t' l' hr'
  rw [hr] at hr'
  cases hr'
  exact ⟨by omega, h⟩
 have h := Qjh R hZ hB hr hk h0 hv'
 simpa using h
theorem Qqu (R : Rel B G pl σ a w) {r n : Nat} {p : Prov} {t : Ty} {l : List t.D} (hr : σ.rows r = some ⟨n, .arr p t l⟩) :
  Step w pl σ.rows w pl (upd σ.rows r (some ⟨n, .gone⟩)) ∧ Rel B G pl ⟨σ.env, upd σ.rows r (some ⟨n, .gone⟩)⟩ a w := by
 have r0 : r ≠ 0 := by rintro rfl; rw [R.zero] at hr; cases hr
 have S : Step w pl σ.rows w pl (upd σ.rows r (some ⟨n, .gone⟩)) := by
  refine Step.mk0 rfl rfl (Nat.le_refl _) (fun x s hx => ?_) (fun _ _ => rfl) (fun x s' h1 h2 => ?_) (fun x s' h1 h2 => ?_) (fun b _ _ => rfl) (fun b arr Te fr h => ⟨arr, Te, fr, h, rfl⟩) R.zero
  ·by_cases e : x = r
   ·subst e
    rw [hr] at hx
    cases hx
    exact ⟨⟨n, .gone⟩, by rw [Q8, if_pos rfl], ⟨Nat.le_refl _, .inr (.inl ⟨rfl, fun l h => by cases h⟩)⟩, fun _ => rfl⟩
   ·exact ⟨s, by rw [Q8, if_neg e]; exact hx, ⟨Nat.le_refl _, .inl rfl⟩, fun _ => rfl⟩
  ·by_cases e : x = r
   ·subst e; rw [hr] at h1; cases h1
   ·rw [Q8, if_neg e, h1] at h2; cases h2
  ·by_cases e : x = r
   ·subst e; rw [hr] at h1; cases h1
   ·rw [Q8, if_neg e, h1] at h2; cases h2
 have some_ : ∀ {x : Nat} {s : RowS}, upd σ.rows r (some ⟨n, .gone⟩) x = some s → σ.rows x ≠ none := by
  intro x s h
  by_cases e : x = r
  ·subst e; rw [hr]; simp
  ·rw [Q8, if_neg e] at h; rw [h]; simp
 refine ⟨S, R.step S (fun _ _ => rfl) (fun x s h1 h2 _ => absurd h1 (some_ h2)) R.defers (fun s v h => .inl ⟨h, (R.env s v h).1, rfl⟩) (fun x s' h1 h2 => ?_) ?_ (fun x x' s s' b o o' h1 _ h2 _ _ _ _ h3 => absurd h3 (some_ h2)) (fun x x' s s' b o o' h1 _ h2 _ _ _ h3 _ => absurd h3 (some_ h1)) (fun x s b o h1 _ _ h3 => absurd h3 (some_ h1))⟩
 ·by_cases e : x = r
  ·subst e
   rw [Q8, if_pos rfl] at h1
   cases h1
   trivial
  ·rw [Q8, if_neg e] at h1
   exact absurd h1 h2
 ·rw [Q8, if_neg (Ne.symm r0)]; exact R.zero
theorem Q1e1 (R : Rel B G pl σ a w) {r n : Nat} {p : Prov} {t : Ty} {l : List t.D} (hr : σ.rows r = some ⟨n, .arr p t l⟩) :
  Step w pl σ.rows w pl (upd σ.rows r (some ⟨n + 1, .arr ((0, 0) :: p) t l⟩)) ∧ Rel B G pl ⟨σ.env, upd σ.rows r (some ⟨n + 1, .arr ((0, 0) :: p) t l⟩)⟩ a w := by
 obtain ⟨g1, g2⟩ := R.rows _ _ hr
 have := R.write (nt := 0) (w' := w) (s' := ⟨n + 1, .arr ((0, 0) :: p) t l⟩) (dst := none) (ov := none) (u := undef) (Nat.zero_le _) hr (by simp [RowS.live]) ⟨by simp, .inr (.inr (.inl ⟨p, (0, 0) :: p, t, l, l, rfl, rfl, rfl, by simp⟩))⟩ (by simp) rfl (fun _ _ => rfl)
  (fun b arr Te fr h => ⟨arr, Te, fr, h, rfl⟩)
  (fun S => by
   refine ⟨fun q hq => ?_, ?_⟩
   ·rcases List.mem_cons.1 hq with rfl | hq
    ·exact .inl rfl
    ·exact S.provIn g1 q hq
   ·cases hlr : pl.loc r with
    | none => rw [hlr] at g2; exact g2
    | some bo =>
      obtain ⟨b, o⟩ := bo
      rw [hlr] at g2
      obtain ⟨arr, Te, fr, f1, f2, f3, f4⟩ := g2
      refine ⟨arr, Te, fr, f1, f2, f3, fun hok i x hx => ?_⟩
      have hok' : okProv (upd σ.rows r (some ⟨n + 1, .arr ((0, 0) :: p) t l⟩)) p = true := by
       simp only [okProv, Bool.and_eq_true] at hok
       exact hok.2
      obtain ⟨es, q1, q2⟩ := f4 (S.okProv g1 hok') i x hx
      exact ⟨es, Q1z (fun z hz => List.mem_cons_of_mem _ hz) (S.rd g1 hok' q1), q2⟩)
  (fun S => ⟨fun v e => (by cases e), fun _ => rfl⟩)
 exact this
theorem Q1e0 (R : Rel B G pl σ a w) (hZ : ∀ b, pl.Z b → b < B) (hB : B ≤ w.heap.size) {r n it : Nat} {p : Prov} {kt vt : Ty} {bx : Bool} {l : List (kt.D × vt.D)} {tk : Option (kt.D × Nat)} (hr : σ.rows r = some ⟨n, .mp it p kt vt bx l tk⟩) :
  Step w pl σ.rows w pl (upd σ.rows r (some ⟨n + 1, .mp it ((0, 0) :: p) kt vt bx l tk⟩)) ∧ Rel B G pl ⟨σ.env, upd σ.rows r (some ⟨n + 1, .mp it ((0, 0) :: p) kt vt bx l tk⟩)⟩ a w := by
 obtain ⟨g1, g2, b, es1, st, bs, e1, e2, e4, e5, e6, e7, e8⟩ := R.rows _ _ hr
 have r0 : r ≠ 0 := by rintro rfl; rw [R.zero] at hr; cases hr
 have hlv : RowS.live ⟨n, .mp it p kt vt bx l tk⟩ := by simp [RowS.live]
 have := R.alter (nt := 0) (w' := w) (pl' := pl) (rows' := upd σ.rows r (some ⟨n + 1, .mp it ((0, 0) :: p) kt vt bx l tk⟩)) (dst := none) (ov := none) (u := undef) (Nat.zero_le _) hZ hB (· = r) rfl rfl (Nat.le_refl _)
  (fun y hy => ⟨by rw [Q8, if_neg hy], rfl, rfl⟩)
  (fun y s hy hs => by
   subst hy
   rw [hr] at hs
   cases hs
   exact ⟨_, by rw [Q8, if_pos rfl], ⟨by simp, .inr (.inr (.inr (.inr ⟨_, _, _, _, _, _, _, _, _, _, _, rfl, rfl, Iff.rfl, by simp⟩)))⟩, by simp, fun _ => rfl⟩)
  (fun y s d o hy hs hl ha => .inr ⟨r, _, o, rfl, hr, hlv, hy ▸ ha⟩)
  (fun y y' s s' d o o' hy hy' _ _ _ _ _ _ => hy.trans hy'.symm)
  (fun d hd h => rfl) (fun d arr Te fr hd => ⟨arr, Te, fr, hd, rfl⟩)
  (by rw [Q8, if_neg (Ne.symm r0)]; exact R.zero)
  (fun S y s hy hs => by
   subst hy
   rw [Q8, if_pos rfl] at hs
   cases hs
   have hp : ProvIn (upd σ.rows y (some ⟨n + 1, .mp it ((0, 0) :: p) kt vt bx l tk⟩)) ((0, 0) :: p) := fun q hq => by
    rcases List.mem_cons.1 hq with rfl | hq
    ·exact .inl rfl
    ·exact S.provIn g1 q hq
   refine ⟨hp, g2, b, es1, st, bs, e1, e2, e4.frame (fun hok => ?_) (fun _ _ => rfl), e5.step S, e6, e7, e8⟩
   have hok' : okProv (upd σ.rows y (some ⟨n + 1, .mp it ((0, 0) :: p) kt vt bx l tk⟩)) p = true := by
    simp only [okProv, Bool.and_eq_true] at hok
    exact hok.2
   refine ⟨S.okProv g1 hok', fun c hc => ⟨?_, rfl⟩⟩
   obtain ⟨q1, q2, q3⟩ := (S.safe g1 hok' hc).1
   exact ⟨q1, fun hz => ⟨(q2 hz).1, by obtain ⟨_, q, hq, e⟩ := q2 hz; exact ⟨q, List.mem_cons_of_mem _ hq, e⟩⟩, fun r s o h4 h5 h6 => by obtain ⟨q, hq, e⟩ := q3 r s o h4 h5 h6; exact ⟨q, List.mem_cons_of_mem _ hq, e⟩⟩)
  (fun S => ⟨fun v ev => (by cases ev), fun _ => rfl⟩)
 exact this
theorem Qqq {rows : Rows} : ∀ {rs : List Nat} {q : Prov}, curs rows rs = some q → ProvIn rows q
 | [], q, h => by cases h; exact Qa _
 | r :: rs, q, h => by
   simp only [curs] at h
   split at h
   ·rename_i n p0 t0 l0 hr
    split at h
    ·rename_i q1 hq
     cases h
     intro z hz
     rcases List.mem_cons.1 hz with rfl | hz
     ·exact .inr ⟨_, hr, .inl (Nat.le_refl _), trivial⟩
     ·exact Qqq hq z hz
    ·cases h
   ·cases h
theorem Q1bk {rows : Rows} {rs : List Nat} {q : Prov} (h : curs rows rs = some q) : ProvIn rows ((0, 0) :: q) := fun z hz => by
 rcases List.mem_cons.1 hz with rfl | hz
 ·exact .inl rfl
 ·exact Qqq h z hz
theorem Qqr {rows : Rows} : ∀ {rs : List Nat} {q : Prov}, curs rows rs = some q → ∀ r, r ∈ rs → ∃ z ∈ q, z.1 = r
 | [], q, h, r, hr => by cases hr
 | r0 :: rs, q, h, r, hr => by
   simp only [curs] at h
   split at h
   ·rename_i n p0 t0 l0 hr0
    split at h
    ·rename_i q1 hq
     cases h
     rcases List.mem_cons.1 hr with rfl | hr
     ·exact ⟨_, List.mem_cons_self, rfl⟩
     ·obtain ⟨z, h1, h2⟩ := Qqr hq r hr
      exact ⟨z, List.mem_cons_of_mem _ h1, h2⟩
    ·cases h
   ·cases h
theorem Q2k {B : Nat} {G : Nat → Prop} {pl : Pl} {a : Act} {w : World} {keep : List Nat} {env : Env} : ∀ {p : Prov} {rows rows' : Rows}, Rel B G pl ⟨env, rows⟩ a w → freeze keep rows p = some rows' →
  Step w pl rows w pl rows' ∧ Rel B G pl ⟨env, rows'⟩ a w ∧ (∀ z ∈ p, z.1 = 0 ∨ z.1 ∈ keep ∨ ∀ s, rows' z.1 = some s → ¬ s.live) ∧ (∀ r s, rows' r = some s → s.live → rows r = some s)
 | [], rows, rows', R, h => by
   cases h
   exact ⟨Step.refl w pl R.zero, R, fun z hz => (by cases hz), fun r s h _ => h⟩
 | (r, m) :: p, rows, rows', R, h => by
   simp only [freeze] at h
   split at h
   ·rename_i hk
    obtain ⟨S, R1, h1, h2⟩ := Q2k R h
    refine ⟨S, R1, fun z hz => ?_, h2⟩
    rcases List.mem_cons.1 hz with rfl | hz
    ·simp only [Bool.or_eq_true, beq_iff_eq, List.any_eq_true] at hk
     rcases hk with hk | ⟨x, hx, e⟩
     ·exact .inl hk
     ·exact .inr (.inl (e ▸ hx))
    ·exact h1 z hz
   ·split at h
    ·rename_i n p0 t0 l0 hr
     obtain ⟨S0, R0⟩ := Qqu R hr
     obtain ⟨S, R1, h1, h2⟩ := Q2k R0 h
     refine ⟨S0.trans' S, R1, fun z hz => ?_, fun r' s' h3 h4 => ?_⟩
     ·rcases List.mem_cons.1 hz with rfl | hz
      ·refine .inr (.inr fun s hs hl => ?_)
       have := h2 _ s hs hl
       simp only [Q8, if_true, Option.some.injEq] at this
       subst this
       exact hl rfl
      ·exact h1 z hz
     ·have := h2 r' s' h3 h4
      rw [Q8] at this
      split at this
      ·simp only [Option.some.injEq] at this
       subst this
       exact absurd rfl h4
      ·exact this
    ·rename_i n hr
     obtain ⟨S, R1, h1, h2⟩ := Q2k R h
     refine ⟨S, R1, fun z hz => ?_, h2⟩
     rcases List.mem_cons.1 hz with rfl | hz
     ·refine .inr (.inr fun s hs hl => ?_)
      have := h2 _ s hs hl
      rw [hr] at this
      simp only [Option.some.injEq] at this
      subst this
      exact hl rfl
     ·exact h1 z hz
    ·cases h
theorem Qiu {rows : Rows} : ∀ {l : List PV} {p : Prov} {t : Ty} {x : t.D}, .val p t x ∈ l → okProv rows p = true → ∀ z ∈ p, z ∈ iceP rows l
 | v :: l, p, t, x, h, hk, z, hz => by
   rcases List.mem_cons.1 h with e | h
   ·subst e
    simp only [iceP, hk, if_true]
    exact List.mem_append_left _ hz
   ·have := Qiu h hk z hz
    cases v
    case val p0 t0 x0 =>
     simp only [iceP]
     split
     ·exact List.mem_append_right _ this
     ·exact this
    all_goals exact this
theorem Q6t {keep : List Nat} : ∀ {p : Prov}, ∀ z ∈ stripP keep p, z ∈ p
 | (r, n) :: p, z, hz => by
   simp only [stripP] at hz
   split at hz
   ·rcases List.mem_cons.1 hz with rfl | hz
    ·exact List.mem_cons_self
    ·exact List.mem_cons_of_mem _ (Q6t z hz)
   ·exact List.mem_cons_of_mem _ (Q6t z hz)
theorem Q1y {keep : List Nat} : ∀ {p : Prov}, ∀ z ∈ p, (z.1 = 0 ∨ z.1 ∈ keep) → z ∈ stripP keep p
 | (r, n) :: p, z, hz, h => by
   simp only [stripP]
   rcases List.mem_cons.1 hz with rfl | hz
   ·rw [if_pos]
    ·exact List.mem_cons_self
    ·simp only [Bool.or_eq_true, beq_iff_eq, List.any_eq_true]
     rcases h with h | h
     ·exact .inl h
     ·exact .inr ⟨_, h, rfl⟩
   ·split
    ·exact List.mem_cons_of_mem _ (Q1y z hz h)
    ·exact Q1y z hz h
theorem CRs.strip {w : World} {pl : Pl} {rows rows1 : Rows} {keep : List Nat} {P : Prov} (S : Step w pl rows w pl rows1)
  (f1 : ∀ z ∈ P, z.1 = 0 ∨ z.1 ∈ keep ∨ ∀ s, rows1 z.1 = some s → ¬ s.live) (f2 : ∀ r s, rows1 r = some s → s.live → ∃ s0, rows r = some s0 ∧ s0.live) :
  ∀ {l : List PV} {us : List Value}, (∀ (p : Prov) (t : Ty) (x : t.D), .val p t x ∈ l → okProv rows p = true → ∀ z ∈ p, z ∈ P) → CRs w pl rows l us → CRs w pl rows1 (stripL keep rows l) us
 | [], us, _, h => h
 | v :: l, us, hP, h => by
   obtain ⟨u, us', rfl, ⟨g1, g2⟩, g3⟩ := h
   refine ⟨u, us', rfl, ?_, CRs.strip S f1 f2 (fun p t x hx => hP p t x (List.mem_cons_of_mem _ hx)) g3⟩
   have stay : Men rows1 v ∧ (okPV rows1 v = true → VR w pl rows1 v u) := ⟨S.men g1, fun hk => S.vr g1 hk g2⟩
   cases v
   case val p t x =>
    simp only [stripV]
    split
    ·rename_i hok
     have hsub : ProvIn rows (stripP keep p) := fun z hz => g1 z (Q6t z hz)
     refine ⟨S.provIn hsub, fun _ => Qn (fun b hb => ?_) (fun _ _ => rfl) (g2 hok)⟩
     obtain ⟨q1, q2, q3⟩ := hb
     refine ⟨q1, fun hz => ?_, fun r s o hr hl hloc => ?_⟩
     ·obtain ⟨a1, z, a2, a3⟩ := q2 hz
      exact ⟨a1, z, Q1y z a2 (.inl a3), a3⟩
     ·obtain ⟨s0, k1, k2⟩ := f2 r s hr hl
      obtain ⟨z, hz, e⟩ := q3 r s0 o k1 k2 hloc
      rcases f1 z (hP p t x List.mem_cons_self hok z hz) with h0 | h0 | h0
      ·exact ⟨z, Q1y z hz (.inl h0), e⟩
      ·exact ⟨z, Q1y z hz (.inr h0), e⟩
      ·exact absurd hl (h0 s (by rw [e]; exact hr))
    ·exact stay
   all_goals exact stay
def LeftR (rows rows' : Rows) : Prop := ∀ r s, rows' r = some s → s.live → ∃ s0, rows r = some s0 ∧ s0.live ∧ ∀ n p t l, s0 = ⟨n, .arr p t l⟩ → ∃ n' p', s = ⟨n', .arr p' t l⟩
theorem Qtx {w : World} {pl : Pl} {rows rows1 : Rows} {keep : List Nat} {P p : Prov} {b : Nat}
  (f1 : ∀ z ∈ P, z.1 = 0 ∨ z.1 ∈ keep ∨ ∀ s, rows1 z.1 = some s → ¬ s.live) (f2 : ∀ r s, rows1 r = some s → s.live → ∃ s0, rows r = some s0 ∧ s0.live)
  (hP : ∀ z ∈ p, z ∈ P) (h : Safe w pl rows p b) : Safe w pl rows1 (stripP keep p) b := by
 obtain ⟨q1, q2, q3⟩ := h
 refine ⟨q1, fun hz => ?_, fun r s o hr hl hloc => ?_⟩
 ·obtain ⟨a1, z, a2, a3⟩ := q2 hz
  exact ⟨a1, z, Q1y z a2 (.inl a3), a3⟩
 ·obtain ⟨s0, k1, k2⟩ := f2 r s hr hl
  obtain ⟨z, hz, e⟩ := q3 r s0 o k1 k2 hloc
  rcases f1 z (hP z hz) with h0 | h0 | h0
  ·exact ⟨z, Q1y z hz (.inl h0), e⟩
  ·exact ⟨z, Q1y z hz (.inr h0), e⟩
  ·exact absurd hl (h0 s (by rw [e]; exact hr))
theorem Q2g {B : Nat} {G : Nat → Prop} {pl : Pl} {a : Act} {w : World} {keep : List Nat} {env : Env} {rows : Rows} {P : Prov} (R : Rel B G pl ⟨env, rows⟩ a w) :
  ∀ {rs : List Nat} {cur rows' : Rows}, (∀ z ∈ rowP rows rs, z ∈ P) → Step w pl rows w pl cur → Rel B G pl ⟨env, cur⟩ a w →
  (∀ z ∈ P, z.1 = 0 ∨ z.1 ∈ keep ∨ ∀ s, cur z.1 = some s → ¬ s.live) → LeftR rows cur → Q6m keep rows cur rs = some rows' →
  Step w pl rows w pl rows' ∧ Rel B G pl ⟨env, rows'⟩ a w ∧ (∀ z ∈ P, z.1 = 0 ∨ z.1 ∈ keep ∨ ∀ s, rows' z.1 = some s → ¬ s.live) ∧ LeftR rows rows'
 | [], cur, rows', _, S, Rc, F, J, h => by cases h; exact ⟨S, Rc, F, J⟩
 | r :: rs, cur, rows', hP, S, Rc, F, J, h => by
   simp only [Q6m] at h
   split at h
   ·rename_i n0 p t l hr
    split at h
    ·rename_i hok
     have hP1 : ∀ z ∈ p, z ∈ P := fun z hz => hP z (by simp only [rowP, hr, hok, if_true]; exact List.mem_append_left _ hz)
     have hP2 : ∀ z ∈ rowP rows rs, z ∈ P := fun z hz => hP z (by simp only [rowP, hr, hok, if_true]; exact List.mem_append_right _ hz)
     split at h
     ·rename_i n p1 t1 l1 hc
      obtain ⟨s0, k1, k2, k3⟩ := J r _ hc (by simp [RowS.live])
      rw [hr] at k1
      cases k1
      obtain ⟨n', p', k4⟩ := k3 _ _ _ _ rfl
      cases k4
      obtain ⟨g1, g2⟩ := R.rows _ _ hr
      have f2 : ∀ x s, upd cur r (some ⟨n + 1, .arr (stripP keep p) t l⟩) x = some s → s.live → ∃ s0, rows x = some s0 ∧ s0.live := fun x s hx hl => by
       rw [Q8] at hx
       split at hx
       ·rename_i e; subst e; exact ⟨_, hr, by simp [RowS.live]⟩
       ·obtain ⟨s0, e1, e2, _⟩ := J x s hx hl; exact ⟨s0, e1, e2⟩
      have f1 : ∀ z ∈ P, z.1 = 0 ∨ z.1 ∈ keep ∨ ∀ s, upd cur r (some ⟨n + 1, .arr (stripP keep p) t l⟩) z.1 = some s → ¬ s.live := fun z hz => by
       rcases F z hz with h0 | h0 | h0
       ·exact .inl h0
       ·exact .inr (.inl h0)
       ·refine .inr (.inr fun s hs => ?_)
        rw [Q8] at hs
        split at hs
        ·rename_i e
         exact absurd (by simp [RowS.live]) (h0 ⟨n, .arr p1 t l⟩ (by rw [e]; exact hc))
        ·exact h0 s hs
      have := Rc.write (nt := 0) (w' := w) (s' := ⟨n + 1, .arr (stripP keep p) t l⟩) (dst := none) (ov := none) (u := undef) (Nat.zero_le _) hc (by simp [RowS.live]) ⟨by simp, .inr (.inr (.inl ⟨p1, stripP keep p, t, l, l, rfl, rfl, rfl, by simp⟩))⟩ (by simp) rfl (fun _ _ => rfl)
       (fun b arr Te fr h => ⟨arr, Te, fr, h, rfl⟩)
       (fun S2 => by
        refine ⟨S2.provIn (S.provIn fun z hz => g1 z (Q6t z hz)), ?_⟩
        cases hlr : pl.loc r with
        | none => rw [hlr] at g2; exact g2
        | some bo =>
          obtain ⟨b, o⟩ := bo
          rw [hlr] at g2
          obtain ⟨arr, Te, fr, q1, q2, q3, q4⟩ := g2
          refine ⟨arr, Te, fr, q1, q2, q3, fun _ i x hx => ?_⟩
          obtain ⟨es, q5, q6⟩ := q4 hok i x hx
          exact ⟨es, Qn (fun b hb => Qtx f1 f2 hP1 hb) (fun _ _ => rfl) q5, q6⟩)
       (fun S2 => ⟨fun v e => (by cases e), fun _ => rfl⟩)
      obtain ⟨S2, R2⟩ := this
      refine Q2g R hP2 (S.trans' S2) R2 f1 (fun x s hx hl => ?_) h
      rw [Q8] at hx
      split at hx
      ·rename_i e
       subst e
       cases hx
       exact ⟨_, hr, by simp [RowS.live], fun n1 p2 t2 l2 e => by cases e; exact ⟨_, _, rfl⟩⟩
      ·exact J x s hx hl
     ·cases h
    ·rename_i hok
     exact Q2g R (fun z hz => hP z (by simp only [rowP, hr, hok]; exact hz)) S Rc F J h
   ·rename_i hno
    exact Q2g R (fun z hz => hP z (by
     simp only [rowP]
     exact hz)) S Rc F J h
theorem Qfh {B : Nat} {G : Nat → Prop} {pl : Pl} {a : Act} {w : World} {keep : List Nat} {env : Env} {rows rows' : Rows} {l : List PV} (R : Rel B G pl ⟨env, rows⟩ a w) (h : melt keep rows l = some rows') :
  Step w pl rows w pl rows' ∧ Rel B G pl ⟨env, rows'⟩ a w ∧ (∀ z ∈ iceP rows l, z.1 = 0 ∨ z.1 ∈ keep ∨ ∀ s, rows' z.1 = some s → ¬ s.live) ∧ LeftR rows rows' := by
 unfold melt at h
 split at h
 ·rename_i rows1 hf
  obtain ⟨S1, R1, f1, f2⟩ := Q2k R hf
  obtain ⟨S2, R2, F2, J2⟩ := Q2g R (fun z hz => List.mem_append_right _ hz) S1 R1 f1 (fun r s hr hl => ⟨s, f2 r s hr hl, hl, fun n p t l e => ⟨n, p, e⟩⟩) h
  exact ⟨S2, R2, fun z hz => F2 z (List.mem_append_left _ hz), J2⟩
 ·cases h
theorem Q9k {keep : List Nat} {rows : Rows} : ∀ {l : List PV}, (stripL keep rows l).length = l.length
 | [] => rfl
 | v :: l => by simp [stripL, Q9k]
theorem Qtk {B : Nat} {G : Nat → Prop} {a : Act} {w : World} {pl : Pl} {σ : St} {keep : List Nat} {v v' : PV} {rows' : Rows} {u : Value} (R : Rel B G pl σ a w)
  (hm : Men σ.rows v) (hv : okPV σ.rows v = true → VR w pl σ.rows v u) (h : ices keep σ.rows v = some (v', rows')) :
  Step w pl σ.rows w pl rows' ∧ Rel B G pl ⟨σ.env, rows'⟩ a w ∧ (Men rows' v' ∧ (okPV rows' v' = true → VR w pl rows' v' u)) := by
 obtain ⟨env, rows⟩ := σ
 cases v
 case ptr r off =>
  simp only [ices] at h
  split at h
  ·rename_i n0 l hr
   split at h
   ·rename_i rows1 hf
    split at h
    ·rename_i n l0 hr1
     split at h
     ·rename_i hlen
      cases h
      have hlen : l.length = l0.length := by simpa using hlen
      obtain ⟨S1, R1, f1, f2'⟩ := Qfh R hf
      have f2 : ∀ r s, rows1 r = some s → s.live → ∃ s0, rows r = some s0 ∧ s0.live := fun r s h1 h2 => by obtain ⟨s0, e1, e2, _⟩ := f2' r s h1 h2; exact ⟨s0, e1, e2⟩
      obtain ⟨m1, b, arr, Te, fr, e0, e1, e2, e3, e4⟩ := R.rows _ _ hr
      have hc : CRs w pl rows l arr.toList := CRs.mk_ (by simpa using e2) fun j x u hx hu => by
       obtain ⟨u', q1, q2, q3⟩ := e4 j x hx
       rw [Array.getElem?_toList, q1] at hu
       cases hu
       exact ⟨Qq m1 x (List.mem_of_getElem? hx), q3⟩
      have c1 := hc.strip S1 f1 f2 (fun p t x hx hk => Qiu hx hk)
      obtain ⟨m2, b2, arr2, T2, fr2, g0, g1, g2, g3, g4⟩ := R1.rows _ _ hr1
      rw [e0] at g0
      cases g0
      rw [e1] at g1
      cases g1
      obtain ⟨S2, R2⟩ := R1.write (nt := 0) (w' := w) (s' := ⟨n + 1, .vars (stripL (ownL l ++ keep) rows l)⟩) (dst := none) (ov := none) (u := undef) (Nat.zero_le _) hr1 (by simp [RowS.live]) ⟨by simp, .inr (.inr (.inr (.inl ⟨l0, stripL (ownL l ++ keep) rows l, rfl, rfl, by rw [Q9k]; exact hlen, by simp⟩)))⟩ (by simp) rfl (fun _ _ => rfl)
       (fun b arr Te fr h => ⟨arr, Te, fr, h, rfl⟩)
       (fun S => by
        refine ⟨S.mens c1.out.1, b, arr, Te, fr, e0, e1, by rw [Q9k, hlen]; exact g2, e3, fun j x hx => ?_⟩
        obtain ⟨u', q1, q2, q3⟩ := c1.get j x hx
        rw [Array.getElem?_toList] at q1
        have hj : j < l.length := by
         have := (Array.getElem?_eq_some_iff.1 q1).1
         omega
        obtain ⟨u'', r1, r2, _⟩ := e4 j _ (List.getElem?_eq_getElem hj)
        rw [q1] at r1
        cases r1
        exact ⟨u', q1, r2, fun hok => S.vr q2 hok q3⟩)
       (fun S => ⟨fun v e => (by cases e), fun _ => rfl⟩)
      exact ⟨S1.trans' S2, R2, ⟨by simp [Men, Q8], fun _ => S2.vr (v := .ptr r off) (by simp [Men, hr1]) rfl (fun _ => S1.vr (v := .ptr r off) (by simp [Men, hr]) rfl (fun _ => hv rfl))⟩⟩
     ·cases h
    ·cases h
   ·cases h
  ·cases h
 case agg l =>
  simp only [ices] at h
  split at h
  ·rename_i rows1 hf
   split at h
   ·rename_i hok
    cases h
    obtain ⟨S1, R1, f1, f2'⟩ := Qfh R hf
    have f2 : ∀ r s, rows' r = some s → s.live → ∃ s0, rows r = some s0 ∧ s0.live := fun r s h1 h2 => by obtain ⟨s0, e1, e2, _⟩ := f2' r s h1 h2; exact ⟨s0, e1, e2⟩
    obtain ⟨cs, rfl, g1, g2⟩ := hv hok
    have c1 := (CRs.of hm g1).strip S1 f1 f2 (fun p t x hx hk => Qiu hx hk)
    exact ⟨S1, R1, c1.out.1, fun hk => ⟨cs, rfl, c1.out.2 hk, g2⟩⟩
   ·cases h
  ·cases h
 all_goals cases h
mutual
theorem Q2j {B : Nat} {G : Nat → Prop} {a : Act} {w : World} (hB : B ≤ w.heap.size) : ∀ (m : Mode) {pl : Pl} {σ : St} {key key' : Nat} {v v' : PV} {rows' : Rows} {u : Value}, Rel B G pl σ a w → (∀ b, pl.Z b → b < B) → key ≠ 0 →
  Men σ.rows v → (okPV σ.rows v = true → VR w pl σ.rows v u) → coerce m σ.rows key v = some (v', rows', key') →
  ∃ pl', Step w pl σ.rows w pl' rows' ∧ Rel B G pl' ⟨σ.env, rows'⟩ a w ∧ (Men rows' v' ∧ (okPV rows' v' = true → VR w pl' rows' v' u)) ∧ key' ≠ 0
 | m, pl, σ, key, key', v, v', rows', u, R, hZ, h0, hm, hv, h => by
   have stay : ∀ {v1 : PV}, Men σ.rows v1 → (okPV σ.rows v1 = true → VR w pl σ.rows v1 u) → some (v1, σ.rows, key) = some (v', rows', key') →
    ∃ pl', Step w pl σ.rows w pl' rows' ∧ Rel B G pl' ⟨σ.env, rows'⟩ a w ∧ (Men rows' v' ∧ (okPV rows' v' = true → VR w pl' rows' v' u)) ∧ key' ≠ 0 := by
    intro v1 h1 h2 h3
    cases h3
    exact ⟨pl, Step.refl w pl R.zero, R, ⟨h1, h2⟩, h0⟩
   have nilr : ∀ {t : Ty}, v = .nils → (match addRow σ.rows key (.arr [] t []) with | some (rows', k) => some (PV.rw key, rows', k) | none => none) = some (v', rows', key') →
    ∃ pl', Step w pl σ.rows w pl' rows' ∧ Rel B G pl' ⟨σ.env, rows'⟩ a w ∧ (Men rows' v' ∧ (okPV rows' v' = true → VR w pl' rows' v' u)) ∧ key' ≠ 0 := by
    intro t hvn hx
    subst hvn
    split at hx
    ·rename_i hk
     obtain ⟨e1, e2⟩ := Q7o hk
     cases e2
     cases hx
     obtain ⟨pl', q1, q2, q3, q4⟩ := Q1cv (t := t) R hZ hB e1 h0 (hv rfl)
     exact ⟨pl', q1, q2, ⟨q3, fun _ => q4⟩, by omega⟩
    ·cases hx
   cases m with
   | any => exact stay hm hv h
   | own t =>
     cases v
     case nils => exact nilr rfl h
     case rw r => exact stay hm hv h
     all_goals cases h
   | trim t =>
     cases v
     case nils => exact nilr rfl h
     case rw r => exact stay hm hv h
     case rs r off len =>
      simp only [coerce] at h
      split at h
      ·rename_i n p t' l hr
       split at h
       ·rename_i hk
        obtain ⟨e1, e2⟩ := Q7o hk
        cases e2
        cases h
        have e1' : σ.rows key = none := by
         rw [Q8] at e1
         split at e1
         ·cases e1
         ·exact e1
        obtain ⟨pl', q1, q2, q3, q4⟩ := Qjh R hZ hB hr e1' h0 (hv rfl)
        exact ⟨pl', q1, q2, ⟨q3, fun _ => q4⟩, by omega⟩
       ·cases h
      ·cases h
     all_goals cases h
   | move t =>
     cases v
     case nils => exact nilr rfl h
     case rw r =>
      simp only [coerce] at h
      split at h
      ·rename_i n p t' l hr
       split at h
       ·rename_i hk
        obtain ⟨e1, e2⟩ := Q7o hk
        cases e2
        cases h
        have e1' : σ.rows key = none := by
         rw [Q8] at e1
         split at e1
         ·cases e1
         ·exact e1
        obtain ⟨pl', q1, q2, q3, q4⟩ := Q16p R hZ hB hr e1' h0 (hv rfl)
        exact ⟨pl', q1, q2, ⟨q3, fun _ => q4⟩, by omega⟩
       ·cases h
      ·cases h
     case rs r off len =>
      simp only [coerce] at h
      split at h
      ·rename_i n p t' l hr
       split at h
       ·rename_i hk
        obtain ⟨e1, e2⟩ := Q7o hk
        cases e2
        cases h
        have e1' : σ.rows key = none := by
         rw [Q8] at e1
         split at e1
         ·cases e1
         ·exact e1
        obtain ⟨pl', q1, q2, q3, q4⟩ := Qjh R hZ hB hr e1' h0 (hv rfl)
        exact ⟨pl', q1, q2, ⟨q3, fun _ => q4⟩, by omega⟩
       ·cases h
      ·cases h
     all_goals cases h
   | tie m =>
     simp only [coerce] at h
     split at h
     ·rename_i r rows1 k1 h1
      obtain ⟨pl1, S1, R1, c1, hk1⟩ := Q2j hB m R hZ h0 hm hv h1
      split at h
      ·rename_i n p t l hr
       cases h
       obtain ⟨S2, R2⟩ := Q1e1 R1 hr
       exact ⟨pl1, S1.trans' S2, R2, ⟨S2.men c1.1, fun hk => S2.vr c1.1 hk c1.2⟩, hk1⟩
      ·rename_i n it p kt vt bx l tk hr
       cases h
       obtain ⟨S2, R2⟩ := Q1e0 R1 (fun b hb => hZ b (by rw [S1.z] at hb; exact hb)) hB hr
       exact ⟨pl1, S1.trans' S2, R2, ⟨S2.men c1.1, fun hk => S2.vr c1.1 hk c1.2⟩, hk1⟩
      ·cases h
     ·cases h
   | drop r m =>
     simp only [coerce] at h
     split at h
     ·rename_i v1 rows1 k1 h1
      obtain ⟨pl1, S1, R1, c1, hk1⟩ := Q2j hB m R hZ h0 hm hv h1
      split at h
      ·rename_i n p t l hr
       cases h
       obtain ⟨S2, R2⟩ := Qqu R1 hr
       exact ⟨pl1, S1.trans' S2, R2, ⟨S2.men c1.1, fun hk => S2.vr c1.1 hk c1.2⟩, hk1⟩
      ·cases h
       exact ⟨pl1, S1, R1, c1, hk1⟩
     ·cases h
   | wide rs m =>
     simp only [coerce] at h
     split at h
     ·rename_i p t x rows1 k1 h1
      obtain ⟨pl1, S1, R1, c1, hk1⟩ := Q2j hB m R hZ h0 hm hv h1
      split at h
      ·rename_i hok
       split at h
       ·rename_i rows2 hf
        split at h
        ·rename_i q hq
         cases h
         obtain ⟨S2, R2, f1, f2⟩ := Q2k R1 hf
         refine ⟨pl1, S1.trans' S2, R2, ⟨Q1bk hq, fun _ => Qn (fun b hb => ?_) (fun _ _ => rfl) (c1.2 hok)⟩, hk1⟩
         obtain ⟨g1, g2, g3⟩ := hb
         refine ⟨g1, fun hz => ⟨(g2 hz).1, (0, 0), List.mem_cons_self, rfl⟩, fun r s o hr hl hloc => ?_⟩
         obtain ⟨z, hz, e⟩ := g3 r s o (f2 r s hr hl) hl hloc
         rcases f1 z hz with h0 | h0 | h0
         ·exact ⟨(0, 0), List.mem_cons_self, by rw [← e, h0]⟩
         ·obtain ⟨y, hy, e2⟩ := Qqr hq z.1 h0
          exact ⟨y, List.mem_cons_of_mem _ hy, e2.trans e⟩
         ·exact absurd hl (h0 s (by rw [e]; exact hr))
        ·cases h
       ·cases h
      ·cases h
     ·cases h
   | ice rs m =>
     simp only [coerce] at h
     split at h
     ·rename_i v1 rows1 h1
      obtain ⟨S1, R1, c1⟩ := Qtk R hm hv h1
      obtain ⟨pl2, S2, R2, c2, hk2⟩ := Q2j hB m R1 hZ h0 c1.1 c1.2 h
      exact ⟨pl2, S1.trans' S2, R2, c2, hk2⟩
     ·cases h
   | value t =>
     simp only [coerce] at h
     split at h
     ·rename_i hk
      have hv' := hv hk
      split at h
      ·rename_i hx
       obtain ⟨q1, q2, q3⟩ := Q19 R hm hk hv' hx
       have q3' : u = .slice none 0 0 := q3
       subst q3'
       exact stay (v1 := .val [] (.slice t) []) (Qa _) (fun _ => ⟨none, 0, rfl, Nat.le_refl _, fun h => absurd rfl h⟩) h
      ·rename_i x _ hx
       obtain ⟨q1, q2, q3⟩ := Q19 R hm hk hv' hx
       exact stay q1 (fun _ => q3) h
      ·cases h
     ·cases h
   | lend t =>
     simp only [coerce] at h
     split at h
     ·rename_i hk
      have hv' := hv hk
      split at h
      ·rename_i hx
       obtain ⟨q1, q2, q3⟩ := Q19 R hm hk hv' hx
       have q3' : u = .slice none 0 0 := q3
       subst q3'
       exact stay (v1 := .val [(0, 0)] (.slice t) []) (fun q hq => by simp at hq; subst hq; exact .inl rfl) (fun _ => ⟨none, 0, rfl, Nat.le_refl _, fun h => absurd rfl h⟩) h
      ·rename_i p t' x hx
       obtain ⟨q1, q2, q3⟩ := Q19 R hm hk hv' hx
       refine stay (v1 := .val ((0, 0) :: p) t' x) (fun q hq => ?_) (fun _ => Q1z (fun z hz => List.mem_cons_of_mem _ hz) q3) h
       rcases List.mem_cons.1 hq with rfl | hq
       ·exact .inl rfl
       ·exact q1 q hq
      ·cases h
     ·cases h
   | cells ms =>
     cases v
     case ptr r off =>
      simp only [coerce] at h
      split at h
      ·rename_i n0 l hr
       split at h
       ·rename_i l' rows1 k hl
        split at h
        ·rename_i n l0 hr1
         split at h
         ·rename_i hlen
          cases h
          obtain ⟨m1, b, arr, Te, fr, e0, e1, e2, e3, e4⟩ := R.rows _ _ hr
          have hc : CRs w pl σ.rows l arr.toList := CRs.mk_ (by simpa using e2) fun j x u hx hu => by
           obtain ⟨u', q1, q2, q3⟩ := e4 j x hx
           rw [Array.getElem?_toList, q1] at hu
           cases hu
           exact ⟨Qq m1 x (List.mem_of_getElem? hx), q3⟩
          obtain ⟨pl1, S1, R1, c1, hk⟩ := Q1k hB ms R hZ h0 hc hl
          obtain ⟨m2, b2, arr2, T2, fr2, f0, f1, f2, f3, f4⟩ := R1.rows _ _ hr1
          obtain ⟨_, _, _, _, hloc⟩ := S1.vars (r := r) (by rw [hr]; simp) hr1
          rw [hloc, e0] at f0
          cases f0
          rw [e1] at f1
          cases f1
          obtain ⟨S2, R2⟩ := R1.write (nt := 0) (w' := w) (s' := ⟨n + 1, .vars l'⟩) (dst := none) (ov := none) (u := undef) (Nat.zero_le _) hr1 (by simp [RowS.live]) ⟨by simp, .inr (.inr (.inr (.inl ⟨l0, l', rfl, rfl, hlen, by simp⟩)))⟩ (by simp) rfl (fun _ _ => rfl)
           (fun b arr Te fr h => ⟨arr, Te, fr, h, rfl⟩)
           (fun S => by
            refine ⟨S.mens c1.out.1, b, arr, Te, fr, hloc.trans e0, e1, by rw [hlen]; exact f2, e3, fun j x hx => ?_⟩
            obtain ⟨u', q1, q2, q3⟩ := c1.get j x hx
            rw [Array.getElem?_toList] at q1
            have hj : j < l.length := by
             have := (Array.getElem?_eq_some_iff.1 q1).1
             omega
            obtain ⟨u'', r1, r2, _⟩ := e4 j _ (List.getElem?_eq_getElem hj)
            rw [q1] at r1
            cases r1
            exact ⟨u', q1, r2, fun hok => S.vr q2 hok q3⟩)
           (fun S => ⟨fun v e => (by cases e), fun _ => rfl⟩)
          exact ⟨pl1, S1.trans' S2, R2, ⟨by simp [Men, Q8], fun _ => S2.vr (v := .ptr r off) (by simp [Men, hr1]) rfl (fun _ => S1.vr (v := .ptr r off) (by simp [Men, hr]) rfl (fun _ => hv rfl))⟩, hk⟩
         ·cases h
        ·cases h
       ·cases h
      ·cases h
     case agg l =>
      simp only [coerce] at h
      split at h
      ·rename_i hok
       split at h
       ·rename_i l' rows1 k hl
        cases h
        obtain ⟨cs, rfl, g1, g2⟩ := hv hok
        obtain ⟨pl1, S1, R1, c1, hk⟩ := Q1k hB ms R hZ h0 (CRs.of hm g1) hl
        exact ⟨pl1, S1, R1, ⟨c1.out.1, fun hk => ⟨cs, rfl, c1.out.2 hk, g2⟩⟩, hk⟩
       ·cases h
      ·cases h
     all_goals cases h
theorem Q1k {B : Nat} {G : Nat → Prop} {a : Act} {w : World} (hB : B ≤ w.heap.size) : ∀ (ms : List Mode) {pl : Pl} {σ : St} {key key' : Nat} {l l' : List PV} {rows' : Rows} {us : List Value}, Rel B G pl σ a w → (∀ b, pl.Z b → b < B) → key ≠ 0 →
  CRs w pl σ.rows l us → coerce.coerceL ms σ.rows key l = some (l', rows', key') →
  ∃ pl', Step w pl σ.rows w pl' rows' ∧ Rel B G pl' ⟨σ.env, rows'⟩ a w ∧ CRs w pl' rows' l' us ∧ key' ≠ 0
 | [], pl, σ, key, key', l, l', rows', us, R, hZ, h0, hc, h => by
   cases l <;> (simp only [coerce.coerceL, Option.some.injEq, Prod.mk.injEq] at h; obtain ⟨rfl, rfl, rfl⟩ := h; exact ⟨pl, Step.refl w pl R.zero, R, hc, h0⟩)
 | m :: ms, pl, σ, key, key', [], l', rows', us, R, hZ, h0, hc, h => by cases h
 | m :: ms, pl, σ, key, key', v :: l, l', rows', us, R, hZ, h0, hc, h => by
   simp only [coerce.coerceL] at h
   split at h
   ·rename_i v1 rows1 k1 h1
    split at h
    ·rename_i l1 rows2 k2 h2
     cases h
     obtain ⟨u, us', rfl, ⟨g1, g2⟩, g3⟩ := hc
     obtain ⟨pl1, S1, R1, c1, hk1⟩ := Q2j hB m R hZ h0 g1 g2 h1
     obtain ⟨pl2, S2, R2, c2, hk2⟩ := Q1k (σ := ⟨σ.env, rows1⟩) hB ms R1 (fun b hb => hZ b (by rw [S1.z] at hb; exact hb)) hk1 (g3.step S1) h2
     exact ⟨pl2, S1.trans' S2, R2, ⟨u, us', rfl, ⟨S2.men c1.1, fun hk => S2.vr c1.1 hk c1.2⟩, c2⟩, hk2⟩
    ·cases h
   ·cases h
end
end
end Go.Proofs.YtecnlienmpdlaaaGreat.PM
