/- The small machine PM is sound, seventh part: stores; a slice's conversion to its own type; all operations together. -/
import Derived.Test.YtecnlienmpdlaaaPmMs
set_option linter.unusedSimpArgs false
set_option linter.unusedVariables false
namespace Go.Proofs.Ytecnlienmpdlaaa.PM
open Go

section
variable {P : Program} {B nt : Nat} {G : Nat → Prop} {pl pl' : Pl} {σ : St} {a : Act} {w w' : World} {T : TT}

theorem run_storeOp {o : Oper} {t : Nat} {x y : Operand} {b off : Nat} {i : TI} {arr : Array Value} {Te : TypeId} {fr : Nat × Nat} (hi : TIok P t i) (ho : o.op = .store t x y) (hx : a.eval x = .pointer (some ⟨b, off, none⟩)) (hsz : (a.eval y).cells.size = i.size)
    (h : w.heap[b]? = some (Obj.cells arr Te fr)) (hl : off + i.size ≤ arr.size) (hf : Unfrozen fr arr.size) (h1 : ∀ v ∈ (a.eval y).cells.toList, v.oneCell' = true) :
    (execOp a.eval o).run P w = .ok .skip (w.setCells b off (a.eval y).cells.toList) := by
  have e : execOp a.eval o = (do Instr.storeAt t (a.eval x) (a.eval y); pure .skip) := by simp only [execOp, ho]
  have hst := run_stores (P := P) (vs := (a.eval y).cells.toList) h (by simp [hsz]; exact hl) hf h1
  rw [e, hx]
  simp [Instr.storeAt, Instr.sureAddr, storeVar, hi.sizeOf, hsz, hst]

theorem store_vars (R : Rel B G pl σ a w) (hn : nt ≤ a.tmps.size) {o : Oper} {t : Nat} {x y : Operand} {r n off : Nat} {l vs : List PV} {v : PV} {i : TI} (hi : TIok P t i) (ho : o.op = .store t x y)
    (hx : look σ x = some (.ptr r off)) (hy : look σ y = some v) (hr : σ.rows r = some ⟨n, .vars l⟩) (hvs : cells v = some vs) (hlen : vs.length = i.size) (hle : off + i.size ≤ l.length) :
    Goes P B nt G pl σ a w o ⟨true, none, [(r, ⟨n + 1, .vars (setCells l off vs)⟩)]⟩ := by
  obtain ⟨_, g1, _⟩ := R.look hx
  obtain ⟨m2, g2, k2⟩ := R.look hy
  obtain ⟨b, e1, e2⟩ := g1.2 n l hr
  obtain ⟨m1, b', arr, Te, fr, f0, f1, f2, f3, f4⟩ := R.rows _ _ hr
  rw [e1] at f0
  cases f0
  obtain ⟨c1, c2⟩ := vr_cells g2 hvs
  have hcs : (a.eval y).cells.size = i.size := by
    have := vrs_len c1; simpa [hlen] using this
  have hroom : off + (a.eval y).cells.toList.length ≤ arr.size := by simp [hcs]; omega
  have hrun := run_storeOp (w := w) hi ho e2 hcs f1 (by omega) f3 c2
  obtain ⟨arr', a1, a2⟩ := setCells_heap b (a.eval y).cells.toList off w arr Te fr f1 hroom
  have asz : arr'.size = arr.size := by
    have := congrArg List.length a2
    simp only [List.length_append, List.length_take, List.length_drop, Array.length_toList] at this
    simp only [Array.length_toList] at hroom
    omega
  have hnl : (setCells l off vs).length = l.length := len_set (by omega)
  obtain ⟨S, Q⟩ := R.write (w' := w.setCells b off (a.eval y).cells.toList) (s' := ⟨n + 1, .vars (setCells l off vs)⟩) (dst := o.dst) (ov := none) (u := undef) hn hr (by simp [RowS.live]) ⟨by simp, .inr (.inr (.inr (.inl ⟨l, _, rfl, rfl, hnl, by simp⟩)))⟩ (by simp)
    (setCells_size _ _ _ _) (fun d hd => setCells_other b _ _ w d (fun e => by subst e; exact hd 0 e1))
    (fun d arr3 T3 fr3 h => by
      by_cases e : d = b
      · subst e
        rw [f1] at h
        cases h
        exact ⟨arr', _, _, a1, asz⟩
      · exact ⟨arr3, T3, fr3, (setCells_other b _ _ w d e).trans h, rfl⟩)
    (fun S => by
      refine ⟨S.mens (mens_set m1 (men_cells m2 hvs) off), b, arr', Te, fr, e1, a1, by rw [asz, hnl]; exact f2, asz ▸ f3, fun j z hz => ?_⟩
      have hz2 := hz
      unfold setCells at hz
      rw [splice_get _ _ _ (by omega)] at hz
      have hget : arr'[j]? = (arr.toList.take off ++ (a.eval y).cells.toList ++ arr.toList.drop (off + (a.eval y).cells.toList.length))[j]? := by rw [← a2]; simp
      rw [splice_get _ _ _ (by simpa using hroom)] at hget
      have hcl : (a.eval y).cells.toList.length = vs.length := vrs_len c1
      rw [hcl] at hget
      rw [hget]
      by_cases hj : off ≤ j ∧ j < off + vs.length
      · rw [if_pos hj] at hz ⊢
        obtain ⟨u, q1, q2⟩ := vrs_get c1 _ z hz
        exact ⟨u, q1, c2 u (List.mem_of_getElem? q1), fun hok => S.vr (mens_mem (men_cells m2 hvs) z (List.mem_of_getElem? hz)) hok (fun _ => q2)⟩
      · rw [if_neg hj] at hz ⊢
        obtain ⟨u, q1, q2, q3⟩ := f4 j z hz
        exact ⟨u, by simpa using q1, q2, fun hok => S.vr (mens_mem m1 z (List.mem_of_getElem? hz)) hok q3⟩)
    (fun S => ⟨fun v ev => (by cases ev), fun _ => rfl⟩)
  exact ⟨pl, _, undef, .inr ⟨rfl, hrun⟩, S, setCells_quiet _ _ _ _, Q⟩

theorem store_arr (R : Rel B G pl σ a w) (hn : nt ≤ a.tmps.size) {o : Oper} {t : Nat} {x y : Operand} {r n j off : Nat} {ty : Ty} {p : Prov} {l : List ty.D} {vs cs : List PV} {v : PV} {i : TI} {y' : ty.D} (hi : TIok P t i) (ho : o.op = .store t x y)
    (hx : look σ x = some (.pel r j off)) (hy : look σ y = some v) (hr : σ.rows r = some ⟨n, .arr p ty l⟩) (hvs : cells v = some vs) (hcs : toVals σ.rows vs = some cs) (hlen : cs.length = i.size) (hle : off + i.size ≤ ty.size)
    (hp : okProv σ.rows p = true) (him : implode ty (setCells (explode p ty (l.getD j ty.zero)) off cs) = some (y', [])) :
    Goes P B nt G pl σ a w o ⟨true, none, [(r, ⟨n + 1, .arr (p ++ cs.flatMap provOf) ty (l.set j y')⟩)]⟩ := by
  obtain ⟨_, g1, _⟩ := R.look hx
  obtain ⟨m2, g2, k2⟩ := R.look hy
  obtain ⟨hj, b, o0, e1, e2⟩ := g1.2 n p ty l hr
  obtain ⟨m1, f⟩ := R.rows _ _ hr
  rw [e1] at f
  obtain ⟨arr, Te, fr, f1, f2, f3, f4⟩ := f
  obtain ⟨c1, c2⟩ := vr_cells g2 hvs
  obtain ⟨d1, d2, d3, d4⟩ := toVals_sound R hcs (men_cells m2 hvs) (ok_cells k2 hvs) c1
  have hsz : (a.eval y).cells.size = i.size := by
    have := vrs_len d3; simpa [hlen] using this
  have hcl : (a.eval y).cells.toList.length = cs.length := vrs_len d3
  have hjr : j * ty.size + ty.size ≤ l.length * ty.size := by
    have : (j + 1) * ty.size ≤ l.length * ty.size := Nat.mul_le_mul_right _ hj
    rw [Nat.add_mul, Nat.one_mul] at this
    exact this
  have hroom : o0 + j * ty.size + off + (a.eval y).cells.toList.length ≤ arr.size := by omega
  have hrun := run_storeOp (w := w) hi ho e2 hsz f1 (by omega) f3.un c2
  obtain ⟨arr', a1, a2⟩ := setCells_heap b (a.eval y).cells.toList (o0 + j * ty.size + off) w arr Te fr f1 hroom
  have asz : arr'.size = arr.size := by
    have := congrArg List.length a2
    simp only [List.length_append, List.length_take, List.length_drop, Array.length_toList] at this
    simp only [Array.length_toList] at hroom
    omega
  have hxj : l[j]? = some (l.getD j ty.zero) := by rw [List.getD_eq_getElem?_getD, List.getElem?_eq_getElem hj]; rfl
  obtain ⟨es, h1, h2⟩ := f4 hp j _ hxj
  have hes := RD_len h1
  have hvr := vrs_set (vr_explode h1) d3 off
  obtain ⟨es', rs, q1, q2, q3, _⟩ := implode_sound (p := p ++ cs.flatMap provOf) him hvr (fun z hz q hq => by
    simp only [setCells, List.mem_append] at hz
    have hex : ∀ {t : Ty} {x : t.D} {z : PV}, z ∈ explode p t x → ∀ q ∈ provOf z, q ∈ p := by
      intro t
      induction t with
      | int k => intro x z hz q hq; simp [explode] at hz; subst hz; simp [provOf] at hq
      | bool => intro x z hz q hq; simp [explode] at hz; subst hz; simp [provOf] at hq
      | str => intro x z hz q hq; simp [explode] at hz; subst hz; simp [provOf] at hq
      | unit => intro x z hz q hq; simp [explode] at hz
      | slice t _ => intro x z hz q hq; simp [explode] at hz; subst hz; exact hq
      | prod s t ih1 ih2 =>
        intro x z hz q hq
        simp only [explode, List.mem_append] at hz
        exact hz.elim (fun h => ih1 h q hq) (fun h => ih2 h q hq)
    rcases hz with (hz | hz) | hz
    · exact List.mem_append_left _ (hex (List.mem_of_mem_take hz) q hq)
    · exact List.mem_append_right _ (List.mem_flatMap.2 ⟨z, hz, hq⟩)
    · exact List.mem_append_left _ (hex (List.mem_of_mem_drop hz) q hq))
  have q3' : rs = [] := q3
  subst q3'
  rw [List.append_nil] at q1
  have hnl : (l.set j y').length = l.length := List.length_set
  have hcell : ∀ k, (w.setCells b (o0 + j * ty.size + off) (a.eval y).cells.toList).cell? ⟨b, k, none⟩ = if o0 + j * ty.size + off ≤ k ∧ k < o0 + j * ty.size + off + (a.eval y).cells.toList.length then (a.eval y).cells.toList[k - (o0 + j * ty.size + off)]? else arr[k]? := by
    intro k
    simp only [World.cell?, a1]
    rw [← Array.getElem?_toList (xs := arr), ← splice_get _ _ _ (by simpa using hroom), ← a2]
    simp
  obtain ⟨S, Q⟩ := R.write (w' := w.setCells b (o0 + j * ty.size + off) (a.eval y).cells.toList) (s' := ⟨n + 1, .arr (p ++ cs.flatMap provOf) ty (l.set j y')⟩) (dst := o.dst) (ov := none) (u := undef) hn hr (by simp [RowS.live])
    ⟨by simp, .inr (.inr (.inl ⟨p, _, ty, l, _, rfl, rfl, hnl, by simp⟩))⟩ (by simp)
    (setCells_size _ _ _ _) (fun d hd => setCells_other b _ _ w d (fun e => by subst e; exact hd o0 e1))
    (fun d arr3 T3 fr3 h => by
      by_cases e : d = b
      · subst e
        rw [f1] at h
        cases h
        exact ⟨arr', _, _, a1, asz⟩
      · exact ⟨arr3, T3, fr3, (setCells_other b _ _ w d e).trans h, rfl⟩)
    (fun S => by
      have hpp := ProvIn.append m1 (provIn_flat d1)
      refine ⟨S.provIn hpp, ?_⟩
      rw [e1]
      refine ⟨arr', Te, fr, a1, by rw [hnl, asz]; exact f2, asz ▸ f3, fun hok i' z hz => ?_⟩
      rw [List.getElem?_set] at hz
      by_cases e : j = i'
      · subst e
        rw [if_pos rfl, if_pos hj] at hz
        obtain rfl := Option.some.inj hz
        refine ⟨es', S.rd hpp hok q2, fun k u hk => ?_⟩
        rw [← q1, splice_get _ _ _ (by rw [hes, hcl]; omega)] at hk
        rw [add_at, hcell]
        by_cases hk' : off ≤ k ∧ k < off + (a.eval y).cells.toList.length
        · rw [if_pos hk'] at hk
          rw [if_pos ⟨by omega, by omega⟩, show o0 + j * ty.size + k - (o0 + j * ty.size + off) = k - off by omega]
          exact hk
        · rw [if_neg hk'] at hk
          rw [if_neg (by omega)]
          have := h2 k u hk
          rw [add_at] at this
          simp only [World.cell?, f1] at this
          simpa using this
      · rw [if_neg e] at hz
        obtain ⟨k1, _⟩ := okProv_append hok
        obtain ⟨fs, r1, r2⟩ := f4 (S.okProv m1 k1) i' z hz
        refine ⟨fs, RD_mono (fun x hx => List.mem_append_left _ hx) (S.rd m1 k1 r1), fun k u hk => ?_⟩
        obtain ⟨hk1, _⟩ := List.getElem?_eq_some_iff.1 hk
        have hfs := RD_len r1
        rw [add_at, hcell, if_neg ?_]
        · have := r2 k u hk
          rw [add_at] at this
          simp only [World.cell?, f1] at this
          simpa using this
        · rintro ⟨s1, s2⟩
          have := row_ne (sz := ty.size) (j := k) (m := o0 + i' * ty.size + k - (o0 + j * ty.size)) (Ne.symm e) (by omega) (by omega)
          omega)
    (fun S => ⟨fun v ev => (by cases ev), fun _ => rfl⟩)
  exact ⟨pl, _, undef, .inr ⟨rfl, hrun⟩, S, setCells_quiet _ _ _ _, Q⟩

theorem op_store {o : Oper} {t : Nat} {x y : Operand} {out : Out} {key : Nat} (hT : TTok P T) (R : Rel B G pl σ a w) (hn : nt ≤ a.tmps.size) (ho : o.op = .store t x y)
    (h : opOut T key o.op (look σ) σ.rows = some out) : Goes P B nt G pl σ a w o out := by
  rw [ho] at h
  simp only [opOut] at h
  split at h
  · rename_i r off v i hx hy hi
    split at h
    · rename_i n l vs hr hvs
      split at h
      · rename_i hc
        obtain rfl := Option.some.inj h
        exact store_vars R hn (hT _ _ hi) ho hx hy hr hvs hc.1 hc.2
      · cases h
    · cases h
  · rename_i r j off v i hx hy hi
    split at h
    · rename_i n p ty l vs hr hvs
      split at h
      · rename_i cs hcs
        split at h
        · rename_i hc
          split at h
          · rename_i y' him
            obtain rfl := Option.some.inj h
            exact store_arr R hn (hT _ _ hi) ho hx hy hr hvs hcs hc.1 hc.2.1 hc.2.2 him
          · cases h
        · cases h
      · cases h
    · cases h
  · cases h

theorem freeze_facts (w : World) {b : Nat} {arr : Array Value} {Te : TypeId} {fr : Nat × Nat} (h : w.heap[b]? = some (Obj.cells arr Te fr)) :
    (w.freeze ⟨b, arr.size, none⟩ 1).heap[b]? = some (Obj.cells arr Te (if fr.1 == fr.2 then (arr.size, arr.size + 1) else (min fr.1 arr.size, max fr.2 (arr.size + 1)))) ∧
    (∀ c, c ≠ b → (w.freeze ⟨b, arr.size, none⟩ 1).heap[c]? = w.heap[c]?) ∧ (w.freeze ⟨b, arr.size, none⟩ 1).heap.size = w.heap.size ∧ Quiet w (w.freeze ⟨b, arr.size, none⟩ 1) := by
  refine ⟨?_, fun c hc => ?_, ?_, ?_⟩
  · simp [World.freeze, Array.getElem?_modify, h]
  · have : ¬ b = c := fun e => hc e.symm
    simp [World.freeze, Array.getElem?_modify, this]
  · simp [World.freeze]
  · constructor <;> simp [World.freeze]

theorem op_convSlice {o : Oper} {s : Nat} {x : Operand} {r n e : Nat} {p : Prov} {ty : Ty} {l : List ty.D} {i1 i2 : TI} (hT : TTok P T) (R : Rel B G pl σ a w) (hn : nt ≤ a.tmps.size) (ho : o.op = .convert s s x)
    (hs : T.at s = some i1) (hs' : i1.d = .slice e) (he : T.at e = some i2) (he' : i2.d = .int .u8) (hx : look σ x = some (.rw r)) (hr : σ.rows r = some ⟨n, .arr p ty l⟩) (hl : 0 < l.length) (hu8 : ty = .int .u8) :
    Goes P B nt G pl σ a w o ⟨true, some (.rw r), [(r, ⟨n + 1, .arr p ty l⟩)]⟩ := by
  obtain ⟨m, g1, _⟩ := R.look hx
  have g := g1.2 n p ty l hr
  obtain ⟨A, c, e1, e2, e3⟩ := id g
  obtain ⟨b, o0, f1, rfl, arr, Te, fr, f2, f3⟩ := e3 (by omega)
  obtain ⟨m1, q⟩ := R.rows _ _ hr
  rw [f1] at q
  obtain ⟨arr2, T2, fr2, q1, q2, q3, q4⟩ := q
  rw [f2] at q1
  cases q1
  obtain ⟨z1, z2, z3, z4⟩ := freeze_facts w f2
  have k1 := (hT _ _ hs).slice hs'
  have k2 := (hT _ _ he).int he'
  have hsh : w.shape? b = some (Te, arr.size) := by simp [World.shape?, f2]
  have hrun : (execOp a.eval o).run P w = .ok (.value (a.eval x)) (w.freeze ⟨b, arr.size, none⟩ 1) := by
    rw [e1]
    refine run_conv ho e1 ?_
    simp [convert, run_underlying k1, run_underlying k2, markStringish, hsh]
  obtain ⟨S, Q⟩ := R.write (w' := w.freeze ⟨b, arr.size, none⟩ 1) (s' := ⟨n + 1, .arr p ty l⟩) (dst := o.dst) (ov := some (.rw r)) (u := a.eval x) hn hr (by simp [RowS.live])
    ⟨by simp, .inr (.inr (.inl ⟨p, _, ty, l, _, rfl, rfl, rfl, by simp⟩))⟩ (by simp)
    z3 (fun d hd => z2 d (fun e => by subst e; exact hd o0 f1))
    (fun d arr3 T3 fr3 h => by
      by_cases e : d = b
      · subst e
        rw [f2] at h
        cases h
        exact ⟨arr, _, _, z1, rfl⟩
      · exact ⟨arr3, T3, fr3, (z2 d e).trans h, rfl⟩)
    (fun S => by
      refine ⟨S.provIn m1, ?_⟩
      rw [f1]
      refine ⟨arr, Te, _, z1, q2, ?_, fun hok i z hz => ?_⟩
      · unfold UnfrozenT at q3 ⊢
        split
        · exact .inr ⟨hu8, Nat.le_refl _⟩
        · rename_i hne
          have hne' : ¬ fr.1 = fr.2 := by simpa using hne
          refine .inr ⟨hu8, ?_⟩
          have := (q3.resolve_left hne').2
          simp only
          omega
      · obtain ⟨es, r1, r2⟩ := q4 (S.okProv m1 hok) i z hz
        refine ⟨es, S.rd m1 hok r1, fun j v hj => ?_⟩
        have := r2 j v hj
        rw [add_at] at this ⊢
        simp only [World.cell?, f2] at this
        simp only [World.cell?, z1]
        exact this)
    (fun S => by
      refine ⟨fun v ev => ?_, fun ev => by cases ev⟩
      obtain rfl := Option.some.inj ev
      refine ⟨by simp [Men, upd_at], fun _ => ⟨⟨g1.1.1, fun n p kt vt bx l tk hr' => (by rw [upd_at, if_pos rfl] at hr'; cases hr')⟩, fun n' p' t' l' hr' => ?_⟩⟩
      rw [upd_at, if_pos rfl] at hr'
      cases hr'
      exact S.sliceOf rfl g)
  exact ⟨pl, _, _, .inl hrun, S, z4, Q⟩

theorem op_conv {o : Oper} {s d : Nat} {x : Operand} {out : Out} {key : Nat} (hT : TTok P T) (R : Rel B G pl σ a w) (hn : nt ≤ a.tmps.size) (hZ : ∀ b, pl.Z b → b < B) (hB : B ≤ w.heap.size) (hk : σ.rows key = none) (h0 : key ≠ 0) (ho : o.op = .convert s d x)
    (h : opOut T key o.op (look σ) σ.rows = some out) (hok : out.ok = true) : Goes P B nt G pl σ a w o out := by
  by_cases hno : ∃ e i j, T.at d = some i ∧ i.d = .slice e ∧ T.at s = some j
  · obtain ⟨e, i, j, h1, h2, h3⟩ := hno
    rw [ho] at h
    simp only [opOut] at h
    split at h
    · rename_i hd _
      rw [h1] at hd
      cases hd
      cases h2
    · rename_i hd _
      rw [h1] at hd
      cases hd
      cases h2
    · rename_i hd _
      rw [h1] at hd
      cases hd
      cases h2
    · rename_i hs hd hx
      split at h
      · rename_i he
        obtain rfl := Option.some.inj h
        have hys := of_decide_eq_true hok
        rw [show decide _ = true from hok]
        exact op_strBytes hT R hn hZ hB hk h0 ho hs rfl hd rfl he rfl hx hys
      · cases h
    · rename_i hs hd hx
      split at h
      · rename_i he hr
        split at h
        · rename_i hsd
          obtain ⟨hsd, hu8⟩ := hsd
          subst hsd
          obtain rfl := Option.some.inj h
          have hl := of_decide_eq_true hok
          rw [show decide _ = true from hok]
          rw [hs] at hd
          cases hd
          exact op_convSlice hT R hn ho hs rfl he rfl hx hr hl hu8
        · cases h
      · cases h
    · cases h
  · exact (op_convert hT R ho h (fun e hx => hno ⟨e, hx⟩) hok).goes R hn

theorem op_call {o : Oper} {c : Call} {out : Out} {key : Nat} (hT : TTok P T) (R : Rel B G pl σ a w) (hn : nt ≤ a.tmps.size) (hZ : ∀ b, pl.Z b → b < B) (hB : B ≤ w.heap.size) (hk : σ.rows key = none) (h0 : key ≠ 0) (ho : o.op = .call c)
    (h : opOut T key o.op (look σ) σ.rows = some out) (hok : out.ok = true) : Goes P B nt G pl σ a w o out := by
  have h' := h
  rw [ho] at h'
  simp only [opOut] at h'
  split at h'
  · rename_i b hb
    cases b
    case append => exact op_append hT R hn hZ hB hk h0 ho hb h hok
    case copy => exact op_copy hT R hn ho hb h hok
    case len => exact (op_len hT R ho hb h hok).goes R hn
    case clear => exact op_clear hT R hn ho hb h hok
    case cap => exact (op_cap hT R ho hb h hok).goes R hn
    case min => exact (op_minmax R ho (.inl hb) h hok).goes R hn
    case max => exact (op_minmax R ho (.inr hb) h hok).goes R hn
    all_goals
      split at h'
      · unfold builtinOut at h'
        split at h' <;> first | (cases h'; done) | (rename_i hx; cases hx; done) | skip
        all_goals (simp at *; done)
      · cases h'
  · cases h'

/-- What an operation comes to in the small machine it comes to in the model. -/
theorem op_sound {o : Oper} {out : Out} {key : Nat} (hT : TTok P T) (R : Rel B G pl σ a w) (hn : nt ≤ a.tmps.size) (hZ : ∀ b, pl.Z b → b < B) (hB : B ≤ w.heap.size) (hk : σ.rows key = none) (h0 : key ≠ 0)
    (h : opOut T key o.op (look σ) σ.rows = some out) (hok : out.ok = true) : Goes P B nt G pl σ a w o out := by
  generalize ho : o.op = op
  cases op
  case move => exact (op_move R (.inl ho) h).goes R hn
  case assign => exact (op_move R (.inr ho) h).goes R hn
  case pick => exact (op_pick R ho h hok).goes R hn
  case alloc => exact op_alloc hT R hn hZ hB hk h0 ho h
  case box => exact op_box R hn hZ hB hk h0 ho h
  case build => exact (op_build hT R ho h).goes R hn
  case buildSlice => exact op_buildSlice hT R hn hZ hB hk h0 ho h hok
  case load => exact (op_load hT R ho h).goes R hn
  case store => exact op_store hT R hn ho h
  case nilCheck => exact (op_nilCheck R ho h).goes R hn
  case binOp => exact (op_binOp hT R ho h hok).goes R hn
  case unOp => exact (op_unOp R ho h).goes R hn
  case convert => exact op_conv hT R hn hZ hB hk h0 ho h hok
  case makeFunc => exact (op_makeFunc R ho h).goes R hn
  case makeSlice => exact op_makeSlice hT R hn hZ hB hk h0 ho h hok
  case slice t x lo hi m =>
    cases m with
    | none => exact (op_slice hT R ho h hok).goes R hn
    | some m => rw [ho] at h; simp [opOut] at h
  case fieldAddr => exact (op_fieldAddr hT R ho h).goes R hn
  case field => exact (op_field hT R ho h).goes R hn
  case indexAddr => exact (op_indexAddr hT R ho h hok).goes R hn
  case index => exact (op_index hT R ho h hok).goes R hn
  case extract => exact (op_extract R ho h).goes R hn
  case call => exact op_call hT R hn hZ hB hk h0 ho h hok
  case makeMap t m =>
    cases m with
    | none => exact op_makeMap hT R hn hZ hB hk h0 ho h
    | some m => rw [ho] at h; simp [opOut] at h
  case lookup => exact op_lookup hT R hn hZ hB hk h0 ho h
  case mapUpdate => exact op_mapUpdate hT R hn hZ hB ho h hok
  case range => exact op_range hT R hn hZ hB hk h0 ho h
  case entry => exact op_entry hT R hn hZ hB hk h0 ho h hok
  all_goals (rw [ho] at h; simp [opOut] at h; done)
end
end Go.Proofs.Ytecnlienmpdlaaa.PM
