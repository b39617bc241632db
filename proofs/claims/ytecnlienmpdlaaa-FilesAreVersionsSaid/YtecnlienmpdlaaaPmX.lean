/- The small machine PM is sound, sixth part: append, copy and stores. -/
import Derived.Test.YtecnlienmpdlaaaPmW
set_option linter.unusedSimpArgs false
set_option linter.unusedVariables false
namespace Go.Proofs.Ytecnlienmpdlaaa.PM
open Go

section
variable {P : Program} {B nt : Nat} {G : Nat → Prop} {pl pl' : Pl} {σ : St} {a : Act} {w w' : World} {T : TT}

theorem setCells_heap (b : Nat) : ∀ (vs : List Value) (o : Nat) (w : World) (arr : Array Value) (Te : TypeId) (fr : Nat × Nat), w.heap[b]? = some (Obj.cells arr Te fr) → o + vs.length ≤ arr.size →
    ∃ arr' : Array Value, (w.setCells b o vs).heap[b]? = some (Obj.cells arr' Te fr) ∧ arr'.toList = arr.toList.take o ++ vs ++ arr.toList.drop (o + vs.length)
  | [], o, w, arr, Te, fr, h, hl => ⟨arr, h, by simp⟩
  | v :: vs, o, w, arr, Te, fr, h, hl => by
    simp only [List.length_cons] at hl
    have h1 : (w.setCell ⟨b, o, none⟩ v).heap[b]? = some (Obj.cells (arr.setIfInBounds o v) Te fr) := by
      simp [World.setCell, Array.getElem?_modify, h]
    obtain ⟨arr', g1, g2⟩ := setCells_heap b vs (o + 1) _ _ Te fr h1 (by simp; omega)
    refine ⟨arr', g1, ?_⟩
    rw [g2]
    simp only [Array.toList_setIfInBounds, List.length_cons]
    have e1 : (arr.toList.set o v).take (o + 1) = arr.toList.take o ++ [v] := by
      rw [List.take_add_one]
      simp [List.take_set_of_le, show o < arr.size by omega]
    have e2 : (arr.toList.set o v).drop (o + 1 + vs.length) = arr.toList.drop (o + (vs.length + 1)) := by
      rw [List.drop_set_of_lt (by omega)]
      congr 1; omega
    rw [e1, e2]
    simp
theorem setCells_other (b : Nat) : ∀ (vs : List Value) (o : Nat) (w : World) (c : Nat), c ≠ b → (w.setCells b o vs).heap[c]? = w.heap[c]?
  | [], o, w, c, h => rfl
  | v :: vs, o, w, c, h => by
    rw [World.setCells, setCells_other b vs (o + 1) _ c h]
    exact RowKit.Below.heap_setCell _ _ _ _ h
theorem setCells_size (b : Nat) : ∀ (vs : List Value) (o : Nat) (w : World), (w.setCells b o vs).heap.size = w.heap.size
  | [], o, w => rfl
  | v :: vs, o, w => by rw [World.setCells, setCells_size b vs (o + 1)]; simp
theorem setCells_quiet (b : Nat) : ∀ (vs : List Value) (o : Nat) (w : World), Quiet w (w.setCells b o vs)
  | [], o, w => Quiet.refl w
  | v :: vs, o, w => by
    rw [World.setCells]
    exact Quiet.trans (b := w.setCell ⟨b, o, none⟩ v) ⟨rfl, rfl, rfl⟩ (setCells_quiet b vs (o + 1) _)

theorem run_stores {b o : Nat} {vs : List Value} {arr : Array Value} {Te : TypeId} {fr : Nat × Nat} (h : w.heap[b]? = some (Obj.cells arr Te fr)) (hl : o + vs.length ≤ arr.size) (hf : Unfrozen fr arr.size) (h1 : ∀ v ∈ vs, v.oneCell' = true) :
    (storeCells ⟨b, o, none⟩ vs).run P w = .ok () (w.setCells b o vs) := by
  have := run_storeCells_cells (P := P) b o vs 0 w (fun j hj => by
      simp only [World.cell?, h, Nat.add_zero]
      simp; omega) (fun j hj => by
      simp only [World.frozen?, h, Nat.add_zero]
      rcases hf with e | e
      · simp; intro q; omega
      · simp; intro q; omega) h1
  simpa using this


/-- What an append is to: a slice of the run's own, or none. -/
structure Base (w : World) (pl : Pl) (rows rows1 : Rows) (ty : Ty) (A : Option Addr) (n c : Nat) (l : List ty.D) (p : Prov) : Prop where
  len : l.length = n
  le : n ≤ c
  prov : ProvIn rows p
  wane : Wane rows rows1
  row : 0 < c → ∃ (r b o off : Nat) (arr : Array Value) (Te : TypeId) (fr : Nat × Nat) (s0 : RowS) (n0 : Nat), rows r = some s0 ∧ s0.live ∧ rows1 r = some ⟨n0, .gone⟩ ∧ pl.loc r = some (b, o) ∧
    A = some ⟨b, o + off * ty.size, none⟩ ∧ w.heap[b]? = some (Obj.cells arr Te fr) ∧ (o + (off + c) * ty.size ≤ arr.size ∧ c ≤ 9223372036854775807) ∧ UnfrozenT ty fr arr.size
  laid : ∃ olds : List Value, olds.length = n * ty.size ∧ Laid w (Safe w pl rows p) ty l olds ∧ (∀ ad, A = some ad → ∀ (j : Nat) (v : Value), olds[j]? = some v → w.cell? (ad.add j) = some v) ∧ (A = none → olds = [])

theorem append_core (R : Rel B G pl σ a w) (hn : nt ≤ a.tmps.size) (hZ : ∀ b, pl.Z b → b < B) (hB : B ≤ w.heap.size) {key : Nat} (hk : σ.rows key = none) (h0 : key ≠ 0) {rows1 : Rows}
    {t t2 e tyo : Nat} {f0 : TypeInfo} {z x : Value} {ts : Array Nat} {ty : Ty} (ht1 : ts[0]? = some t) (ht2 : ts[1]? = some t2) (ht : P.underlying t = some (.slice e)) (hi : P.info? e = some f0) (hsz : f0.size = ty.size) (hz : f0.zero = some z) (hzs : z.cells.size = ty.size)
    {A : Option Addr} {n c : Nat} {l y : List ty.D} {p p2 : Prov} {news : List Value} (hb : Base w pl σ.rows rows1 ty A n c l p) (hA : Adds P w t2 x ty.size f0 z y.length news)
    (hp2 : ProvIn σ.rows p2) (hy : Laid w (Safe w pl σ.rows p2) ty y news) (hnl : news.length = y.length * ty.size) (hn1 : ∀ v ∈ news, v.oneCell' = true)
    (hbytes : (n + y.length) * f0.bytes ≤ 140737488355328) (h63 : n + y.length ≤ 140737488355328) (dst : Option Nat) :
    ∃ pl' w' u, (Builtin.append_ ts tyo #[.slice A n c, x]).run P w = .ok u w' ∧ Step w pl σ.rows w' pl' (upd rows1 key (some ⟨0, .arr (p ++ p2) ty (l ++ y)⟩)) ∧ Quiet w w' ∧
      Rel B G pl' ⟨putDst nt σ.env dst (some (.rw key)), upd rows1 key (some ⟨0, .arr (p ++ p2) ty (l ++ y)⟩)⟩ (a.put dst u) w' := by
  obtain ⟨olds, o1, o2, o3, o4⟩ := hb.laid
  have hlaid : Laid w (Safe w pl σ.rows (p ++ p2)) ty (l ++ y) (olds ++ news) :=
    Laid.append (o2.mono fun b hb => Safe.mono (fun q hq => List.mem_append_left _ hq) hb) (by rw [o1, hb.len]) (hy.mono fun b hb => Safe.mono (fun q hq => List.mem_append_right _ hq) hb)
  have hprov := ProvIn.append hb.prov hp2
  by_cases hfit : n + y.length ≤ c
  · by_cases hc : 0 < c
    · obtain ⟨r, b, o, off, arr, Te, fr, s0, n0, r1, r2, r3, r4, rfl, r6, r7, r8⟩ := hb.row hc
      have hmul : (off + c) * ty.size = off * ty.size + c * ty.size := Nat.add_mul _ _ _
      have hmul2 : (n + y.length) * ty.size = n * ty.size + y.length * ty.size := Nat.add_mul _ _ _
      have hmul3 : (n + y.length) * ty.size ≤ c * ty.size := Nat.mul_le_mul_right _ hfit
      have hroom : o + off * ty.size + n * ty.size + news.length ≤ arr.size := by omega
      obtain ⟨arr', a1, a2⟩ := setCells_heap b news (o + off * ty.size + n * ty.size) w arr Te fr r6 hroom
      have asz : arr'.size = arr.size := by
        have := congrArg List.length a2
        simp at this
        omega
      have hst := run_stores (P := P) r6 hroom r8.un hn1
      have hbsz : b < w.heap.size := (R.own r s0 b o r1 r2 (.inl r4)).1
      have hrun := app_fit (P := P) (w := w) (ty := tyo) ht1 ht2 ht hi hsz hz hzs hA hfit (some ⟨b, o + off * ty.size, none⟩) (w.setCells b (o + off * ty.size + n * ty.size) news)
        (fun ad had => by cases had; rw [add_at]; exact hst) (fun h => by cases h)
      have hcell : ∀ (j : Nat) (v : Value), (olds ++ news)[j]? = some v → arr'[o + off * ty.size + j]? = some v := by
        intro j v hj
        rw [← Array.getElem?_toList, a2, splice_get _ _ _ (by simpa using hroom)]
        by_cases h : j < olds.length
        · rw [List.getElem?_append_left h] at hj
          rw [if_neg (by omega)]
          have := o3 _ rfl j v hj
          rw [add_at] at this
          simp only [World.cell?, r6] at this
          simpa using this
        · rw [List.getElem?_append_right (by omega)] at hj
          obtain ⟨q, _⟩ := List.getElem?_eq_some_iff.1 hj
          rw [if_pos ⟨by omega, by omega⟩, show o + off * ty.size + j - (o + off * ty.size + n * ty.size) = j - olds.length by omega]
          exact hj
      obtain ⟨S, Q⟩ := R.grow (w' := w.setCells b (o + off * ty.size + n * ty.size) news) (rows1 := rows1) (s := ⟨0, .arr (p ++ p2) ty (l ++ y)⟩) (kl := some (b, o + off * ty.size)) (dst := dst) (ov := some (.rw key))
        (u := .slice (some ⟨b, o + off * ty.size, none⟩) (n + y.length) c) hn hZ hB hk h0 hb.wane (by rw [setCells_size]; exact Nat.le_refl _)
        (fun d hd => by
          by_cases e : d = b
          · subst e; exact .inr ⟨r, s0, n0, o, r1, r2, r3, r4⟩
          · exact .inl (setCells_other b _ _ w d e))
        (fun d arr2 T2 fr2 h => by
          by_cases e : d = b
          · subst e
            rw [r6] at h
            cases h
            exact ⟨arr', _, _, a1, asz⟩
          · exact ⟨arr2, T2, fr2, (setCells_other b _ _ w d e).trans h, rfl⟩)
        (fun b' o' h => by
          cases h
          exact ⟨by rw [setCells_size]; exact hbsz, .inr ⟨r, s0, n0, o, r1, r2, r3, r4⟩⟩)
        (fun S => by
          refine ⟨S.provIn hprov, ?_⟩
          rw [loc_put, if_pos rfl]
          refine ⟨arr', Te, fr, a1, ?_, asz ▸ r8, fun hok i x hx => ?_⟩
          · rw [List.length_append, hb.len, asz]; omega
          · obtain ⟨es, g1, g2⟩ := hlaid i x hx
            refine ⟨es, S.rd hprov hok g1, fun j v hj => ?_⟩
            rw [add_at]
            simp only [World.cell?, a1]
            have := hcell _ v (g2 j v hj)
            simpa [Nat.add_assoc] using this)
        (fun S => by
          refine ⟨fun v e => ?_, fun e => by cases e⟩
          obtain rfl := Option.some.inj e
          refine ⟨by simp [Men, upd_at], fun _ => ⟨⟨rfl, fun n p kt vt bx l tk hr => (by rw [upd_at, if_pos rfl] at hr; cases hr)⟩, fun n' p' t' l' hr => ?_⟩⟩
          rw [upd_at, if_pos rfl] at hr
          cases hr
          refine ⟨_, c, by rw [List.length_append, hb.len], by rw [List.length_append, hb.len]; exact hfit, fun _ => ⟨b, o + off * ty.size, by rw [loc_put, if_pos rfl], by simp, arr', Te, fr, a1, ?_⟩⟩
          rw [asz, Nat.zero_add]; omega)
      exact ⟨_, _, _, hrun, S, setCells_quiet b _ _ w, Q⟩
    · have hc0 : c = 0 := by omega
      have hle := hb.le
      have hn0 : n = 0 := by omega
      have hy0 : y.length = 0 := by omega
      have hy' : y = [] := List.length_eq_zero_iff.1 hy0
      have hl' : l = [] := List.length_eq_zero_iff.1 (by rw [hb.len]; exact hn0)
      have hnews : news = [] := List.length_eq_zero_iff.1 (by rw [hnl, hy0, Nat.zero_mul])
      subst hnews; subst hy'; subst hl'; subst hc0; subst hn0
      have hrun := app_fit (P := P) (w := w) (ty := tyo) ht1 ht2 ht hi hsz hz hzs hA hfit A w (fun ad had => rfl) (fun h => rfl)
      obtain ⟨S, Q⟩ := R.grow (w' := w) (rows1 := rows1) (s := ⟨0, .arr (p ++ p2) ty ([] ++ [])⟩) (kl := none) (dst := dst) (ov := some (.rw key))
        (u := .slice A 0 0) hn hZ hB hk h0 hb.wane (Nat.le_refl _) (fun d hd => .inl rfl) (fun d arr2 T2 fr2 h => ⟨arr2, T2, fr2, h, rfl⟩) (fun b' o' h => by cases h)
        (fun S => by
          refine ⟨S.provIn hprov, ?_⟩
          rw [loc_put, if_pos rfl]
          rfl)
        (fun S => by
          refine ⟨fun v e => ?_, fun e => by cases e⟩
          obtain rfl := Option.some.inj e
          refine ⟨by simp [Men, upd_at], fun _ => ⟨⟨rfl, fun n p kt vt bx l tk hr => (by rw [upd_at, if_pos rfl] at hr; cases hr)⟩, fun n' p' t' l' hr => ?_⟩⟩
          rw [upd_at, if_pos rfl] at hr
          cases hr
          exact ⟨_, 0, rfl, Nat.le_refl _, fun h => absurd h (Nat.lt_irrefl _)⟩)
      exact ⟨_, _, _, hrun, S, Quiet.refl w, Q⟩
  · have hlt : c < n + y.length := by omega
    have hfc : (Builtin.firstCells ty.size n (.slice A n c)).run P w.drew = .ok olds.toArray w.drew := by
      cases A with
      | none => rw [o4 rfl]; simp [Builtin.firstCells]
      | some ad =>
        have := run_loadCells_list (P := P) w.drew ad olds (fun j v hj => by simpa using o3 ad rfl j v hj)
        rw [o1] at this
        simpa [Builtin.firstCells] using this
    have hrun := app_grow (P := P) (w := w) (ty := tyo) ht1 ht2 ht hi hsz hz hzs hA hlt hbytes h63 A hfc
    have hge := grownCap_ge w (n + y.length) c e
    obtain ⟨pl', S, Q⟩ := new_arr (w' := w.drew.alloc (.cells (olds.toArray ++ news.toArray ++ Builtin.zeroCells z.cells (grownCap w (n + y.length) c e - (n + y.length))) e)) (ty := ty) (l := l ++ y) (p := p ++ p2) (cap := grownCap w (n + y.length) c e)
      R hn hZ hB hk h0 hb.wane hprov (by simp) (fun b hb => heap_new w.drew _ b hb) (heap_at w.drew _) (.inl rfl)
      (fun i x hx => by
        obtain ⟨es, g1, g2⟩ := hlaid.more (a2 := (Builtin.zeroCells z.cells (grownCap w (n + y.length) c e - (n + y.length))).toList) i x hx
        exact ⟨es, g1, fun j v hj => by rw [← Array.getElem?_toList]; simpa using g2 j v hj⟩)
      (by rw [List.length_append, hb.len]; exact hge)
      (by
        simp only [Array.size_append, List.size_toArray, size_zeroCells, hzs, o1, hnl, ← Nat.add_mul]
        exact Nat.mul_le_mul_right _ (by omega)) (by have := grownCap_le_maxLen w (n + y.length) c e (by simp only [maxLen]; omega); simp only [maxLen] at this; omega) dst
    exact ⟨pl', _, _, hrun, S, ⟨rfl, rfl, rfl⟩, by rw [List.length_append, hb.len] at Q; exact Q⟩

theorem RD_flat {w : World} {S S' : Nat → Prop} : ∀ {t : Ty} {x : t.D} {cs : List Value}, t.flat = true → RD w S t x cs → RD w S' t x cs := by
  intro t
  induction t with
  | int k => intro x cs _ h; exact h
  | bool => intro x cs _ h; exact h
  | str => intro x cs _ h; exact h
  | unit => intro x cs _ h; exact h
  | slice t _ => intro x cs hf h; cases hf
  | prod a b iha ihb =>
    intro x cs hf h
    simp only [Ty.flat, Bool.and_eq_true] at hf
    obtain ⟨c1, c2, h0, h1, h2⟩ := h
    exact ⟨c1, c2, h0, iha hf.1 h1, ihb hf.2 h2⟩
theorem added0_sound (R : Rel B G pl σ a w) {ty : Ty} {x : PV} {u z : Value} {p2 : Prov} {y : List ty.D} {t2 : Nat} {f0 : TypeInfo} {d : TypeDesc} (hm : Men σ.rows x) (hk : okPV σ.rows x = true) (hv : VR w pl σ.rows x u)
    (hd : P.underlying t2 = some d) (hd' : ∀ k, d ≠ .int k) (h : added0 σ.rows ty x = some (p2, y)) :
    ∃ news, Adds P w t2 u ty.size f0 z y.length news ∧ ProvIn σ.rows p2 ∧ PM.okProv σ.rows p2 = true ∧ Laid w (Safe w pl σ.rows p2) ty y news ∧ news.length = y.length * ty.size ∧ (∀ v ∈ news, v.oneCell' = true) ∧
      (Builtin.lenOf u).run P w = .ok y.length w ∧ ∀ k, k ≤ y.length → (Builtin.firstCells ty.size k u).run P w = .ok (news.take (k * ty.size)).toArray w := by
  unfold added0 at h
  split at h
  · rename_i hx
    simp only [Option.some.injEq, Prod.mk.injEq] at h
    obtain ⟨rfl, rfl⟩ := h
    obtain ⟨_, _, g⟩ := toVal_sound R hm hk hv hx
    have g' : u = .slice none 0 0 := g
    subst g'
    exact ⟨[], ⟨.inl ⟨d, hd, hd', by simp [Builtin.lenOf], fun w' _ => by simp [Builtin.firstCells]⟩⟩, provIn_nil _, rfl, Laid.nil _ _ _ _, by simp, (fun v h => by cases h), by simp [Builtin.lenOf], fun k hk => by simp [Builtin.firstCells]⟩
  · rename_i p t x' hx
    obtain ⟨m1, m2, g⟩ := toVal_sound R hm hk hv hx
    split at h
    · rename_i ht
      subst ht
      simp only [Option.some.injEq, Prod.mk.injEq] at h
      obtain ⟨rfl, rfl⟩ := h
      obtain ⟨A, c, rfl, hc, hA⟩ := rd_list g
      cases hl : (x' : List ty.D) with
      | nil =>
        refine ⟨[], ⟨.inl ⟨d, hd, hd', ?_, fun w' _ => ?_⟩⟩, m1, m2, Laid.nil _ _ _ _, by simp, (fun v h => by cases h), by simp [Builtin.lenOf], fun k hk => ?_⟩
        · simp [Builtin.lenOf]
        rotate_left
        · have hk0 : k = 0 := Nat.le_zero.1 hk
          subst hk0
          cases A with
          | none => simp [Builtin.firstCells]
          | some ad =>
            have := run_loadCells_list (P := P) w ad [] (fun j v hj => by simp at hj)
            simpa [Builtin.firstCells] using this
        · cases A with
          | none => simp [Builtin.firstCells]
          | some ad =>
            have := run_loadCells_list (P := P) w' ad [] (fun j v hj => by simp at hj)
            simpa [Builtin.firstCells] using this
      | cons x0 l0 =>
        obtain ⟨ad, rfl, hs, hcs⟩ := hA (by rw [hl]; simp)
        obtain ⟨news, n1, n2, n3, n4⟩ := laid_cells hcs
        rw [← hl]
        refine ⟨news, ⟨.inl ⟨d, hd, hd', by simp [Builtin.lenOf], fun w' hw => ?_⟩⟩, m1, m2, n2, n1, n4, by simp [Builtin.lenOf], fun k hk => ?_⟩
        rotate_left
        · have := run_loadCells_list (P := P) w ad (news.take (k * ty.size)) (fun j v hj => by
            rw [List.getElem?_take] at hj
            split at hj
            · exact n3 j v hj
            · cases hj)
          have hlen : (news.take (k * ty.size)).length = k * ty.size := by
            rw [List.length_take, n1]
            exact Nat.min_eq_left (Nat.mul_le_mul_right _ hk)
          rw [hlen] at this
          simpa [Builtin.firstCells] using this
        have := run_loadCells_list (P := P) w' ad news (fun j v hj => by rw [hw]; exact n3 j v hj)
        rw [n1] at this
        simpa [Builtin.firstCells] using this
    · split at h
      · simp only [Option.some.injEq, Prod.mk.injEq] at h
        obtain ⟨rfl, rfl⟩ := h
        rename_i s hne
        have hs := isStr g
        subst hs
        refine ⟨(bytesOf s).map (Value.int .u8), ⟨.inl ⟨d, hd, hd', by rw [bytes_len]; simp [Builtin.lenOf], fun w' hw => ?_⟩⟩, provIn_nil _, rfl, ?_, by simp [Ty.size], ?_, by rw [bytes_len]; simp [Builtin.lenOf], fun k hk => ?_⟩
        · rw [bytes_len]
          have hex : s.extract 0 s.size = s := by simp
          simp only [Builtin.firstCells, hex, Sem.run_pure]
          congr 1
          apply Array.ext'
          simp [bytesOf]
        · intro i x hx
          exact ⟨[.int .u8 x], rfl, fun j v hj => by
            cases j with
            | succ j => simp at hj
            | zero => simp at hj; subst hj; simp [Ty.size, hx]⟩
        · intro v hv
          obtain ⟨q, _, rfl⟩ := List.mem_map.1 hv
          rfl
        · simp only [Builtin.firstCells, Sem.run_pure]
          congr 1
          apply Array.ext'
          simp [bytesOf, Ty.size]
          rfl
      · cases h
  · cases h

theorem added_sound (R : Rel B G pl σ a w) {ty : Ty} {x : PV} {u z : Value} {p2 : Prov} {y : List ty.D} {t2 : Nat} {f0 : TypeInfo} {d : TypeDesc} (hm : Men σ.rows x) (hk : okPV σ.rows x = true) (hv : VR w pl σ.rows x u)
    (hd : P.underlying t2 = some d) (hd' : ∀ k, d ≠ .int k) (h : added σ.rows ty x = some (p2, y)) :
    ∃ news, Adds P w t2 u ty.size f0 z y.length news ∧ ProvIn σ.rows p2 ∧ PM.okProv σ.rows p2 = true ∧ Laid w (Safe w pl σ.rows p2) ty y news ∧ news.length = y.length * ty.size ∧ (∀ v ∈ news, v.oneCell' = true) ∧
      (Builtin.lenOf u).run P w = .ok y.length w ∧ ∀ k, k ≤ y.length → (Builtin.firstCells ty.size k u).run P w = .ok (news.take (k * ty.size)).toArray w := by
  unfold added at h
  split at h
  · rename_i p y' h0
    simp only [Option.some.injEq, Prod.mk.injEq] at h
    obtain ⟨rfl, rfl⟩ := h
    obtain ⟨news, a1, a2, a3, a4, a5, a6, a7, a8⟩ := added0_sound (f0 := f0) (z := z) R hm hk hv hd hd' h0
    unfold flatP
    cases hf : ty.flat with
    | false => exact ⟨news, a1, a2, a3, a4, a5, a6, a7, a8⟩
    | true =>
      refine ⟨news, a1, provIn_nil _, rfl, ?_, a5, a6, a7, a8⟩
      intro i x hx
      obtain ⟨es, e1, e2⟩ := a4 i x hx
      exact ⟨es, RD_flat hf e1, e2⟩
  · cases h

/-- The rows of an append's base. -/
theorem base_nil (w : World) (pl : Pl) (rows : Rows) (ty : Ty) : Base w pl rows rows ty none 0 0 [] [] :=
  ⟨rfl, Nat.le_refl _, provIn_nil _, Wane.refl _, fun h => absurd h (Nat.lt_irrefl _), [], by simp, Laid.nil _ _ _ _, (fun _ h => by cases h), fun _ => rfl⟩

theorem base_row (R : Rel B G pl σ a w) {r n0 : Nat} {p : Prov} {ty : Ty} {l : List ty.D} (hr : σ.rows r = some ⟨n0, .arr p ty l⟩) (hp : PM.okProv σ.rows p = true) {off len : Nat} (hle : off + len ≤ l.length) {u : Value} (hs : SliceOf w pl r ty.size off len u) :
    ∃ A c, u = .slice A len c ∧ Base w pl σ.rows (upd σ.rows r (some ⟨n0, .gone⟩)) ty A len c ((l.drop off).take len) p := by
  obtain ⟨A, c, rfl, hc, hs⟩ := hs
  obtain ⟨g1, g2⟩ := R.rows _ _ hr
  have hlen : ((l.drop off).take len).length = len := by simp; omega
  refine ⟨A, c, rfl, hlen, hc, g1, Wane.one hr, fun h => ?_, ?_⟩
  · obtain ⟨b, o, e1, e2, arr, Te, fr, e3, e4⟩ := hs h
    rw [e1] at g2
    obtain ⟨arr2, T2, fr2, f1, f2, f3, f4⟩ := g2
    rw [e3] at f1
    cases f1
    exact ⟨r, b, o, off, arr, Te, fr, _, n0, hr, by simp [RowS.live], by rw [upd_at, if_pos rfl], e1, e2, e3, e4, f3⟩
  · by_cases h0 : len = 0
    · subst h0
      refine ⟨[], by simp, by simp; exact Laid.nil _ _ _ _, fun _ _ j v h => by simp at h, fun _ => rfl⟩
    · obtain ⟨b, o, e1, rfl, arr, Te, fr, e3, e4⟩ := hs (by omega)
      rw [e1] at g2
      obtain ⟨arr2, T2, fr2, f1, f2, f3, f4⟩ := g2
      obtain ⟨olds, n1, n2, n3, n4⟩ := laid_cells (w := w) (S := Safe w pl σ.rows p) (ad := ⟨b, o + off * ty.size, none⟩) (l := (l.drop off).take len) (fun i x hx => by
        simp only [List.getElem?_take, List.getElem?_drop] at hx
        split at hx
        · obtain ⟨es, q1, q2⟩ := f4 hp _ x hx
          refine ⟨es, q1, ?_⟩
          rw [add_at, Nat.add_assoc, ← Nat.add_mul]
          exact q2
        · cases hx)
      exact ⟨olds, by rw [n1, hlen], n2, fun ad had => by cases had; exact n3, fun h => by cases h⟩

theorem lim_bytes {n m b : Nat} (h : n + m ≤ LIM b) : (n + m) * b ≤ 140737488355328 ∧ n + m ≤ 140737488355328 := by
  have hb : LIM b * b ≤ 140737488355328 := Nat.div_mul_le_self _ _
  have h3 : LIM b ≤ 140737488355328 := Nat.div_le_self _ _
  exact ⟨Nat.le_trans (Nat.mul_le_mul_right _ h) hb, Nat.le_trans h h3⟩

theorem appendTo_sound (R : Rel B G pl σ a w) (hn : nt ≤ a.tmps.size) (hZ : ∀ b, pl.Z b → b < B) (hB : B ≤ w.heap.size) {key : Nat} (hk : σ.rows key = none) (h0 : key ≠ 0)
    {t t2 e tyo : Nat} {f0 : TypeInfo} {z x : Value} {ts : Array Nat} {ty : Ty} {bytes : Nat} (ht1 : ts[0]? = some t) (ht2 : ts[1]? = some t2) (ht : P.underlying t = some (.slice e)) (hi : P.info? e = some f0) (hsz : f0.size = ty.size) (hz : f0.zero = some z) (hzs : z.cells.size = ty.size) (hby : f0.bytes = bytes)
    {base : PV} {u : Value} {p2 : Prov} {y : List ty.D} {news : List Value} {out : Out} (hv : VR w pl σ.rows base u) (h : appendTo σ.rows key bytes ty base p2 y = some out) (hok : out.ok = true)
    (hA : Adds P w t2 x ty.size f0 z y.length news)
    (hp2 : ProvIn σ.rows p2) (hy : Laid w (Safe w pl σ.rows p2) ty y news) (hnl : news.length = y.length * ty.size) (hn1 : ∀ v ∈ news, v.oneCell' = true) (dst : Option Nat) :
    ∃ pl' w' u', (Builtin.append_ ts tyo #[u, x]).run P w = .ok u' w' ∧ Step w pl σ.rows w' pl' (updAll σ.rows out.upd) ∧ Quiet w w' ∧
      Rel B G pl' ⟨putDst nt σ.env dst out.v, updAll σ.rows out.upd⟩ (a.put dst u') w' := by
  subst hby
  unfold appendTo at h
  split at h
  · obtain rfl := Option.some.inj h
    have hv' : u = .slice none 0 0 := hv
    subst hv'
    have hok' : y.length ≤ LIM f0.bytes := of_decide_eq_true hok
    obtain ⟨q1, q2⟩ := lim_bytes (n := 0) (m := y.length) (b := f0.bytes) (by rw [Nat.zero_add]; exact hok')
    exact append_core R hn hZ hB hk h0 ht1 ht2 ht hi hsz hz hzs (base_nil w pl σ.rows ty) hA hp2 hy hnl hn1 q1 q2 dst
  · split at h
    · rename_i n0 p t' l hr
      split at h
      · rename_i hty
        subst hty
        split at h
        · rename_i hp
          obtain rfl := Option.some.inj h
          obtain ⟨A, c, rfl, hb⟩ := base_row R hr hp (off := 0) (len := l.length) (by omega) (hv.2 _ _ _ _ hr)
          rw [List.drop_zero, List.take_length] at hb
          obtain ⟨q1, q2⟩ := lim_bytes (of_decide_eq_true hok)
          exact append_core R hn hZ hB hk h0 ht1 ht2 ht hi hsz hz hzs hb hA hp2 hy hnl hn1 q1 q2 dst
        · cases h
      · cases h
    · cases h
  · split at h
    · rename_i off len _ n0 p t' l hr
      split at h
      · rename_i hty
        subst hty
        split at h
        · rename_i hp
          obtain rfl := Option.some.inj h
          obtain ⟨hle, hs⟩ := hv.2 _ _ _ _ hr
          obtain ⟨A, c, rfl, hb⟩ := base_row R hr hp hle hs
          have hlen : ((l.drop off).take len).length = len := hb.len
          obtain ⟨q1, q2⟩ := lim_bytes (of_decide_eq_true hok)
          rw [hlen] at q1 q2
          exact append_core R hn hZ hB hk h0 ht1 ht2 ht hi hsz hz hzs hb hA hp2 hy hnl hn1 q1 q2 dst
        · cases h
      · cases h
    · cases h
  · cases h

theorem append_lim {rows : Rows} {key bytes : Nat} {ty : Ty} {base : PV} {p2 : Prov} {y : List ty.D} {out : Out} (h : appendTo rows key bytes ty base p2 y = some out) (hok : out.ok = true) : y.length ≤ LIM bytes := by
  unfold appendTo at h
  split at h
  · obtain rfl := Option.some.inj h
    exact of_decide_eq_true hok
  · split at h
    · split at h
      · split at h
        · obtain rfl := Option.some.inj h
          exact Nat.le_trans (Nat.le_add_left _ _) (of_decide_eq_true hok)
        · cases h
      · cases h
    · cases h
  · split at h
    · split at h
      · split at h
        · obtain rfl := Option.some.inj h
          exact Nat.le_trans (Nat.le_add_left _ _) (of_decide_eq_true hok)
        · cases h
      · cases h
    · cases h
  · cases h

theorem op_append {o : Oper} {c : Call} {out : Out} {key : Nat} (hT : TTok P T) (R : Rel B G pl σ a w) (hn : nt ≤ a.tmps.size) (hZ : ∀ b, pl.Z b → b < B) (hB : B ≤ w.heap.size) (hk : σ.rows key = none) (h0 : key ≠ 0) (ho : o.op = .call c) (hc : c.callee = .builtin .append)
    (h : opOut T key o.op (look σ) σ.rows = some out) (hok : out.ok = true) : Goes P B nt G pl σ a w o out := by
  rw [ho] at h
  simp only [opOut, hc] at h
  split at h
  · rename_i vs hvs
    unfold builtinOut at h
    split at h
    all_goals (first | (cases ‹Builtin.append = _›; done) | (cases h; done) | skip)
    rename_i t t2 ts s x _ hts
    have ht1 : c.argTypes[0]? = some t := by rw [← Array.getElem?_toList, hts]; rfl
    have ht2 : c.argTypes[1]? = some t2 := by rw [← Array.getElem?_toList, hts]; rfl
    obtain ⟨u1, u2, e, g1, g2, m1, m2, k1, k2⟩ := two_args R hvs
    split at h
    · rename_i e' i ty he
      obtain ⟨q1, q2, q3, q4⟩ := elemTy_spec hT he
      obtain ⟨f0, z, f1, f2, f3, f4, f5, f6⟩ := zero_rows (hT _ _ q2) q3
      have fin : ∀ {pl' : Pl} {w' : World} {u : Value}, (Builtin.append_ c.argTypes o.type #[u1, u2]).run P w = .ok u w' → (execOp a.eval o).run P w = .ok (.value u) w' := by
        intro pl' w' u hr
        refine run_builtin ho hc ?_
        rw [e]
        simp [builtin, hr]
      have plain : ∀ {d : TypeDesc} {p2 : Prov} {y : List ty.D}, P.underlying t2 = some d → (∀ k, d ≠ .int k) → added σ.rows ty x = some (p2, y) → appendTo σ.rows key i.bytes ty s p2 y = some out → Goes P B nt G pl σ a w o out := by
        intro d p2 y hd hd' ha hap
        obtain ⟨news, a1, a2, a3, a4, a5, a6, _, _⟩ := added_sound (f0 := f0) (z := z) R m2 k2 g2 hd hd' ha
        obtain ⟨pl', w', u, r1, r2, r3, r4⟩ := appendTo_sound (nt := nt) (tyo := o.type) R hn hZ hB hk h0 ht1 ht2 q1 f1 f2 f4 f6 f3 g1 hap hok a1 a2 a4 a5 a6 o.dst
        exact ⟨pl', w', u, .inl (fin (pl' := pl') r1), r2, r3, r4⟩
      split at h
      · rename_i k z1 z2 z3 z4 htt
        split at h
        · rename_i p n
          split at h
          · rename_i o' hap
            obtain rfl := Option.some.inj h
            simp only [Bool.and_eq_true, decide_eq_true_eq] at hok
            obtain ⟨c1, c2⟩ := hok
            have hu2 := isInt g2
            obtain ⟨m, hm⟩ : ∃ m : Nat, (n : Int) = (m : Int) := ⟨Int.toNat n, (Int.toNat_of_nonneg c1).symm⟩
            replace hm : n = (m : Int) := hm
            subst hm
            have hap' : appendTo σ.rows key i.bytes ty s [] (List.replicate m ty.zero) = some o' := by
              rw [← hap]; simp
            have hlim := append_lim hap' c2
            rw [List.length_replicate] at hlim
            obtain ⟨l1, l2⟩ := lim_bytes (n := 0) (m := m) (b := i.bytes) (by omega)
            rw [Nat.zero_add] at l1 l2
            obtain ⟨pl', w', u, r1, r2, r3, r4⟩ := appendTo_sound (nt := nt) (tyo := o.type) (x := u2) (news := (madeCells z.cells (m * ty.size)).toList) R hn hZ hB hk h0 ht1 ht2 q1 f1 f2 f4 f6 f3 g1 hap' c2
              ⟨.inr ⟨k, (hT _ _ htt).int rfl, (by rw [List.length_replicate]; exact hu2), by rw [List.length_replicate, f3]; exact l1, by rw [List.length_replicate]; exact l2, by rw [List.length_replicate]⟩⟩ (provIn_nil _) (laid_zero f5 m) (by simp [size_madeCells]) (fun v hv => by
                have hz1 := RD_one (zeroCells_rd w (fun _ => True) ty)
                rw [← f5] at hz1
                simp only [madeCells, Array.toList_map, List.mem_map] at hv
                obtain ⟨k, hk, rfl⟩ := hv
                have hk' : k < m * ty.size := by simpa using hk
                have hpos : 0 < ty.size := by
                  rcases Nat.eq_zero_or_pos ty.size with e | e
                  · rw [e] at hk'; omega
                  · exact e
                have hlt : k % z.cells.size < z.cells.size := Nat.mod_lt _ (by omega)
                rw [getElem!_pos z.cells _ hlt]
                exact hz1 _ (by simp)) o.dst
            exact ⟨pl', w', u, .inl (fin (pl' := pl') r1), r2, r3, r4⟩
          · cases h
        · cases h
      · rename_i htt
        split at h
        · rename_i ha
          exact plain ((hT _ _ htt).str rfl) (by simp) ha h
        · cases h
      · rename_i htt
        split at h
        · rename_i ha
          exact plain ((hT _ _ htt).slice rfl) (by simp) ha h
        · cases h
      · cases h
    · cases h
  · cases h

/-! ### copy -/
theorem splice_drop {α : Type} (l vs : List α) (off : Nat) : splice l off vs = l.take off ++ vs ++ l.drop (off + vs.length) := rfl

theorem copy_core (R : Rel B G pl σ a w) (hn : nt ≤ a.tmps.size)
    {t e tyo : Nat} {f0 : TypeInfo} {x : Value} {ts : Array Nat} {ty : Ty} (ht1 : ts[0]? = some t) (ht : P.underlying t = some (.slice e)) (hi : P.info? e = some f0) (hsz : f0.size = ty.size)
    {r n0 off len : Nat} {p p2 : Prov} {l y : List ty.D} {news : List Value} {u1 : Value} (hr : σ.rows r = some ⟨n0, .arr p ty l⟩) (hle : off + len ≤ l.length) (hs : SliceOf w pl r ty.size off len u1)
    (hp2 : ProvIn σ.rows p2) (hy : Laid w (Safe w pl σ.rows p2) ty y news) (hnl : news.length = y.length * ty.size) (hn1 : ∀ v ∈ news, v.oneCell' = true)
    (hl : (Builtin.lenOf x).run P w = .ok y.length w) (hf : ∀ k, k ≤ y.length → (Builtin.firstCells ty.size k x).run P w = .ok (news.take (k * ty.size)).toArray w) (dst : Option Nat) :
    ∃ w', (Builtin.copy_ ts tyo #[u1, x]).run P w = .ok (.int .i64 ((min y.length len : Nat) : Int)) w' ∧
      Step w pl σ.rows w' pl (upd σ.rows r (some ⟨n0 + 1, .arr (p ++ p2) ty (splice l off (y.take (min y.length len)))⟩)) ∧ Quiet w w' ∧
      Rel B G pl ⟨putDst nt σ.env dst (some (mi .i64 ((min y.length len : Nat) : Int))), upd σ.rows r (some ⟨n0 + 1, .arr (p ++ p2) ty (splice l off (y.take (min y.length len)))⟩)⟩ (a.put dst (.int .i64 ((min y.length len : Nat) : Int))) w' := by
  obtain ⟨A, c, rfl, hc, hs⟩ := hs
  obtain ⟨g1, g2⟩ := R.rows _ _ hr
  generalize hm : min y.length len = m
  have hm1 : m ≤ y.length := by omega
  have hm2 : m ≤ len := by omega
  have hss : (sizeOf e).run P w = .ok ty.size w := by simp [sizeOf, typeInfo, hi, hsz]
  have hmin : Nat.min y.length len = m := hm
  have hsp : (splice l off (y.take m)).length = l.length := by
    simp only [splice, List.length_append, List.length_take, List.length_drop]; omega
  have hkin : Kin ⟨n0, .arr p ty l⟩ ⟨n0 + 1, .arr (p ++ p2) ty (splice l off (y.take m))⟩ := ⟨by simp, .inr (.inr (.inl ⟨p, p ++ p2, ty, l, _, rfl, rfl, hsp, by simp⟩))⟩
  have hcut : (news.take (m * ty.size)).length = m * ty.size := by
    rw [List.length_take, hnl]
    exact Nat.min_eq_left (Nat.mul_le_mul_right _ hm1)
  have hyl : Laid w (Safe w pl σ.rows p2) ty (y.take m) (news.take (m * ty.size)) := by
    intro i z hz
    rw [List.getElem?_take] at hz
    split at hz
    · rename_i him
      obtain ⟨es, q1, q2⟩ := hy i z hz
      refine ⟨es, q1, fun j v hj => ?_⟩
      obtain ⟨hj1, _⟩ := List.getElem?_eq_some_iff.1 hj
      rw [List.getElem?_take, if_pos (row_lt him (by have := RD_len q1; omega))]
      exact q2 j v hj
    · cases hz
  by_cases h0 : m = 0
  · subst h0
    have hrun : (Builtin.copy_ ts tyo #[.slice A len c, x]).run P w = .ok (.int .i64 ((0 : Nat) : Int)) w := by
      have hf0 := hf 0 (Nat.zero_le _)
      cases A with
      | none => simp [Builtin.copy_, ht1, run_underlying ht, hl, hss, hmin, hf0, goInt]
      | some ad =>
        have : (storeCells ad []).run P w = .ok () w := rfl
        simp [Builtin.copy_, ht1, run_underlying ht, hl, hss, hmin, hf0, goInt, this]
    have hspl : splice l off (y.take 0) = l := by simp [splice]
    rw [hspl] at hkin ⊢
    obtain ⟨S, Q⟩ := R.write (w' := w) (s' := ⟨n0 + 1, .arr (p ++ p2) ty l⟩) (dst := dst) (ov := some (mi .i64 ((0 : Nat) : Int))) (u := .int .i64 ((0 : Nat) : Int)) hn hr (by simp [RowS.live]) hkin (by simp) rfl (fun _ _ => rfl) (fun b arr Te fr h => ⟨arr, Te, fr, h, rfl⟩)
      (fun S => by
        refine ⟨S.provIn (ProvIn.append g1 hp2), ?_⟩
        cases hloc : pl.loc r with
        | none => rw [hloc] at g2; exact g2
        | some bo =>
          obtain ⟨b, o⟩ := bo
          rw [hloc] at g2
          obtain ⟨arr, Te, fr, e1, e2, e3, e4⟩ := g2
          refine ⟨arr, Te, fr, e1, e2, e3, fun hok i z hz => ?_⟩
          obtain ⟨k1, k2⟩ := okProv_append hok
          obtain ⟨es, q1, q2⟩ := e4 (S.okProv g1 k1) i z hz
          exact ⟨es, RD_mono (fun x hx => List.mem_append_left _ hx) (S.rd g1 k1 q1), q2⟩)
      (fun S => ⟨fun v ev => by obtain rfl := Option.some.inj ev; exact ⟨men_int _ _ _, fun _ => rfl⟩, fun ev => by cases ev⟩)
    exact ⟨w, hrun, S, Quiet.refl w, Q⟩
  · obtain ⟨b, o, e1, rfl, arr, Te, fr, e3, e4⟩ := hs (by omega)
    rw [e1] at g2
    obtain ⟨arr2, T2, fr2, f1, f2, f3, f4⟩ := g2
    rw [e3] at f1
    cases f1
    have hmul : (off + c) * ty.size = off * ty.size + c * ty.size := Nat.add_mul _ _ _
    have hmul3 : m * ty.size ≤ c * ty.size := Nat.mul_le_mul_right _ (by omega)
    have hroom : o + off * ty.size + (news.take (m * ty.size)).length ≤ arr.size := by rw [hcut]; omega
    obtain ⟨arr', a1, a2⟩ := setCells_heap b (news.take (m * ty.size)) (o + off * ty.size) w arr Te fr e3 hroom
    have asz : arr'.size = arr.size := by
      have := congrArg List.length a2
      simp only [List.length_append, List.length_take, List.length_drop, Array.length_toList] at this
      simp only [List.length_take] at hroom
      omega
    have hst := run_stores (P := P) e3 hroom f3.un (fun v hv => hn1 v (List.mem_of_mem_take hv))
    have hrun : (Builtin.copy_ ts tyo #[.slice (some ⟨b, o + off * ty.size, none⟩) len c, x]).run P w = .ok (.int .i64 ((m : Nat) : Int)) (w.setCells b (o + off * ty.size) (news.take (m * ty.size))) := by
      simp [Builtin.copy_, ht1, run_underlying ht, hl, hss, hmin, hf m hm1, goInt, hst]
    obtain ⟨S, Q⟩ := R.write (w' := w.setCells b (o + off * ty.size) (news.take (m * ty.size))) (s' := ⟨n0 + 1, .arr (p ++ p2) ty (splice l off (y.take m))⟩) (dst := dst) (ov := some (mi .i64 ((m : Nat) : Int))) (u := .int .i64 ((m : Nat) : Int)) hn hr (by simp [RowS.live]) hkin (by simp)
      (setCells_size _ _ _ _) (fun d hd => setCells_other b _ _ w d (fun e => by subst e; exact hd o e1))
      (fun d arr3 T3 fr3 h => by
        by_cases e : d = b
        · subst e
          rw [e3] at h
          cases h
          exact ⟨arr', _, _, a1, asz⟩
        · exact ⟨arr3, T3, fr3, (setCells_other b _ _ w d e).trans h, rfl⟩)
      (fun S => by
        refine ⟨S.provIn (ProvIn.append g1 hp2), ?_⟩
        rw [e1]
        refine ⟨arr', Te, fr, a1, by rw [hsp, asz]; exact f2, asz ▸ f3, fun hok i z hz => ?_⟩
        obtain ⟨k1, k2⟩ := okProv_append hok
        have cell : ∀ j, (w.setCells b (o + off * ty.size) (news.take (m * ty.size))).cell? ⟨b, o + i * ty.size + j, none⟩ = (arr.toList.take (o + off * ty.size) ++ news.take (m * ty.size) ++ arr.toList.drop (o + off * ty.size + (news.take (m * ty.size)).length))[o + i * ty.size + j]? := by
          intro j
          simp only [World.cell?, a1]
          rw [← a2]
          simp
        have hyk : (y.take m).length = m := by rw [List.length_take]; omega
        rw [splice_drop, splice_get _ _ _ (by rw [hyk]; omega), hyk] at hz
        by_cases hi' : off ≤ i ∧ i < off + m
        · rw [if_pos hi'] at hz
          obtain ⟨es, q1, q2⟩ := hyl _ z hz
          refine ⟨es, RD_mono (fun x hx => List.mem_append_right _ hx) (S.rd hp2 k2 q1), fun j v hj => ?_⟩
          have hj2 := q2 j v hj
          obtain ⟨hlt, _⟩ := List.getElem?_eq_some_iff.1 hj2
          rw [add_at, cell, splice_get _ _ _ (by simpa using hroom)]
          have him : (i - off) * ty.size = i * ty.size - off * ty.size := Nat.sub_mul _ _ _
          have him2 : off * ty.size ≤ i * ty.size := Nat.mul_le_mul_right _ hi'.1
          rw [if_pos ⟨by omega, by omega⟩, show o + i * ty.size + j - (o + off * ty.size) = (i - off) * ty.size + j by omega]
          exact hj2
        · rw [if_neg hi'] at hz
          obtain ⟨es, q1, q2⟩ := f4 (S.okProv g1 k1) i z hz
          refine ⟨es, RD_mono (fun x hx => List.mem_append_left _ hx) (S.rd g1 k1 q1), fun j v hj => ?_⟩
          obtain ⟨hj1, _⟩ := List.getElem?_eq_some_iff.1 hj
          have hes := RD_len q1
          rw [add_at, cell, splice_get _ _ _ (by simpa using hroom), if_neg ?_]
          · have := q2 j v hj
            rw [add_at] at this
            simp only [World.cell?, e3] at this
            simpa using this
          · rw [hcut]
            rintro ⟨h1, h2⟩
            rcases Nat.lt_or_ge i off with h | h
            · have := row_lt (sz := ty.size) h (j := j) (by omega); omega
            · have h3 : off + m ≤ i := by omega
              have := Nat.mul_le_mul_right ty.size h3
              rw [Nat.add_mul] at this
              omega)
      (fun S => ⟨fun v ev => by obtain rfl := Option.some.inj ev; exact ⟨men_int _ _ _, fun _ => rfl⟩, fun ev => by cases ev⟩)
    exact ⟨_, hrun, S, setCells_quiet _ _ _ _, Q⟩

theorem op_copy {o : Oper} {c : Call} {out : Out} {key : Nat} (hT : TTok P T) (R : Rel B G pl σ a w) (hn : nt ≤ a.tmps.size) (ho : o.op = .call c) (hc : c.callee = .builtin .copy)
    (h : opOut T key o.op (look σ) σ.rows = some out) (hok : out.ok = true) : Goes P B nt G pl σ a w o out := by
  rw [ho] at h
  simp only [opOut, hc] at h
  split at h
  · rename_i vs hvs
    unfold builtinOut at h
    split at h
    all_goals (first | (cases ‹Builtin.copy = _›; done) | (cases h; done) | skip)
    rename_i t ts d s _ hts
    have ht1 : c.argTypes[0]? = some t := by rw [← Array.getElem?_toList, hts]; rfl
    obtain ⟨u1, u2, e, g1, g2, m1, m2, k1, k2⟩ := two_args R hvs
    split at h
    · rename_i e' i ty he
      obtain ⟨q1, q2, q3, q4⟩ := elemTy_spec hT he
      obtain ⟨f0, z, f1, f2, f3, f4, f5, f6⟩ := zero_rows (hT _ _ q2) q3
      have go : ∀ {r off len : Nat}, copyIn σ.rows ty r off len s = some out → (∀ n0 p l, σ.rows r = some ⟨n0, .arr p ty l⟩ → off + len ≤ l.length ∧ SliceOf w pl r ty.size off len u1) → Goes P B nt G pl σ a w o out := by
        intro r off len h hsl
        unfold copyIn at h
        split at h
        · rename_i n0 p t' l hr
          split at h
          · rename_i hty
            subst hty
            split at h
            · rename_i p2 y ha
              obtain rfl := Option.some.inj h
              obtain ⟨hle, hs⟩ := hsl _ _ _ hr
              obtain ⟨news, a1, a2, a3, a4, a5, a6, a7, a8⟩ := added_sound (f0 := f0) (z := z) (t2 := t) (d := .slice e') R m2 k2 g2 q1 (by simp) ha
              obtain ⟨w', r1, r2, r3, r4⟩ := copy_core (nt := nt) (tyo := o.type) R hn ht1 q1 f1 f2 hr hle hs a2 a4 a5 a6 a7 a8 o.dst
              refine ⟨pl, w', _, .inl (run_builtin ho hc ?_), r2, r3, r4⟩
              rw [e]
              simp [builtin, r1]
            · cases h
          · cases h
        · cases h
      unfold copyTo at h
      split at h
      · split at h
        · rename_i r n0 p t' l hr
          exact go h fun n1 p1 l1 hr1 => by
            rw [hr] at hr1
            cases hr1
            exact ⟨by omega, g1.2 _ _ _ _ hr⟩
        · cases h
      · rename_i r off len
        exact go h fun n1 p1 l1 hr1 => g1.2 _ _ _ _ hr1
      · cases h
    · cases h
  · cases h

theorem write_core (R : Rel B G pl σ a w) (hn : nt ≤ a.tmps.size) {ty : Ty}
    {r n0 off len m : Nat} {p p2 : Prov} {l y : List ty.D} {news : List Value} {u1 : Value} (hr : σ.rows r = some ⟨n0, .arr p ty l⟩) (hle : off + len ≤ l.length) (hs : SliceOf w pl r ty.size off len u1)
    (hp2 : ProvIn σ.rows p2) (hyl : Laid w (Safe w pl σ.rows p2) ty y news) (hnl : news.length = y.length * ty.size) (hn1 : ∀ v ∈ news, v.oneCell' = true) (hyk : y.length = m) (hm2 : m ≤ len)
    {v0 : PV} {u0 : Value} (hvu : ∀ (w' : World) (pl' : Pl) (rows' : Rows), Men rows' v0 ∧ VR w' pl' rows' v0 u0) (dst : Option Nat) :
    ∃ w', (m = 0 → w' = w) ∧ (0 < m → ∃ ad : Addr, (∃ c, u1 = .slice (some ad) len c) ∧ (storeCells ad news).run P w = .ok () w') ∧
      Step w pl σ.rows w' pl (upd σ.rows r (some ⟨n0 + 1, .arr (p ++ p2) ty (splice l off y)⟩)) ∧ Quiet w w' ∧
      Rel B G pl ⟨putDst nt σ.env dst (some v0), upd σ.rows r (some ⟨n0 + 1, .arr (p ++ p2) ty (splice l off y)⟩)⟩ (a.put dst u0) w' := by
  obtain ⟨A, c, rfl, hc, hs⟩ := hs
  obtain ⟨g1, g2⟩ := R.rows _ _ hr
  have hsp : (splice l off y).length = l.length := by
    simp only [splice, List.length_append, List.length_take, List.length_drop]; omega
  have hkin : Kin ⟨n0, .arr p ty l⟩ ⟨n0 + 1, .arr (p ++ p2) ty (splice l off y)⟩ := ⟨by simp, .inr (.inr (.inl ⟨p, p ++ p2, ty, l, _, rfl, rfl, hsp, by simp⟩))⟩
  have hcut : news.length = m * ty.size := by rw [hnl, hyk]
  by_cases h0 : m = 0
  · subst h0
    have hyn : y = [] := List.length_eq_zero_iff.1 hyk
    subst hyn
    have hspl : splice l off ([] : List ty.D) = l := by simp [splice]
    rw [hspl] at hkin ⊢
    obtain ⟨S, Q⟩ := R.write (w' := w) (s' := ⟨n0 + 1, .arr (p ++ p2) ty l⟩) (dst := dst) (ov := some v0) (u := u0) hn hr (by simp [RowS.live]) hkin (by simp) rfl (fun _ _ => rfl) (fun b arr Te fr h => ⟨arr, Te, fr, h, rfl⟩)
      (fun S => by
        refine ⟨S.provIn (ProvIn.append g1 hp2), ?_⟩
        cases hloc : pl.loc r with
        | none => rw [hloc] at g2; exact g2
        | some bo =>
          obtain ⟨b, o⟩ := bo
          rw [hloc] at g2
          obtain ⟨arr, Te, fr, e1, e2, e3, e4⟩ := g2
          refine ⟨arr, Te, fr, e1, e2, e3, fun hok i z hz => ?_⟩
          obtain ⟨k1, k2⟩ := okProv_append hok
          obtain ⟨es, q1, q2⟩ := e4 (S.okProv g1 k1) i z hz
          exact ⟨es, RD_mono (fun x hx => List.mem_append_left _ hx) (S.rd g1 k1 q1), q2⟩)
      (fun S => ⟨fun v ev => by obtain rfl := Option.some.inj ev; exact ⟨(hvu w pl _).1, fun _ => (hvu _ _ _).2⟩, fun ev => by cases ev⟩)
    exact ⟨w, fun _ => rfl, fun h => absurd h (Nat.lt_irrefl _), S, Quiet.refl w, Q⟩
  · obtain ⟨b, o, e1, rfl, arr, Te, fr, e3, e4⟩ := hs (by omega)
    rw [e1] at g2
    obtain ⟨arr2, T2, fr2, f1, f2, f3, f4⟩ := g2
    rw [e3] at f1
    cases f1
    have hmul : (off + c) * ty.size = off * ty.size + c * ty.size := Nat.add_mul _ _ _
    have hmul3 : m * ty.size ≤ c * ty.size := Nat.mul_le_mul_right _ (by omega)
    have hroom : o + off * ty.size + news.length ≤ arr.size := by rw [hcut]; omega
    obtain ⟨arr', a1, a2⟩ := setCells_heap b (news) (o + off * ty.size) w arr Te fr e3 hroom
    have asz : arr'.size = arr.size := by
      have := congrArg List.length a2
      simp only [List.length_append, List.length_take, List.length_drop, Array.length_toList] at this
      omega
    have hst := run_stores (P := P) e3 hroom f3.un (hn1)
    obtain ⟨S, Q⟩ := R.write (w' := w.setCells b (o + off * ty.size) (news)) (s' := ⟨n0 + 1, .arr (p ++ p2) ty (splice l off (y))⟩) (dst := dst) (ov := some v0) (u := u0) hn hr (by simp [RowS.live]) hkin (by simp)
      (setCells_size _ _ _ _) (fun d hd => setCells_other b _ _ w d (fun e => by subst e; exact hd o e1))
      (fun d arr3 T3 fr3 h => by
        by_cases e : d = b
        · subst e
          rw [e3] at h
          cases h
          exact ⟨arr', _, _, a1, asz⟩
        · exact ⟨arr3, T3, fr3, (setCells_other b _ _ w d e).trans h, rfl⟩)
      (fun S => by
        refine ⟨S.provIn (ProvIn.append g1 hp2), ?_⟩
        rw [e1]
        refine ⟨arr', Te, fr, a1, by rw [hsp, asz]; exact f2, asz ▸ f3, fun hok i z hz => ?_⟩
        obtain ⟨k1, k2⟩ := okProv_append hok
        have cell : ∀ j, (w.setCells b (o + off * ty.size) (news)).cell? ⟨b, o + i * ty.size + j, none⟩ = (arr.toList.take (o + off * ty.size) ++ news ++ arr.toList.drop (o + off * ty.size + news.length))[o + i * ty.size + j]? := by
          intro j
          simp only [World.cell?, a1]
          rw [← a2]
          simp
        rw [splice_drop, splice_get _ _ _ (by rw [hyk]; omega), hyk] at hz
        by_cases hi' : off ≤ i ∧ i < off + m
        · rw [if_pos hi'] at hz
          obtain ⟨es, q1, q2⟩ := hyl _ z hz
          refine ⟨es, RD_mono (fun x hx => List.mem_append_right _ hx) (S.rd hp2 k2 q1), fun j v hj => ?_⟩
          have hj2 := q2 j v hj
          obtain ⟨hlt, _⟩ := List.getElem?_eq_some_iff.1 hj2
          rw [add_at, cell, splice_get _ _ _ (by simpa using hroom)]
          have him : (i - off) * ty.size = i * ty.size - off * ty.size := Nat.sub_mul _ _ _
          have him2 : off * ty.size ≤ i * ty.size := Nat.mul_le_mul_right _ hi'.1
          rw [if_pos ⟨by omega, by omega⟩, show o + i * ty.size + j - (o + off * ty.size) = (i - off) * ty.size + j by omega]
          exact hj2
        · rw [if_neg hi'] at hz
          obtain ⟨es, q1, q2⟩ := f4 (S.okProv g1 k1) i z hz
          refine ⟨es, RD_mono (fun x hx => List.mem_append_left _ hx) (S.rd g1 k1 q1), fun j v hj => ?_⟩
          obtain ⟨hj1, _⟩ := List.getElem?_eq_some_iff.1 hj
          have hes := RD_len q1
          rw [add_at, cell, splice_get _ _ _ (by simpa using hroom), if_neg ?_]
          · have := q2 j v hj
            rw [add_at] at this
            simp only [World.cell?, e3] at this
            simpa using this
          · rw [hcut]
            rintro ⟨h1, h2⟩
            rcases Nat.lt_or_ge i off with h | h
            · have := row_lt (sz := ty.size) h (j := j) (by omega); omega
            · have h3 : off + m ≤ i := by omega
              have := Nat.mul_le_mul_right ty.size h3
              rw [Nat.add_mul] at this
              omega)
      (fun S => ⟨fun v ev => by obtain rfl := Option.some.inj ev; exact ⟨(hvu w pl _).1, fun _ => (hvu _ _ _).2⟩, fun ev => by cases ev⟩)
    exact ⟨_, fun h => absurd h h0, fun _ => ⟨_, ⟨_, rfl⟩, hst⟩, S, setCells_quiet _ _ _ _, Q⟩


theorem made_one {z : Array Value} {ty : Ty} {n : Nat} (hz : z.toList = zeroCells ty) (hs : z.size = ty.size) : ∀ v ∈ (madeCells z (n * ty.size)).toList, v.oneCell' = true := by
  intro v hv
  have hz1 : ∀ u ∈ z.toList, u.oneCell' = true := by
    rw [hz]
    exact RD_one (zeroCells_rd default (fun _ => True) ty)
  simp only [madeCells, Array.toList_map, Array.toList_range, List.mem_map, List.mem_range] at hv
  obtain ⟨k, hk, rfl⟩ := hv
  have hpos : 0 < z.size := by
    rcases Nat.eq_zero_or_pos ty.size with e | e
    · rw [e] at hk; omega
    · rw [hs]; exact e
  have hlt : k % z.size < z.size := Nat.mod_lt _ hpos
  rw [getElem!_pos z _ hlt]
  exact hz1 _ (by simp)

theorem op_clear {o : Oper} {c : Call} {out : Out} {key : Nat} (hT : TTok P T) (R : Rel B G pl σ a w) (hn : nt ≤ a.tmps.size) (ho : o.op = .call c) (hc : c.callee = .builtin .clear)
    (h : opOut T key o.op (look σ) σ.rows = some out) (hok : out.ok = true) : Goes P B nt G pl σ a w o out := by
  rw [ho] at h
  simp only [opOut, hc] at h
  split at h
  · rename_i vs hvs
    unfold builtinOut at h
    split at h
    all_goals (first | (cases ‹Builtin.clear = _›; done) | (cases h; done) | skip)
    rename_i t ts d _ hts
    have ht1 : c.argTypes[0]? = some t := by rw [← Array.getElem?_toList, hts]; rfl
    obtain ⟨m1, ⟨u1, us, e, g1, hus⟩, k1⟩ := look_all R hvs
    have hus' : us = [] := hus
    subst hus'
    have eargs : c.args.map a.eval = #[u1] := by
      apply Array.ext'
      simpa using e
    split at h
    · rename_i e' i ty he
      obtain ⟨q1, q2, q3, q4⟩ := elemTy_spec hT he
      obtain ⟨f0, z, f1, f2, f3, f4, f5, f6⟩ := zero_rows (hT _ _ q2) q3
      have tupE : ∀ (w' : World) (pl' : Pl) (rows' : Rows), Men rows' (.tup []) ∧ VR w' pl' rows' (.tup []) (.tuple #[]) := fun w' pl' rows' => ⟨trivial, #[], [], [], rfl, rfl, rfl⟩
      have go : ∀ {r off len n0 : Nat} {p : Prov} {l : List ty.D}, σ.rows r = some ⟨n0, .arr p ty l⟩ → off + len ≤ l.length → SliceOf w pl r ty.size off len u1 → out = ⟨true, some (.tup []), [(r, ⟨n0 + 1, .arr p ty (splice l off (List.replicate len ty.zero))⟩)]⟩ → Goes P B nt G pl σ a w o out := by
        intro r off len n0 p l hr hle hs hout
        subst hout
        obtain ⟨w', r0, r1, r2, r3, r4⟩ := write_core (P := P) (nt := nt) (p2 := []) (y := List.replicate len ty.zero) (news := (madeCells z.cells (len * ty.size)).toList) (m := len) (v0 := .tup []) (u0 := .tuple #[]) R hn hr hle hs (provIn_nil _) (laid_zero f5 len)
          (by rw [Array.length_toList, size_madeCells, List.length_replicate]) (fun v hv => made_one f5 f6 v hv) (by simp) (Nat.le_refl _) tupE o.dst
        simp only [List.append_nil] at r2 r4
        refine ⟨pl, w', _, .inl (run_builtin ho hc ?_), r2, r3, r4⟩
        rw [eargs]
        have hz : (zeroValue e').run P w = .ok z w := by simp [zeroValue, typeInfo, f1, f4, go_sem]
        obtain ⟨A, cc, hu, _⟩ := hs
        by_cases h0 : len = 0
        · have hw := r0 h0
          subst hw
          subst h0
          rw [hu]
          cases A <;> simp [builtin, Builtin.clear_, ht1, run_underlying q1, Result.andThen, go_sem]
        · obtain ⟨ad, ⟨c', hu'⟩, hst⟩ := r1 (by omega)
          rw [hu'] 
          obtain ⟨n', rfl⟩ : ∃ n', len = n' + 1 := ⟨len - 1, by omega⟩
          have hzz : Builtin.zeroCells z.cells (n' + 1) = madeCells z.cells ((n' + 1) * ty.size) := by rw [← f6]; rfl
          rw [← hzz] at hst
          have hcl : (Builtin.clear_ c.argTypes o.type #[.slice (some ad) (n' + 1) c']).run P w = .ok (.tuple #[]) w' := by
            have h0 : (#[Value.slice (some ad) (n' + 1) c'] : Array Value)[0]? = some (.slice (some ad) (n' + 1) c') := rfl
            unfold Builtin.clear_
            simp only [ht1, h0, Sem.run_bind, run_underlying q1, Result.andThen, hz, hst, Sem.run_pure]
          simp [builtin, hcl]
      split at h
      · obtain rfl := Option.some.inj h
        have hu : u1 = .slice none 0 0 := g1
        refine Still.goes R hn ⟨rfl, _, rfl, trivial, .tuple #[], .inl (run_builtin ho hc ?_), fun _ => ⟨#[], [], [], rfl, rfl, rfl⟩⟩
        rw [eargs, hu]
        simp [builtin, Builtin.clear_, ht1, run_underlying q1, Result.andThen, go_sem]
      · rename_i r
        split at h
        · rename_i n p t' l hr
          split at h
          · rename_i hty
            subst hty
            obtain rfl := Option.some.inj h
            refine go (off := 0) (len := l.length) hr (by omega) (g1.2 _ _ _ _ hr) ?_
            simp [splice]
          · cases h
        · cases h
      · rename_i r off len
        split at h
        · rename_i n p t' l hr
          split at h
          · rename_i hty
            subst hty
            obtain rfl := Option.some.inj h
            obtain ⟨h1, h2⟩ := g1.2 _ _ _ _ hr
            exact go hr h1 h2 rfl
          · cases h
        · cases h
      · cases h
    · cases h
  · cases h
end
end Go.Proofs.Ytecnlienmpdlaaa.PM
