import Derived.Test.YtecnlienmpdlaaaGreatPmT
import Derived.Maps.RangeRun
import Derived.MapKept
set_option linter.unusedSimpArgs false
set_option linter.unusedVariables false
namespace Go.Proofs.YtecnlienmpdlaaaGreat.PM
open Go
section
variable {P : Program} {B nt : Nat} {G : Nat → Prop} {pl pl' : Pl} {σ : St} {a : Act} {w w' : World} {T : TT}
theorem Q1n (b : Nat) : ∀ (vs : List Value) (o : Nat) (w : World) (arr : Array Value) (Te : TypeId) (fr : Nat × Nat), w.heap[b]? = some (Obj.cells arr Te fr) → o + vs.length ≤ arr.size →
  ∃ arr' : Array Value, (w.setCells b o vs).heap[b]? = some (Obj.cells arr' Te fr) ∧ arr'.toList = arr.toList.take o ++ vs ++ arr.toList.drop (o + vs.length)
 | [], o, w, arr, Te, fr, h, hl => ⟨arr, h, by simp⟩
 | v :: vs, o, w, arr, Te, fr, h, hl => by
   simp only [List.length_cons] at hl
   have h1 : (w.setCell ⟨b, o, none⟩ v).heap[b]? = some (Obj.cells (arr.setIfInBounds o v) Te fr) := by
    simp [World.setCell, Array.getElem?_modify, h]
   obtain ⟨arr', g1, g2⟩ := Q1n b vs (o + 1) _ _ Te fr h1 (by simp; omega)
   refine ⟨arr', g1, ?_⟩
   rw [g2]
   simp only [Array.toList_setIfInBounds, List.length_cons]
   have e1 : (arr.toList.set o v).take (o + 1) = arr.toList.take o ++ [v] := by
    rw [List.take_add_one]
    simp [List.take_set_of_le, show o < arr.size by omega]
   have e2 : (arr.toList.set o v).drop (o + 1 + vs.length) = arr.toList.drop (o + (vs.length + 1)) := by
    rw [List.drop_set_of_lt (by omega)]
    congr 1; omega
   rw [e1, e2]
   simp
theorem Qh (b : Nat) : ∀ (vs : List Value) (o : Nat) (w : World) (c : Nat), c ≠ b → (w.setCells b o vs).heap[c]? = w.heap[c]?
 | [], o, w, c, h => rfl
 | v :: vs, o, w, c, h => by
   rw [World.setCells, Qh b vs (o + 1) _ c h]
   exact RowKit.Below.heap_setCell _ _ _ _ h
theorem Q18 (b : Nat) : ∀ (vs : List Value) (o : Nat) (w : World), (w.setCells b o vs).heap.size = w.heap.size
 | [], o, w => rfl
 | v :: vs, o, w => by rw [World.setCells, Q18 b vs (o + 1)]; simp
theorem Q1c (b : Nat) : ∀ (vs : List Value) (o : Nat) (w : World), Quiet w (w.setCells b o vs)
 | [], o, w => Quiet.refl w
 | v :: vs, o, w => by
   rw [World.setCells]
   exact Quiet.trans (b := w.setCell ⟨b, o, none⟩ v) ⟨rfl, rfl, rfl⟩ (Q1c b vs (o + 1) _)
theorem Q6o {b o : Nat} {vs : List Value} {arr : Array Value} {Te : TypeId} {fr : Nat × Nat} (h : w.heap[b]? = some (Obj.cells arr Te fr)) (hl : o + vs.length ≤ arr.size) (hf : Q7n fr arr.size) (h1 : ∀ v ∈ vs, v.oneCell' = true) :
  (storeCells ⟨b, o, none⟩ vs).run P w = .ok () (w.setCells b o vs) := by
 have := run_storeCells_cells (P := P) b o vs 0 w (fun j hj => by
   simp only [World.cell?, h, Nat.add_zero]
   simp; omega) (fun j hj => by
   simp only [World.frozen?, h, Nat.add_zero]
   rcases hf with e | e
   ·simp; intro q; omega
   ·simp; intro q; omega) h1
 simpa using this
structure Base (w : World) (pl : Pl) (rows rows1 : Rows) (ty : Ty) (A : Option Addr) (n c : Nat) (l : List ty.D) (p : Prov) : Prop where
 len : l.length = n
 le : n ≤ c
 prov : ProvIn rows p
 wane : Wane rows rows1
 row : 0 < c → ∃ (r b o off : Nat) (arr : Array Value) (Te : TypeId) (fr : Nat × Nat) (s0 : RowS) (n0 : Nat), rows r = some s0 ∧ s0.live ∧ rows1 r = some ⟨n0, .gone⟩ ∧ pl.loc r = some (b, o) ∧
  A = some ⟨b, o + off * ty.size, none⟩ ∧ w.heap[b]? = some (Obj.cells arr Te fr) ∧ (o + (off + c) * ty.size ≤ arr.size ∧ c ≤ 9223372036854775807) ∧ Q2y ty fr arr.size
 laid : ∃ olds : List Value, olds.length = n * ty.size ∧ Laid w (Safe w pl rows p) ty l olds ∧ (∀ ad, A = some ad → ∀ (j : Nat) (v : Value), olds[j]? = some v → w.cell? (ad.add j) = some v) ∧ (A = none → olds = [])
theorem Q72 (R : Rel B G pl σ a w) (hn : nt ≤ a.tmps.size) (hZ : ∀ b, pl.Z b → b < B) (hB : B ≤ w.heap.size) {key : Nat} (hk : σ.rows key = none) (h0 : key ≠ 0) {rows1 : Rows}
  {t t2 e tyo : Nat} {f0 : TypeInfo} {z x : Value} {ts : Array Nat} {ty : Ty} (ht1 : ts[0]? = some t) (ht2 : ts[1]? = some t2) (ht : P.underlying t = some (.slice e)) (hi : P.info? e = some f0) (hsz : f0.size = ty.size) (hz : f0.zero = some z) (hzs : z.cells.size = ty.size)
  {A : Option Addr} {n c : Nat} {l y : List ty.D} {p p2 : Prov} {news : List Value} (hb : Base w pl σ.rows rows1 ty A n c l p) (hA : Adds P w t2 x ty.size f0 z y.length news)
  (hp2 : ProvIn σ.rows p2) (hy : Laid w (Safe w pl σ.rows p2) ty y news) (hnl : news.length = y.length * ty.size) (hn1 : ∀ v ∈ news, v.oneCell' = true)
  (hbytes : (n + y.length) * f0.bytes ≤ 140737488355328) (h63 : n + y.length ≤ 140737488355328) (dst : Option Nat) :
  ∃ pl' w' u, (Builtin.append_ ts tyo #[.slice A n c, x]).run P w = .ok u w' ∧ Step w pl σ.rows w' pl' (upd rows1 key (some ⟨0, .arr (p ++ p2) ty (l ++ y)⟩)) ∧ Quiet w w' ∧
    Rel B G pl' ⟨putDst nt σ.env dst (some (.rw key)), upd rows1 key (some ⟨0, .arr (p ++ p2) ty (l ++ y)⟩)⟩ (a.put dst u) w' := by
 obtain ⟨olds, o1, o2, o3, o4⟩ := hb.laid
 have hlaid : Laid w (Safe w pl σ.rows (p ++ p2)) ty (l ++ y) (olds ++ news) :=
  Laid.append (o2.mono fun b hb => Safe.mono (fun q hq => List.mem_append_left _ hq) hb) (by rw [o1, hb.len]) (hy.mono fun b hb => Safe.mono (fun q hq => List.mem_append_right _ hq) hb)
 have hprov := ProvIn.append hb.prov hp2
 by_cases hfit : n + y.length ≤ c
 ·by_cases hc : 0 < c
  ·obtain ⟨r, b, o, off, arr, Te, fr, s0, n0, r1, r2, r3, r4, rfl, r6, r7, r8⟩ := hb.row hc
   have hmul : (off + c) * ty.size = off * ty.size + c * ty.size := Nat.add_mul _ _ _
   have hmul2 : (n + y.length) * ty.size = n * ty.size + y.length * ty.size := Nat.add_mul _ _ _
   have hmul3 : (n + y.length) * ty.size ≤ c * ty.size := Nat.mul_le_mul_right _ hfit
   have hroom : o + off * ty.size + n * ty.size + news.length ≤ arr.size := by omega
   obtain ⟨arr', a1, a2⟩ := Q1n b news (o + off * ty.size + n * ty.size) w arr Te fr r6 hroom
   have asz : arr'.size = arr.size := by
    have := congrArg List.length a2
    simp at this
    omega
   have hst := Q6o (P := P) r6 hroom r8.un hn1
   have hbsz : b < w.heap.size := (R.own r s0 b o r1 r2 (.inl r4)).1
   have hrun := Qyv (P := P) (w := w) (ty := tyo) ht1 ht2 ht hi hsz hz hzs hA hfit (some ⟨b, o + off * ty.size, none⟩) (w.setCells b (o + off * ty.size + n * ty.size) news)
    (fun ad had => by cases had; rw [Q1a]; exact hst) (fun h => by cases h)
   have hcell : ∀ (j : Nat) (v : Value), (olds ++ news)[j]? = some v → arr'[o + off * ty.size + j]? = some v := by
    intro j v hj
    rw [← Array.getElem?_toList, a2, Qv _ _ _ (by simpa using hroom)]
    by_cases h : j < olds.length
    ·rw [List.getElem?_append_left h] at hj
     rw [if_neg (by omega)]
     have := o3 _ rfl j v hj
     rw [Q1a] at this
     simp only [World.cell?, r6] at this
     simpa using this
    ·rw [List.getElem?_append_right (by omega)] at hj
     obtain ⟨q, _⟩ := List.getElem?_eq_some_iff.1 hj
     rw [if_pos ⟨by omega, by omega⟩, show o + off * ty.size + j - (o + off * ty.size + n * ty.size) = j - olds.length by omega]
     exact hj
   obtain ⟨S, Q⟩ := R.grow (w' := w.setCells b (o + off * ty.size + n * ty.size) news) (rows1 := rows1) (s := ⟨0, .arr (p ++ p2) ty (l ++ y)⟩) (kl := some (b, o + off * ty.size)) (dst := dst) (ov := some (.rw key))
    (u := .slice (some ⟨b, o + off * ty.size, none⟩) (n + y.length) c) hn hZ hB hk h0 hb.wane (by rw [Q18]; exact Nat.le_refl _)
    (fun d hd => by
     by_cases e : d = b
     ·subst e; exact .inr ⟨r, s0, n0, o, r1, r2, r3, r4⟩
     ·exact .inl (Qh b _ _ w d e))
    (fun d arr2 T2 fr2 h => by
     by_cases e : d = b
     ·subst e
      rw [r6] at h
      cases h
      exact ⟨arr', _, _, a1, asz⟩
     ·exact ⟨arr2, T2, fr2, (Qh b _ _ w d e).trans h, rfl⟩)
    (fun b' o' h => by
     cases h
     exact ⟨by rw [Q18]; exact hbsz, .inr ⟨r, s0, n0, o, r1, r2, r3, r4⟩⟩)
    (fun S => by
     refine ⟨S.provIn hprov, ?_⟩
     rw [Q1j, if_pos rfl]
     refine ⟨arr', Te, fr, a1, ?_, asz ▸ r8, fun hok i x hx => ?_⟩
     ·rw [List.length_append, hb.len, asz]; omega
     ·obtain ⟨es, g1, g2⟩ := hlaid i x hx
      refine ⟨es, S.rd hprov hok g1, fun j v hj => ?_⟩
      rw [Q1a]
      simp only [World.cell?, a1]
      have := hcell _ v (g2 j v hj)
      simpa [Nat.add_assoc] using this)
    (fun S => by
     refine ⟨fun v e => ?_, fun e => by cases e⟩
     obtain rfl := oi e
     refine ⟨by simp [Men, Q8], fun _ => ⟨⟨rfl, fun n p kt vt bx l tk hr => (by rw [Q8, if_pos rfl] at hr; cases hr)⟩, fun n' p' t' l' hr => ?_⟩⟩
     rw [Q8, if_pos rfl] at hr
     cases hr
     refine ⟨_, c, by rw [List.length_append, hb.len], by rw [List.length_append, hb.len]; exact hfit, fun _ => ⟨b, o + off * ty.size, by rw [Q1j, if_pos rfl], by simp, arr', Te, fr, a1, ?_⟩⟩
     rw [asz, Nat.zero_add]; omega)
   exact ⟨_, _, _, hrun, S, Q1c b _ _ w, Q⟩
  ·have hc0 : c = 0 := by omega
   have hle := hb.le
   have hn0 : n = 0 := by omega
   have hy0 : y.length = 0 := by omega
   have hy' : y = [] := List.length_eq_zero_iff.1 hy0
   have hl' : l = [] := List.length_eq_zero_iff.1 (by rw [hb.len]; exact hn0)
   have hnews : news = [] := List.length_eq_zero_iff.1 (by rw [hnl, hy0, Nat.zero_mul])
   subst hnews; subst hy'; subst hl'; subst hc0; subst hn0
   have hrun := Qyv (P := P) (w := w) (ty := tyo) ht1 ht2 ht hi hsz hz hzs hA hfit A w (fun ad had => rfl) (fun h => rfl)
   obtain ⟨S, Q⟩ := R.grow (w' := w) (rows1 := rows1) (s := ⟨0, .arr (p ++ p2) ty ([] ++ [])⟩) (kl := none) (dst := dst) (ov := some (.rw key))
    (u := .slice A 0 0) hn hZ hB hk h0 hb.wane (Nat.le_refl _) (fun d hd => .inl rfl) (fun d arr2 T2 fr2 h => ⟨arr2, T2, fr2, h, rfl⟩) (fun b' o' h => by cases h)
    (fun S => by
     refine ⟨S.provIn hprov, ?_⟩
     rw [Q1j, if_pos rfl]
     rfl)
    (fun S => by
     refine ⟨fun v e => ?_, fun e => by cases e⟩
     obtain rfl := oi e
     refine ⟨by simp [Men, Q8], fun _ => ⟨⟨rfl, fun n p kt vt bx l tk hr => (by rw [Q8, if_pos rfl] at hr; cases hr)⟩, fun n' p' t' l' hr => ?_⟩⟩
     rw [Q8, if_pos rfl] at hr
     cases hr
     exact ⟨_, 0, rfl, Nat.le_refl _, fun h => absurd h (Nat.lt_irrefl _)⟩)
   exact ⟨_, _, _, hrun, S, Quiet.refl w, Q⟩
 ·have hlt : c < n + y.length := by omega
  have hfc : (Builtin.firstCells ty.size n (.slice A n c)).run P w.drew = .ok olds.toArray w.drew := by
   cases A with
   | none => rw [o4 rfl]; simp [Builtin.firstCells]
   | some ad =>
     have := run_loadCells_list (P := P) w.drew ad olds (fun j v hj => by simpa using o3 ad rfl j v hj)
     rw [o1] at this
     simpa [Builtin.firstCells] using this
  have hrun := Q15s (P := P) (w := w) (ty := tyo) ht1 ht2 ht hi hsz hz hzs hA hlt hbytes h63 A hfc
  have hge := grownCap_ge w (n + y.length) c e
  obtain ⟨pl', S, Q⟩ := Qix (w' := w.drew.alloc (.cells (olds.toArray ++ news.toArray ++ Builtin.zeroCells z.cells (grownCap w (n + y.length) c e - (n + y.length))) e)) (ty := ty) (l := l ++ y) (p := p ++ p2) (cap := grownCap w (n + y.length) c e)
   R hn hZ hB hk h0 hb.wane hprov (by simp) (fun b hb => Q6i w.drew _ b hb) (Q8z w.drew _) (.inl rfl)
   (fun i x hx => by
    obtain ⟨es, g1, g2⟩ := hlaid.more (a2 := (Builtin.zeroCells z.cells (grownCap w (n + y.length) c e - (n + y.length))).toList) i x hx
    exact ⟨es, g1, fun j v hj => by rw [← Array.getElem?_toList]; simpa using g2 j v hj⟩)
   (by rw [List.length_append, hb.len]; exact hge)
   (by
    simp only [Array.size_append, List.size_toArray, size_zeroCells, hzs, o1, hnl, ← Nat.add_mul]
    exact Nat.mul_le_mul_right _ (by omega)) (by have := grownCap_le_maxLen w (n + y.length) c e (by simp only [maxLen]; omega); simp only [maxLen] at this; omega) dst
  exact ⟨pl', _, _, hrun, S, ⟨rfl, rfl, rfl⟩, by rw [List.length_append, hb.len] at Q; exact Q⟩
theorem Q1ai {w : World} {S S' : Nat → Prop} : ∀ {t : Ty} {x : t.D} {cs : List Value}, t.flat = true → RD w S t x cs → RD w S' t x cs := by
 intro t
 induction t with
 | int k => intro x cs _ h; exact h
 | bool => intro x cs _ h; exact h
 | str => intro x cs _ h; exact h
 | unit => intro x cs _ h; exact h
 | slice t _ => intro x cs hf h; cases hf
 | prod a b iha ihb =>
   intro x cs hf h
   simp only [Ty.flat, Bool.and_eq_true] at hf
   obtain ⟨c1, c2, h0, h1, h2⟩ := h
   exact ⟨c1, c2, h0, iha hf.1 h1, ihb hf.2 h2⟩
theorem Qjm (R : Rel B G pl σ a w) {ty : Ty} {x : PV} {u z : Value} {p2 : Prov} {y : List ty.D} {t2 : Nat} {f0 : TypeInfo} {d : TypeDesc} (hm : Men σ.rows x) (hk : okPV σ.rows x = true) (hv : VR w pl σ.rows x u)
  (hd : P.underlying t2 = some d) (hd' : ∀ k, d ≠ .int k) (h : added0 σ.rows ty x = some (p2, y)) :
  ∃ news, Adds P w t2 u ty.size f0 z y.length news ∧ ProvIn σ.rows p2 ∧ PM.okProv σ.rows p2 = true ∧ Laid w (Safe w pl σ.rows p2) ty y news ∧ news.length = y.length * ty.size ∧ (∀ v ∈ news, v.oneCell' = true) ∧
    (Builtin.lenOf u).run P w = .ok y.length w ∧ ∀ k, k ≤ y.length → (Builtin.firstCells ty.size k u).run P w = .ok (news.take (k * ty.size)).toArray w := by
 unfold added0 at h
 split at h
 ·rename_i hx
  simp only [Option.some.injEq, Prod.mk.injEq] at h
  obtain ⟨rfl, rfl⟩ := h
  obtain ⟨_, _, g⟩ := Q19 R hm hk hv hx
  have g' : u = .slice none 0 0 := g
  subst g'
  exact ⟨[], ⟨.inl ⟨d, hd, hd', by simp [Builtin.lenOf], fun w' _ => by simp [Builtin.firstCells]⟩⟩, Qa _, rfl, Laid.nil _ _ _ _, by simp, (fun v h => by cases h), by simp [Builtin.lenOf], fun k hk => by simp [Builtin.firstCells]⟩
 ·rename_i p t x' hx
  obtain ⟨m1, m2, g⟩ := Q19 R hm hk hv hx
  split at h
  ·rename_i ht
   subst ht
   simp only [Option.some.injEq, Prod.mk.injEq] at h
   obtain ⟨rfl, rfl⟩ := h
   obtain ⟨A, c, rfl, hc, hA⟩ := Qox g
   cases hl : (x' : List ty.D) with
   | nil =>
     refine ⟨[], ⟨.inl ⟨d, hd, hd', ?_, fun w' _ => ?_⟩⟩, m1, m2, Laid.nil _ _ _ _, by simp, (fun v h => by cases h), by simp [Builtin.lenOf], fun k hk => ?_⟩
     ·simp [Builtin.lenOf]
     rotate_left
     ·have hk0 : k = 0 := Nat.le_zero.1 hk
      subst hk0
      cases A with
      | none => simp [Builtin.firstCells]
      | some ad =>
        have := run_loadCells_list (P := P) w ad [] (fun j v hj => by simp at hj)
        simpa [Builtin.firstCells] using this
     ·cases A with
      | none => simp [Builtin.firstCells]
      | some ad =>
        have := run_loadCells_list (P := P) w' ad [] (fun j v hj => by simp at hj)
        simpa [Builtin.firstCells] using this
   | cons x0 l0 =>
     obtain ⟨ad, rfl, hs, hcs⟩ := hA (by rw [hl]; simp)
     obtain ⟨news, n1, n2, n3, n4⟩ := Qfe hcs
     rw [← hl]
     refine ⟨news, ⟨.inl ⟨d, hd, hd', by simp [Builtin.lenOf], fun w' hw => ?_⟩⟩, m1, m2, n2, n1, n4, by simp [Builtin.lenOf], fun k hk => ?_⟩
     rotate_left
     ·have := run_loadCells_list (P := P) w ad (news.take (k * ty.size)) (fun j v hj => by
       rw [List.getElem?_take] at hj
       split at hj
       ·exact n3 j v hj
       ·cases hj)
      have hlen : (news.take (k * ty.size)).length = k * ty.size := by
       rw [List.length_take, n1]
       exact Nat.min_eq_left (Nat.mul_le_mul_right _ hk)
      rw [hlen] at this
      simpa [Builtin.firstCells] using this
     have := run_loadCells_list (P := P) w' ad news (fun j v hj => by rw [hw]; exact n3 j v hj)
     rw [n1] at this
     simpa [Builtin.firstCells] using this
  ·split at h
   ·simp only [Option.some.injEq, Prod.mk.injEq] at h
    obtain ⟨rfl, rfl⟩ := h
    rename_i s hne
    have hs := isStr g
    subst hs
    refine ⟨(bytesOf s).map (Value.int .u8), ⟨.inl ⟨d, hd, hd', by rw [Q4f]; simp [Builtin.lenOf], fun w' hw => ?_⟩⟩, Qa _, rfl, ?_, by simp [Ty.size], ?_, by rw [Q4f]; simp [Builtin.lenOf], fun k hk => ?_⟩
    ·rw [Q4f]
     have hex : s.extract 0 s.size = s := by simp
     simp only [Builtin.firstCells, hex, Sem.run_pure]
     congr 1
     apply Array.ext'
     simp [bytesOf]
    ·intro i x hx
     exact ⟨[.int .u8 x], rfl, fun j v hj => by
      cases j with
      | succ j => simp at hj
      | zero => simp at hj; subst hj; simp [Ty.size, hx]⟩
    ·intro v hv
     obtain ⟨q, _, rfl⟩ := List.mem_map.1 hv
     rfl
    ·simp only [Builtin.firstCells, Sem.run_pure]
     congr 1
     apply Array.ext'
     simp [bytesOf, Ty.size]
     rfl
   ·cases h
 ·cases h
theorem Qba (R : Rel B G pl σ a w) {ty : Ty} {x : PV} {u z : Value} {p2 : Prov} {y : List ty.D} {t2 : Nat} {f0 : TypeInfo} {d : TypeDesc} (hm : Men σ.rows x) (hk : okPV σ.rows x = true) (hv : VR w pl σ.rows x u)
  (hd : P.underlying t2 = some d) (hd' : ∀ k, d ≠ .int k) (h : added σ.rows ty x = some (p2, y)) :
  ∃ news, Adds P w t2 u ty.size f0 z y.length news ∧ ProvIn σ.rows p2 ∧ PM.okProv σ.rows p2 = true ∧ Laid w (Safe w pl σ.rows p2) ty y news ∧ news.length = y.length * ty.size ∧ (∀ v ∈ news, v.oneCell' = true) ∧
    (Builtin.lenOf u).run P w = .ok y.length w ∧ ∀ k, k ≤ y.length → (Builtin.firstCells ty.size k u).run P w = .ok (news.take (k * ty.size)).toArray w := by
 unfold added at h
 split at h
 ·rename_i p y' h0
  simp only [Option.some.injEq, Prod.mk.injEq] at h
  obtain ⟨rfl, rfl⟩ := h
  obtain ⟨news, a1, a2, a3, a4, a5, a6, a7, a8⟩ := Qjm (f0 := f0) (z := z) R hm hk hv hd hd' h0
  unfold flatP
  cases hf : ty.flat with
  | false => exact ⟨news, a1, a2, a3, a4, a5, a6, a7, a8⟩
  | true =>
    refine ⟨news, a1, Qa _, rfl, ?_, a5, a6, a7, a8⟩
    intro i x hx
    obtain ⟨es, e1, e2⟩ := a4 i x hx
    exact ⟨es, Q1ai hf e1, e2⟩
 ·cases h
theorem Q15u (w : World) (pl : Pl) (rows : Rows) (ty : Ty) : Base w pl rows rows ty none 0 0 [] [] :=
 ⟨rfl, Nat.le_refl _, Qa _, Wane.refl _, fun h => absurd h (Nat.lt_irrefl _), [], by simp, Laid.nil _ _ _ _, (fun _ h => by cases h), fun _ => rfl⟩
theorem Qpo (R : Rel B G pl σ a w) {r n0 : Nat} {p : Prov} {ty : Ty} {l : List ty.D} (hr : σ.rows r = some ⟨n0, .arr p ty l⟩) (hp : PM.okProv σ.rows p = true) {off len : Nat} (hle : off + len ≤ l.length) {u : Value} (hs : Q29 w pl r ty.size off len u) :
  ∃ A c, u = .slice A len c ∧ Base w pl σ.rows (upd σ.rows r (some ⟨n0, .gone⟩)) ty A len c ((l.drop off).take len) p := by
 obtain ⟨A, c, rfl, hc, hs⟩ := hs
 obtain ⟨g1, g2⟩ := R.rows _ _ hr
 have hlen : ((l.drop off).take len).length = len := by simp; omega
 refine ⟨A, c, rfl, hlen, hc, g1, Wane.one hr, fun h => ?_, ?_⟩
 ·obtain ⟨b, o, e1, e2, arr, Te, fr, e3, e4⟩ := hs h
  rw [e1] at g2
  obtain ⟨arr2, T2, fr2, f1, f2, f3, f4⟩ := g2
  rw [e3] at f1
  cases f1
  exact ⟨r, b, o, off, arr, Te, fr, _, n0, hr, by simp [RowS.live], by rw [Q8, if_pos rfl], e1, e2, e3, e4, f3⟩
 ·by_cases h0 : len = 0
  ·subst h0
   refine ⟨[], by simp, by simp; exact Laid.nil _ _ _ _, fun _ _ j v h => by simp at h, fun _ => rfl⟩
  ·obtain ⟨b, o, e1, rfl, arr, Te, fr, e3, e4⟩ := hs (by omega)
   rw [e1] at g2
   obtain ⟨arr2, T2, fr2, f1, f2, f3, f4⟩ := g2
   obtain ⟨olds, n1, n2, n3, n4⟩ := Qfe (w := w) (S := Safe w pl σ.rows p) (ad := ⟨b, o + off * ty.size, none⟩) (l := (l.drop off).take len) (fun i x hx => by
    simp only [List.getElem?_take, List.getElem?_drop] at hx
    split at hx
    ·obtain ⟨es, q1, q2⟩ := f4 hp _ x hx
     refine ⟨es, q1, ?_⟩
     rw [Q1a, Nat.add_assoc, ← Nat.add_mul]
     exact q2
    ·cases hx)
   exact ⟨olds, by rw [n1, hlen], n2, fun ad had => by cases had; exact n3, fun h => by cases h⟩
theorem Q8d {n m b : Nat} (h : n + m ≤ LIM b) : (n + m) * b ≤ 140737488355328 ∧ n + m ≤ 140737488355328 := by
 have hb : LIM b * b ≤ 140737488355328 := Nat.div_mul_le_self _ _
 have h3 : LIM b ≤ 140737488355328 := Nat.div_le_self _ _
 exact ⟨Nat.le_trans (Nat.mul_le_mul_right _ h) hb, Nat.le_trans h h3⟩
theorem Q6v (R : Rel B G pl σ a w) (hn : nt ≤ a.tmps.size) (hZ : ∀ b, pl.Z b → b < B) (hB : B ≤ w.heap.size) {key : Nat} (hk : σ.rows key = none) (h0 : key ≠ 0)
  {t t2 e tyo : Nat} {f0 : TypeInfo} {z x : Value} {ts : Array Nat} {ty : Ty} {bytes : Nat} (ht1 : ts[0]? = some t) (ht2 : ts[1]? = some t2) (ht : P.underlying t = some (.slice e)) (hi : P.info? e = some f0) (hsz : f0.size = ty.size) (hz : f0.zero = some z) (hzs : z.cells.size = ty.size) (hby : f0.bytes = bytes)
  {base : PV} {u : Value} {p2 : Prov} {y : List ty.D} {news : List Value} {out : Out} (hv : VR w pl σ.rows base u) (h : Q38 σ.rows key bytes ty base p2 y = some out) (hok : out.ok = true)
  (hA : Adds P w t2 x ty.size f0 z y.length news)
  (hp2 : ProvIn σ.rows p2) (hy : Laid w (Safe w pl σ.rows p2) ty y news) (hnl : news.length = y.length * ty.size) (hn1 : ∀ v ∈ news, v.oneCell' = true) (dst : Option Nat) :
  ∃ pl' w' u', (Builtin.append_ ts tyo #[u, x]).run P w = .ok u' w' ∧ Step w pl σ.rows w' pl' (updAll σ.rows out.upd) ∧ Quiet w w' ∧
    Rel B G pl' ⟨putDst nt σ.env dst out.v, updAll σ.rows out.upd⟩ (a.put dst u') w' := by
 subst hby
 unfold Q38 at h
 split at h
 ·obtain rfl := oi h
  have hv' : u = .slice none 0 0 := hv
  subst hv'
  have hok' : y.length ≤ LIM f0.bytes := of_decide_eq_true hok
  obtain ⟨q1, q2⟩ := Q8d (n := 0) (m := y.length) (b := f0.bytes) (by rw [Nat.zero_add]; exact hok')
  exact Q72 R hn hZ hB hk h0 ht1 ht2 ht hi hsz hz hzs (Q15u w pl σ.rows ty) hA hp2 hy hnl hn1 q1 q2 dst
 ·split at h
  ·rename_i n0 p t' l hr
   split at h
   ·rename_i hty
    subst hty
    split at h
    ·rename_i hp
     obtain rfl := oi h
     obtain ⟨A, c, rfl, hb⟩ := Qpo R hr hp (off := 0) (len := l.length) (by omega) (hv.2 _ _ _ _ hr)
     rw [List.drop_zero, List.take_length] at hb
     obtain ⟨q1, q2⟩ := Q8d (of_decide_eq_true hok)
     exact Q72 R hn hZ hB hk h0 ht1 ht2 ht hi hsz hz hzs hb hA hp2 hy hnl hn1 q1 q2 dst
    ·cases h
   ·cases h
  ·cases h
 ·split at h
  ·rename_i off len _ n0 p t' l hr
   split at h
   ·rename_i hty
    subst hty
    split at h
    ·rename_i hp
     obtain rfl := oi h
     obtain ⟨hle, hs⟩ := hv.2 _ _ _ _ hr
     obtain ⟨A, c, rfl, hb⟩ := Qpo R hr hp hle hs
     have hlen : ((l.drop off).take len).length = len := hb.len
     obtain ⟨q1, q2⟩ := Q8d (of_decide_eq_true hok)
     rw [hlen] at q1 q2
     exact Q72 R hn hZ hB hk h0 ht1 ht2 ht hi hsz hz hzs hb hA hp2 hy hnl hn1 q1 q2 dst
    ·cases h
   ·cases h
  ·cases h
 ·cases h
theorem Qt9 {rows : Rows} {key bytes : Nat} {ty : Ty} {base : PV} {p2 : Prov} {y : List ty.D} {out : Out} (h : Q38 rows key bytes ty base p2 y = some out) (hok : out.ok = true) : y.length ≤ LIM bytes := by
 unfold Q38 at h
 split at h
 ·obtain rfl := oi h
  exact of_decide_eq_true hok
 ·split at h
  ·split at h
   ·split at h
    ·obtain rfl := oi h
     exact Nat.le_trans (Nat.le_add_left _ _) (of_decide_eq_true hok)
    ·cases h
   ·cases h
  ·cases h
 ·split at h
  ·split at h
   ·split at h
    ·obtain rfl := oi h
     exact Nat.le_trans (Nat.le_add_left _ _) (of_decide_eq_true hok)
    ·cases h
   ·cases h
  ·cases h
 ·cases h
theorem Q148 {o : Oper} {c : Call} {out : Out} {key : Nat} (hT : TTok P T) (R : Rel B G pl σ a w) (hn : nt ≤ a.tmps.size) (hZ : ∀ b, pl.Z b → b < B) (hB : B ≤ w.heap.size) (hk : σ.rows key = none) (h0 : key ≠ 0) (ho : o.op = .call c) (hc : c.callee = .builtin .append)
  (h : opOut T key o.op (look σ) σ.rows = some out) (hok : out.ok = true) : Goes P B nt G pl σ a w o out := by
 rw [ho] at h
 simp only [opOut, hc] at h
 split at h
 ·rename_i vs hvs
  unfold Q1w at h
  split at h
  all_goals (first | (cases ‹Builtin.append = _›; done) | (cases h; done) | skip)
  rename_i t t2 ts s x _ hts
  have ht1 : c.argTypes[0]? = some t := by rw [← Array.getElem?_toList, hts]; rfl
  have ht2 : c.argTypes[1]? = some t2 := by rw [← Array.getElem?_toList, hts]; rfl
  obtain ⟨u1, u2, e, g1, g2, m1, m2, k1, k2⟩ := Qji R hvs
  split at h
  ·rename_i e' i ty he
   obtain ⟨q1, q2, q3, q4⟩ := Q1r hT he
   obtain ⟨f0, z, f1, f2, f3, f4, f5, f6⟩ := Q66 (hT _ _ q2) q3
   have fin : ∀ {pl' : Pl} {w' : World} {u : Value}, (Builtin.append_ c.argTypes o.type #[u1, u2]).run P w = .ok u w' → (execOp a.eval o).run P w = .ok (.value u) w' := by
    intro pl' w' u hr
    refine Q1v ho hc ?_
    rw [e]
    simp [builtin, hr]
   have plain : ∀ {d : TypeDesc} {p2 : Prov} {y : List ty.D}, P.underlying t2 = some d → (∀ k, d ≠ .int k) → added σ.rows ty x = some (p2, y) → Q38 σ.rows key i.bytes ty s p2 y = some out → Goes P B nt G pl σ a w o out := by
    intro d p2 y hd hd' ha hap
    obtain ⟨news, a1, a2, a3, a4, a5, a6, _, _⟩ := Qba (f0 := f0) (z := z) R m2 k2 g2 hd hd' ha
    obtain ⟨pl', w', u, r1, r2, r3, r4⟩ := Q6v (nt := nt) (tyo := o.type) R hn hZ hB hk h0 ht1 ht2 q1 f1 f2 f4 f6 f3 g1 hap hok a1 a2 a4 a5 a6 o.dst
    exact ⟨pl', w', u, .inl (fin (pl' := pl') r1), r2, r3, r4⟩
   split at h
   ·rename_i k z1 z2 z3 z4 htt
    split at h
    ·rename_i p n
     split at h
     ·rename_i o' hap
      obtain rfl := oi h
      simp only [Bool.and_eq_true, decide_eq_true_eq] at hok
      obtain ⟨c1, c2⟩ := hok
      have hu2 := isInt g2
      obtain ⟨m, hm⟩ : ∃ m : Nat, (n : Int) = (m : Int) := ⟨Int.toNat n, (Int.toNat_of_nonneg c1).symm⟩
      replace hm : n = (m : Int) := hm
      subst hm
      have hap' : Q38 σ.rows key i.bytes ty s [] (List.replicate m ty.zero) = some o' := by
       rw [← hap]; simp
      have hlim := Qt9 hap' c2
      rw [List.length_replicate] at hlim
      obtain ⟨l1, l2⟩ := Q8d (n := 0) (m := m) (b := i.bytes) (by omega)
      rw [Nat.zero_add] at l1 l2
      obtain ⟨pl', w', u, r1, r2, r3, r4⟩ := Q6v (nt := nt) (tyo := o.type) (x := u2) (news := (madeCells z.cells (m * ty.size)).toList) R hn hZ hB hk h0 ht1 ht2 q1 f1 f2 f4 f6 f3 g1 hap' c2
       ⟨.inr ⟨k, (hT _ _ htt).int rfl, (by rw [List.length_replicate]; exact hu2), by rw [List.length_replicate, f3]; exact l1, by rw [List.length_replicate]; exact l2, by rw [List.length_replicate]⟩⟩ (Qa _) (Qck f5 m) (by simp [size_madeCells]) (fun v hv => by
        have hz1 := Q9o (Qy w (fun _ => True) ty)
        rw [← f5] at hz1
        simp only [madeCells, Array.toList_map, List.mem_map] at hv
        obtain ⟨k, hk, rfl⟩ := hv
        have hk' : k < m * ty.size := by simpa using hk
        have hpos : 0 < ty.size := by
         rcases Nat.eq_zero_or_pos ty.size with e | e
         ·rw [e] at hk'; omega
         ·exact e
        have hlt : k % z.cells.size < z.cells.size := Nat.mod_lt _ (by omega)
        rw [getElem!_pos z.cells _ hlt]
        exact hz1 _ (by simp)) o.dst
      exact ⟨pl', w', u, .inl (fin (pl' := pl') r1), r2, r3, r4⟩
     ·cases h
    ·cases h
   ·rename_i htt
    split at h
    ·rename_i ha
     exact plain ((hT _ _ htt).str rfl) (by simp) ha h
    ·cases h
   ·rename_i htt
    split at h
    ·rename_i ha
     exact plain ((hT _ _ htt).slice rfl) (by simp) ha h
    ·cases h
   ·cases h
  ·cases h
 ·cases h
theorem Qdt {α : Type} (l vs : List α) (off : Nat) : splice l off vs = l.take off ++ vs ++ l.drop (off + vs.length) := rfl
theorem Q101 (R : Rel B G pl σ a w) (hn : nt ≤ a.tmps.size)
  {t e tyo : Nat} {f0 : TypeInfo} {x : Value} {ts : Array Nat} {ty : Ty} (ht1 : ts[0]? = some t) (ht : P.underlying t = some (.slice e)) (hi : P.info? e = some f0) (hsz : f0.size = ty.size)
  {r n0 off len : Nat} {p p2 : Prov} {l y : List ty.D} {news : List Value} {u1 : Value} (hr : σ.rows r = some ⟨n0, .arr p ty l⟩) (hle : off + len ≤ l.length) (hs : Q29 w pl r ty.size off len u1)
  (hp2 : ProvIn σ.rows p2) (hy : Laid w (Safe w pl σ.rows p2) ty y news) (hnl : news.length = y.length * ty.size) (hn1 : ∀ v ∈ news, v.oneCell' = true)
  (hl : (Builtin.lenOf x).run P w = .ok y.length w) (hf : ∀ k, k ≤ y.length → (Builtin.firstCells ty.size k x).run P w = .ok (news.take (k * ty.size)).toArray w) (dst : Option Nat) :
  ∃ w', (Builtin.copy_ ts tyo #[u1, x]).run P w = .ok (.int .i64 ((min y.length len : Nat) : Int)) w' ∧
    Step w pl σ.rows w' pl (upd σ.rows r (some ⟨n0 + 1, .arr (p ++ p2) ty (splice l off (y.take (min y.length len)))⟩)) ∧ Quiet w w' ∧
    Rel B G pl ⟨putDst nt σ.env dst (some (mi .i64 ((min y.length len : Nat) : Int))), upd σ.rows r (some ⟨n0 + 1, .arr (p ++ p2) ty (splice l off (y.take (min y.length len)))⟩)⟩ (a.put dst (.int .i64 ((min y.length len : Nat) : Int))) w' := by
 obtain ⟨A, c, rfl, hc, hs⟩ := hs
 obtain ⟨g1, g2⟩ := R.rows _ _ hr
 generalize hm : min y.length len = m
 have hm1 : m ≤ y.length := by omega
 have hm2 : m ≤ len := by omega
 have hss : (sizeOf e).run P w = .ok ty.size w := by simp [sizeOf, typeInfo, hi, hsz]
 have hmin : Nat.min y.length len = m := hm
 have hsp : (splice l off (y.take m)).length = l.length := by
  simp only [splice, List.length_append, List.length_take, List.length_drop]; omega
 have hkin : Kin ⟨n0, .arr p ty l⟩ ⟨n0 + 1, .arr (p ++ p2) ty (splice l off (y.take m))⟩ := ⟨by simp, .inr (.inr (.inl ⟨p, p ++ p2, ty, l, _, rfl, rfl, hsp, by simp⟩))⟩
 have hcut : (news.take (m * ty.size)).length = m * ty.size := by
  rw [List.length_take, hnl]
  exact Nat.min_eq_left (Nat.mul_le_mul_right _ hm1)
 have hyl : Laid w (Safe w pl σ.rows p2) ty (y.take m) (news.take (m * ty.size)) := by
  intro i z hz
  rw [List.getElem?_take] at hz
  split at hz
  ·rename_i him
   obtain ⟨es, q1, q2⟩ := hy i z hz
   refine ⟨es, q1, fun j v hj => ?_⟩
   obtain ⟨hj1, _⟩ := List.getElem?_eq_some_iff.1 hj
   rw [List.getElem?_take, if_pos (Qfr him (by have := Q37 q1; omega))]
   exact q2 j v hj
  ·cases hz
 by_cases h0 : m = 0
 ·subst h0
  have hrun : (Builtin.copy_ ts tyo #[.slice A len c, x]).run P w = .ok (.int .i64 ((0 : Nat) : Int)) w := by
   have hf0 := hf 0 (Nat.zero_le _)
   cases A with
   | none => simp [Builtin.copy_, ht1, run_underlying ht, hl, hss, hmin, hf0, goInt]
   | some ad =>
     have : (storeCells ad []).run P w = .ok () w := rfl
     simp [Builtin.copy_, ht1, run_underlying ht, hl, hss, hmin, hf0, goInt, this]
  have hspl : splice l off (y.take 0) = l := by simp [splice]
  rw [hspl] at hkin ⊢
  obtain ⟨S, Q⟩ := R.write (w' := w) (s' := ⟨n0 + 1, .arr (p ++ p2) ty l⟩) (dst := dst) (ov := some (mi .i64 ((0 : Nat) : Int))) (u := .int .i64 ((0 : Nat) : Int)) hn hr (by simp [RowS.live]) hkin (by simp) rfl (fun _ _ => rfl) (fun b arr Te fr h => ⟨arr, Te, fr, h, rfl⟩)
   (fun S => by
    refine ⟨S.provIn (ProvIn.append g1 hp2), ?_⟩
    cases hloc : pl.loc r with
    | none => rw [hloc] at g2; exact g2
    | some bo =>
      obtain ⟨b, o⟩ := bo
      rw [hloc] at g2
      obtain ⟨arr, Te, fr, e1, e2, e3, e4⟩ := g2
      refine ⟨arr, Te, fr, e1, e2, e3, fun hok i z hz => ?_⟩
      obtain ⟨k1, k2⟩ := Q1m hok
      obtain ⟨es, q1, q2⟩ := e4 (S.okProv g1 k1) i z hz
      exact ⟨es, Q1z (fun x hx => List.mem_append_left _ hx) (S.rd g1 k1 q1), q2⟩)
   (fun S => ⟨fun v ev => by obtain rfl := oi ev; exact ⟨Q24 _ _ _, fun _ => rfl⟩, fun ev => by cases ev⟩)
  exact ⟨w, hrun, S, Quiet.refl w, Q⟩
 ·obtain ⟨b, o, e1, rfl, arr, Te, fr, e3, e4⟩ := hs (by omega)
  rw [e1] at g2
  obtain ⟨arr2, T2, fr2, f1, f2, f3, f4⟩ := g2
  rw [e3] at f1
  cases f1
  have hmul : (off + c) * ty.size = off * ty.size + c * ty.size := Nat.add_mul _ _ _
  have hmul3 : m * ty.size ≤ c * ty.size := Nat.mul_le_mul_right _ (by omega)
  have hroom : o + off * ty.size + (news.take (m * ty.size)).length ≤ arr.size := by rw [hcut]; omega
  obtain ⟨arr', a1, a2⟩ := Q1n b (news.take (m * ty.size)) (o + off * ty.size) w arr Te fr e3 hroom
  have asz : arr'.size = arr.size := by
   have := congrArg List.length a2
   simp only [List.length_append, List.length_take, List.length_drop, Array.length_toList] at this
   simp only [List.length_take] at hroom
   omega
  have hst := Q6o (P := P) e3 hroom f3.un (fun v hv => hn1 v (List.mem_of_mem_take hv))
  have hrun : (Builtin.copy_ ts tyo #[.slice (some ⟨b, o + off * ty.size, none⟩) len c, x]).run P w = .ok (.int .i64 ((m : Nat) : Int)) (w.setCells b (o + off * ty.size) (news.take (m * ty.size))) := by
   simp [Builtin.copy_, ht1, run_underlying ht, hl, hss, hmin, hf m hm1, goInt, hst]
  obtain ⟨S, Q⟩ := R.write (w' := w.setCells b (o + off * ty.size) (news.take (m * ty.size))) (s' := ⟨n0 + 1, .arr (p ++ p2) ty (splice l off (y.take m))⟩) (dst := dst) (ov := some (mi .i64 ((m : Nat) : Int))) (u := .int .i64 ((m : Nat) : Int)) hn hr (by simp [RowS.live]) hkin (by simp)
   (Q18 _ _ _ _) (fun d hd => Qh b _ _ w d (fun e => by subst e; exact hd o e1))
   (fun d arr3 T3 fr3 h => by
    by_cases e : d = b
    ·subst e
     rw [e3] at h
     cases h
     exact ⟨arr', _, _, a1, asz⟩
    ·exact ⟨arr3, T3, fr3, (Qh b _ _ w d e).trans h, rfl⟩)
   (fun S => by
    refine ⟨S.provIn (ProvIn.append g1 hp2), ?_⟩
    rw [e1]
    refine ⟨arr', Te, fr, a1, by rw [hsp, asz]; exact f2, asz ▸ f3, fun hok i z hz => ?_⟩
    obtain ⟨k1, k2⟩ := Q1m hok
    have cell : ∀ j, (w.setCells b (o + off * ty.size) (news.take (m * ty.size))).cell? ⟨b, o + i * ty.size + j, none⟩ = (arr.toList.take (o + off * ty.size) ++ news.take (m * ty.size) ++ arr.toList.drop (o + off * ty.size + (news.take (m * ty.size)).length))[o + i * ty.size + j]? := by
     intro j
     simp only [World.cell?, a1]
     rw [← a2]
     simp
    have hyk : (y.take m).length = m := by rw [List.length_take]; omega
    rw [Qdt, Qv _ _ _ (by rw [hyk]; omega), hyk] at hz
    by_cases hi' : off ≤ i ∧ i < off + m
    ·rw [if_pos hi'] at hz
     obtain ⟨es, q1, q2⟩ := hyl _ z hz
     refine ⟨es, Q1z (fun x hx => List.mem_append_right _ hx) (S.rd hp2 k2 q1), fun j v hj => ?_⟩
     have hj2 := q2 j v hj
     obtain ⟨hlt, _⟩ := List.getElem?_eq_some_iff.1 hj2
     rw [Q1a, cell, Qv _ _ _ (by simpa using hroom)]
     have him : (i - off) * ty.size = i * ty.size - off * ty.size := Nat.sub_mul _ _ _
     have him2 : off * ty.size ≤ i * ty.size := Nat.mul_le_mul_right _ hi'.1
     rw [if_pos ⟨by omega, by omega⟩, show o + i * ty.size + j - (o + off * ty.size) = (i - off) * ty.size + j by omega]
     exact hj2
    ·rw [if_neg hi'] at hz
     obtain ⟨es, q1, q2⟩ := f4 (S.okProv g1 k1) i z hz
     refine ⟨es, Q1z (fun x hx => List.mem_append_left _ hx) (S.rd g1 k1 q1), fun j v hj => ?_⟩
     obtain ⟨hj1, _⟩ := List.getElem?_eq_some_iff.1 hj
     have hes := Q37 q1
     rw [Q1a, cell, Qv _ _ _ (by simpa using hroom), if_neg ?_]
     ·have := q2 j v hj
      rw [Q1a] at this
      simp only [World.cell?, e3] at this
      simpa using this
     ·rw [hcut]
      rintro ⟨h1, h2⟩
      rcases Nat.lt_or_ge i off with h | h
      ·have := Qfr (sz := ty.size) h (j := j) (by omega); omega
      ·have h3 : off + m ≤ i := by omega
       have := Nat.mul_le_mul_right ty.size h3
       rw [Nat.add_mul] at this
       omega)
   (fun S => ⟨fun v ev => by obtain rfl := oi ev; exact ⟨Q24 _ _ _, fun _ => rfl⟩, fun ev => by cases ev⟩)
  exact ⟨_, hrun, S, Q1c _ _ _ _, Q⟩
theorem Q1d0 {o : Oper} {c : Call} {out : Out} {key : Nat} (hT : TTok P T) (R : Rel B G pl σ a w) (hn : nt ≤ a.tmps.size) (ho : o.op = .call c) (hc : c.callee = .builtin .copy)
  (h : opOut T key o.op (look σ) σ.rows = some out) (hok : out.ok = true) : Goes P B nt G pl σ a w o out := by
 rw [ho] at h
 simp only [opOut, hc] at h
 split at h
 ·rename_i vs hvs
  unfold Q1w at h
  split at h
  all_goals (first | (cases ‹Builtin.copy = _›; done) | (cases h; done) | skip)
  rename_i t ts d s _ hts
  have ht1 : c.argTypes[0]? = some t := by rw [← Array.getElem?_toList, hts]; rfl
  obtain ⟨u1, u2, e, g1, g2, m1, m2, k1, k2⟩ := Qji R hvs
  split at h
  ·rename_i e' i ty he
   obtain ⟨q1, q2, q3, q4⟩ := Q1r hT he
   obtain ⟨f0, z, f1, f2, f3, f4, f5, f6⟩ := Q66 (hT _ _ q2) q3
   have go : ∀ {r off len : Nat}, copyIn σ.rows ty r off len s = some out → (∀ n0 p l, σ.rows r = some ⟨n0, .arr p ty l⟩ → off + len ≤ l.length ∧ Q29 w pl r ty.size off len u1) → Goes P B nt G pl σ a w o out := by
    intro r off len h hsl
    unfold copyIn at h
    split at h
    ·rename_i n0 p t' l hr
     split at h
     ·rename_i hty
      subst hty
      split at h
      ·rename_i p2 y ha
       obtain rfl := oi h
       obtain ⟨hle, hs⟩ := hsl _ _ _ hr
       obtain ⟨news, a1, a2, a3, a4, a5, a6, a7, a8⟩ := Qba (f0 := f0) (z := z) (t2 := t) (d := .slice e') R m2 k2 g2 q1 (by simp) ha
       obtain ⟨w', r1, r2, r3, r4⟩ := Q101 (nt := nt) (tyo := o.type) R hn ht1 q1 f1 f2 hr hle hs a2 a4 a5 a6 a7 a8 o.dst
       refine ⟨pl, w', _, .inl (Q1v ho hc ?_), r2, r3, r4⟩
       rw [e]
       simp [builtin, r1]
      ·cases h
     ·cases h
    ·cases h
   unfold copyTo at h
   split at h
   ·split at h
    ·rename_i r n0 p t' l hr
     exact go h fun n1 p1 l1 hr1 => by
      rw [hr] at hr1
      cases hr1
      exact ⟨by omega, g1.2 _ _ _ _ hr⟩
    ·cases h
   ·rename_i r off len
    exact go h fun n1 p1 l1 hr1 => g1.2 _ _ _ _ hr1
   ·cases h
  ·cases h
 ·cases h
theorem Qu3 (R : Rel B G pl σ a w) (hn : nt ≤ a.tmps.size) {ty : Ty}
  {r n0 off len m : Nat} {p p2 : Prov} {l y : List ty.D} {news : List Value} {u1 : Value} (hr : σ.rows r = some ⟨n0, .arr p ty l⟩) (hle : off + len ≤ l.length) (hs : Q29 w pl r ty.size off len u1)
  (hp2 : ProvIn σ.rows p2) (hyl : Laid w (Safe w pl σ.rows p2) ty y news) (hnl : news.length = y.length * ty.size) (hn1 : ∀ v ∈ news, v.oneCell' = true) (hyk : y.length = m) (hm2 : m ≤ len)
  {v0 : PV} {u0 : Value} (hvu : ∀ (w' : World) (pl' : Pl) (rows' : Rows), Men rows' v0 ∧ VR w' pl' rows' v0 u0) (dst : Option Nat) :
  ∃ w', (m = 0 → w' = w) ∧ (0 < m → ∃ ad : Addr, (∃ c, u1 = .slice (some ad) len c) ∧ (storeCells ad news).run P w = .ok () w') ∧
    Step w pl σ.rows w' pl (upd σ.rows r (some ⟨n0 + 1, .arr (p ++ p2) ty (splice l off y)⟩)) ∧ Quiet w w' ∧
    Rel B G pl ⟨putDst nt σ.env dst (some v0), upd σ.rows r (some ⟨n0 + 1, .arr (p ++ p2) ty (splice l off y)⟩)⟩ (a.put dst u0) w' := by
 obtain ⟨A, c, rfl, hc, hs⟩ := hs
 obtain ⟨g1, g2⟩ := R.rows _ _ hr
 have hsp : (splice l off y).length = l.length := by
  simp only [splice, List.length_append, List.length_take, List.length_drop]; omega
 have hkin : Kin ⟨n0, .arr p ty l⟩ ⟨n0 + 1, .arr (p ++ p2) ty (splice l off y)⟩ := ⟨by simp, .inr (.inr (.inl ⟨p, p ++ p2, ty, l, _, rfl, rfl, hsp, by simp⟩))⟩
 have hcut : news.length = m * ty.size := by rw [hnl, hyk]
 by_cases h0 : m = 0
 ·subst h0
  have hyn : y = [] := List.length_eq_zero_iff.1 hyk
  subst hyn
  have hspl : splice l off ([] : List ty.D) = l := by simp [splice]
  rw [hspl] at hkin ⊢
  obtain ⟨S, Q⟩ := R.write (w' := w) (s' := ⟨n0 + 1, .arr (p ++ p2) ty l⟩) (dst := dst) (ov := some v0) (u := u0) hn hr (by simp [RowS.live]) hkin (by simp) rfl (fun _ _ => rfl) (fun b arr Te fr h => ⟨arr, Te, fr, h, rfl⟩)
   (fun S => by
    refine ⟨S.provIn (ProvIn.append g1 hp2), ?_⟩
    cases hloc : pl.loc r with
    | none => rw [hloc] at g2; exact g2
    | some bo =>
      obtain ⟨b, o⟩ := bo
      rw [hloc] at g2
      obtain ⟨arr, Te, fr, e1, e2, e3, e4⟩ := g2
      refine ⟨arr, Te, fr, e1, e2, e3, fun hok i z hz => ?_⟩
      obtain ⟨k1, k2⟩ := Q1m hok
      obtain ⟨es, q1, q2⟩ := e4 (S.okProv g1 k1) i z hz
      exact ⟨es, Q1z (fun x hx => List.mem_append_left _ hx) (S.rd g1 k1 q1), q2⟩)
   (fun S => ⟨fun v ev => by obtain rfl := oi ev; exact ⟨(hvu w pl _).1, fun _ => (hvu _ _ _).2⟩, fun ev => by cases ev⟩)
  exact ⟨w, fun _ => rfl, fun h => absurd h (Nat.lt_irrefl _), S, Quiet.refl w, Q⟩
 ·obtain ⟨b, o, e1, rfl, arr, Te, fr, e3, e4⟩ := hs (by omega)
  rw [e1] at g2
  obtain ⟨arr2, T2, fr2, f1, f2, f3, f4⟩ := g2
  rw [e3] at f1
  cases f1
  have hmul : (off + c) * ty.size = off * ty.size + c * ty.size := Nat.add_mul _ _ _
  have hmul3 : m * ty.size ≤ c * ty.size := Nat.mul_le_mul_right _ (by omega)
  have hroom : o + off * ty.size + news.length ≤ arr.size := by rw [hcut]; omega
  obtain ⟨arr', a1, a2⟩ := Q1n b (news) (o + off * ty.size) w arr Te fr e3 hroom
  have asz : arr'.size = arr.size := by
   have := congrArg List.length a2
   simp only [List.length_append, List.length_take, List.length_drop, Array.length_toList] at this
   omega
  have hst := Q6o (P := P) e3 hroom f3.un (hn1)
  obtain ⟨S, Q⟩ := R.write (w' := w.setCells b (o + off * ty.size) (news)) (s' := ⟨n0 + 1, .arr (p ++ p2) ty (splice l off (y))⟩) (dst := dst) (ov := some v0) (u := u0) hn hr (by simp [RowS.live]) hkin (by simp)
   (Q18 _ _ _ _) (fun d hd => Qh b _ _ w d (fun e => by subst e; exact hd o e1))
   (fun d arr3 T3 fr3 h => by
    by_cases e : d = b
    ·subst e
     rw [e3] at h
     cases h
     exact ⟨arr', _, _, a1, asz⟩
    ·exact ⟨arr3, T3, fr3, (Qh b _ _ w d e).trans h, rfl⟩)
   (fun S => by
    refine ⟨S.provIn (ProvIn.append g1 hp2), ?_⟩
    rw [e1]
    refine ⟨arr', Te, fr, a1, by rw [hsp, asz]; exact f2, asz ▸ f3, fun hok i z hz => ?_⟩
    obtain ⟨k1, k2⟩ := Q1m hok
    have cell : ∀ j, (w.setCells b (o + off * ty.size) (news)).cell? ⟨b, o + i * ty.size + j, none⟩ = (arr.toList.take (o + off * ty.size) ++ news ++ arr.toList.drop (o + off * ty.size + news.length))[o + i * ty.size + j]? := by
     intro j
     simp only [World.cell?, a1]
     rw [← a2]
     simp
    rw [Qdt, Qv _ _ _ (by rw [hyk]; omega), hyk] at hz
    by_cases hi' : off ≤ i ∧ i < off + m
    ·rw [if_pos hi'] at hz
     obtain ⟨es, q1, q2⟩ := hyl _ z hz
     refine ⟨es, Q1z (fun x hx => List.mem_append_right _ hx) (S.rd hp2 k2 q1), fun j v hj => ?_⟩
     have hj2 := q2 j v hj
     obtain ⟨hlt, _⟩ := List.getElem?_eq_some_iff.1 hj2
     rw [Q1a, cell, Qv _ _ _ (by simpa using hroom)]
     have him : (i - off) * ty.size = i * ty.size - off * ty.size := Nat.sub_mul _ _ _
     have him2 : off * ty.size ≤ i * ty.size := Nat.mul_le_mul_right _ hi'.1
     rw [if_pos ⟨by omega, by omega⟩, show o + i * ty.size + j - (o + off * ty.size) = (i - off) * ty.size + j by omega]
     exact hj2
    ·rw [if_neg hi'] at hz
     obtain ⟨es, q1, q2⟩ := f4 (S.okProv g1 k1) i z hz
     refine ⟨es, Q1z (fun x hx => List.mem_append_left _ hx) (S.rd g1 k1 q1), fun j v hj => ?_⟩
     obtain ⟨hj1, _⟩ := List.getElem?_eq_some_iff.1 hj
     have hes := Q37 q1
     rw [Q1a, cell, Qv _ _ _ (by simpa using hroom), if_neg ?_]
     ·have := q2 j v hj
      rw [Q1a] at this
      simp only [World.cell?, e3] at this
      simpa using this
     ·rw [hcut]
      rintro ⟨h1, h2⟩
      rcases Nat.lt_or_ge i off with h | h
      ·have := Qfr (sz := ty.size) h (j := j) (by omega); omega
      ·have h3 : off + m ≤ i := by omega
       have := Nat.mul_le_mul_right ty.size h3
       rw [Nat.add_mul] at this
       omega)
   (fun S => ⟨fun v ev => by obtain rfl := oi ev; exact ⟨(hvu w pl _).1, fun _ => (hvu _ _ _).2⟩, fun ev => by cases ev⟩)
  exact ⟨_, fun h => absurd h h0, fun _ => ⟨_, ⟨_, rfl⟩, hst⟩, S, Q1c _ _ _ _, Q⟩
theorem Q16l {z : Array Value} {ty : Ty} {n : Nat} (hz : z.toList = zeroCells ty) (hs : z.size = ty.size) : ∀ v ∈ (madeCells z (n * ty.size)).toList, v.oneCell' = true := by
 intro v hv
 have hz1 : ∀ u ∈ z.toList, u.oneCell' = true := by
  rw [hz]
  exact Q9o (Qy default (fun _ => True) ty)
 simp only [madeCells, Array.toList_map, Array.toList_range, List.mem_map, List.mem_range] at hv
 obtain ⟨k, hk, rfl⟩ := hv
 have hpos : 0 < z.size := by
  rcases Nat.eq_zero_or_pos ty.size with e | e
  ·rw [e] at hk; omega
  ·rw [hs]; exact e
 have hlt : k % z.size < z.size := Nat.mod_lt _ hpos
 rw [getElem!_pos z _ hlt]
 exact hz1 _ (by simp)
theorem Q16v {o : Oper} {c : Call} {out : Out} {key : Nat} (hT : TTok P T) (R : Rel B G pl σ a w) (hn : nt ≤ a.tmps.size) (ho : o.op = .call c) (hc : c.callee = .builtin .clear)
  (h : opOut T key o.op (look σ) σ.rows = some out) (hok : out.ok = true) : Goes P B nt G pl σ a w o out := by
 rw [ho] at h
 simp only [opOut, hc] at h
 split at h
 ·rename_i vs hvs
  unfold Q1w at h
  split at h
  all_goals (first | (cases ‹Builtin.clear = _›; done) | (cases h; done) | skip)
  rename_i t ts d _ hts
  have ht1 : c.argTypes[0]? = some t := by rw [← Array.getElem?_toList, hts]; rfl
  obtain ⟨m1, ⟨u1, us, e, g1, hus⟩, k1⟩ := Q45 R hvs
  have hus' : us = [] := hus
  subst hus'
  have eargs : c.args.map a.eval = #[u1] := by
   apply Array.ext'
   simpa using e
  split at h
  ·rename_i e' i ty he
   obtain ⟨q1, q2, q3, q4⟩ := Q1r hT he
   obtain ⟨f0, z, f1, f2, f3, f4, f5, f6⟩ := Q66 (hT _ _ q2) q3
   have tupE : ∀ (w' : World) (pl' : Pl) (rows' : Rows), Men rows' (.tup []) ∧ VR w' pl' rows' (.tup []) (.tuple #[]) := fun w' pl' rows' => ⟨trivial, #[], [], [], rfl, rfl, rfl⟩
   have go : ∀ {r off len n0 : Nat} {p : Prov} {l : List ty.D}, σ.rows r = some ⟨n0, .arr p ty l⟩ → off + len ≤ l.length → Q29 w pl r ty.size off len u1 → out = ⟨true, some (.tup []), [(r, ⟨n0 + 1, .arr p ty (splice l off (List.replicate len ty.zero))⟩)]⟩ → Goes P B nt G pl σ a w o out := by
    intro r off len n0 p l hr hle hs hout
    subst hout
    obtain ⟨w', r0, r1, r2, r3, r4⟩ := Qu3 (P := P) (nt := nt) (p2 := []) (y := List.replicate len ty.zero) (news := (madeCells z.cells (len * ty.size)).toList) (m := len) (v0 := .tup []) (u0 := .tuple #[]) R hn hr hle hs (Qa _) (Qck f5 len)
     (by rw [Array.length_toList, size_madeCells, List.length_replicate]) (fun v hv => Q16l f5 f6 v hv) (by simp) (Nat.le_refl _) tupE o.dst
    simp only [List.append_nil] at r2 r4
    refine ⟨pl, w', _, .inl (Q1v ho hc ?_), r2, r3, r4⟩
    rw [eargs]
    have hz : (zeroValue e').run P w = .ok z w := by simp [zeroValue, typeInfo, f1, f4, go_sem]
    obtain ⟨A, cc, hu, _⟩ := hs
    by_cases h0 : len = 0
    ·have hw := r0 h0
     subst hw
     subst h0
     rw [hu]
     cases A <;> simp [builtin, Builtin.clear_, ht1, run_underlying q1, Result.andThen, go_sem]
    ·obtain ⟨ad, ⟨c', hu'⟩, hst⟩ := r1 (by omega)
     rw [hu'] 
     obtain ⟨n', rfl⟩ : ∃ n', len = n' + 1 := ⟨len - 1, by omega⟩
     have hzz : Builtin.zeroCells z.cells (n' + 1) = madeCells z.cells ((n' + 1) * ty.size) := by rw [← f6]; rfl
     rw [← hzz] at hst
     have hcl : (Builtin.clear_ c.argTypes o.type #[.slice (some ad) (n' + 1) c']).run P w = .ok (.tuple #[]) w' := by
      have h0 : (#[Value.slice (some ad) (n' + 1) c'] : Array Value)[0]? = some (.slice (some ad) (n' + 1) c') := rfl
      unfold Builtin.clear_
      simp only [ht1, h0, Sem.run_bind, run_underlying q1, Result.andThen, hz, hst, Sem.run_pure]
     simp [builtin, hcl]
   split at h
   ·obtain rfl := oi h
    have hu : u1 = .slice none 0 0 := g1
    refine Still.goes R hn ⟨rfl, _, rfl, trivial, .tuple #[], .inl (Q1v ho hc ?_), fun _ => ⟨#[], [], [], rfl, rfl, rfl⟩⟩
    rw [eargs, hu]
    simp [builtin, Builtin.clear_, ht1, run_underlying q1, Result.andThen, go_sem]
   ·rename_i r
    split at h
    ·rename_i n p t' l hr
     split at h
     ·rename_i hty
      subst hty
      obtain rfl := oi h
      refine go (off := 0) (len := l.length) hr (by omega) (g1.2 _ _ _ _ hr) ?_
      simp [splice]
     ·cases h
    ·cases h
   ·rename_i r off len
    split at h
    ·rename_i n p t' l hr
     split at h
     ·rename_i hty
      subst hty
      obtain rfl := oi h
      obtain ⟨h1, h2⟩ := g1.2 _ _ _ _ hr
      exact go hr h1 h2 rfl
     ·cases h
    ·cases h
   ·cases h
  ·cases h
 ·cases h
end
section
variable {P : Program} {B nt : Nat} {G : Nat → Prop} {pl pl' : Pl} {σ : St} {a : Act} {w w' : World} {T : TT}
theorem Rel.alter (R : Rel B G pl σ a w) (hn : nt ≤ a.tmps.size) (hZ : ∀ b, pl.Z b → b < B) (hB : B ≤ w.heap.size) {rows' : Rows} (chg : Nat → Prop)
  (z : pl'.Z = pl.Z) (l : pl'.L = pl.L) (hsz : w.heap.size ≤ w'.heap.size)
  (same : ∀ r, ¬ chg r → rows' r = σ.rows r ∧ pl'.loc r = pl.loc r ∧ pl'.hid r = pl.hid r)
  (kin : ∀ r s, chg r → σ.rows r = some s → ∃ s', rows' r = some s' ∧ Kin s s' ∧ s' ≠ s ∧ (s'.live → pl'.loc r = pl.loc r))
  (src : ∀ r s b o, chg r → rows' r = some s → s.live → pl'.at r b o → (w.heap.size ≤ b ∧ b < w'.heap.size) ∨ ∃ r0 s0 o0, chg r0 ∧ σ.rows r0 = some s0 ∧ s0.live ∧ pl.at r0 b o0)
  (uni : ∀ r r' s s' b o o', chg r → chg r' → rows' r = some s → s.live → rows' r' = some s' → s'.live → pl'.at r b o → pl'.at r' b o' → r = r')
  (heap : ∀ b, b < w.heap.size → (∀ r s o, chg r → σ.rows r = some s → s.live → ¬ pl.at r b o) → w'.heap[b]? = w.heap[b]?)
  (blk : ∀ (b : Nat) (arr : Array Value) (T : TypeId) (fr : Nat × Nat), w.heap[b]? = some (Obj.cells arr T fr) → ∃ (arr' : Array Value) (T' : TypeId) (fr' : Nat × Nat), w'.heap[b]? = some (Obj.cells arr' T' fr') ∧ arr'.size = arr.size)
  (hz : rows' 0 = none)
  (hrow : Step w pl σ.rows w' pl' rows' → ∀ r s, chg r → rows' r = some s → RowR w' pl' rows' r s)
  {dst : Option Nat} {ov : Option PV} {u : Value}
  (hv : Step w pl σ.rows w' pl' rows' → (∀ v, ov = some v → Men rows' v ∧ (okPV rows' v = true → VR w' pl' rows' v u)) ∧ (ov = none → u = undef)) :
  Step w pl σ.rows w' pl' rows' ∧ Rel B G pl' ⟨putDst nt σ.env dst ov, rows'⟩ (a.put dst u) w' := by
 have at_same : ∀ {r b o}, ¬ chg r → pl'.at r b o → pl.at r b o := by
  intro r b o hc h
  obtain ⟨_, e1, e2⟩ := same r hc
  unfold Pl.at at h ⊢
  rw [← e1, ← e2]; exact h
 have S : Step w pl σ.rows w' pl' rows' := by
  refine ⟨z, l, hsz, fun r s hr => ?_, fun r s h1 h2 hl => ?_, fun r s' h1 hl b o h2 => ?_, fun b hb h => ?_, blk, R.zero⟩
  ·by_cases hc : chg r
   ·obtain ⟨s', e1, e2, _, e3⟩ := kin r s hc hr
    exact ⟨s', e1, e2, e3⟩
   ·obtain ⟨e0, e1, _⟩ := same r hc
    exact ⟨s, e0.trans hr, Kin.refl s, fun _ => e1⟩
  ·by_cases hc : chg r
   ·obtain ⟨s', e1, _, e2, _⟩ := kin r s hc h1
    rw [h2] at e1
    exact absurd (oi e1).symm e2
   ·exact (same r hc).2.2
  ·by_cases hc : chg r
   ·rcases src r s' b o hc h1 hl h2 with h | ⟨r0, s0, o0, g1, g2, g3, g4⟩
    ·exact .inr (.inl h.1)
    ·obtain ⟨s1, e1, _, e2, _⟩ := kin r0 s0 g1 g2
     exact .inr (.inr ⟨r0, s0, s1, o0, g2, g3, e1, e2, g4⟩)
   ·exact .inl ⟨s', o, (same r hc).1 ▸ h1, hl, at_same hc h2⟩
  ·refine heap b hb fun r s o hc hr hl ha => ?_
   have := h r s o hr hl ha
   obtain ⟨s', e1, _, e2, _⟩ := kin r s hc hr
   rw [this] at e1
   exact e2 (oi e1).symm
 refine ⟨S, R.stepM S ((Q3m a dst u).trans R.defers) (Qb5 R hn (hv S)) (fun r s' h1 h2 => ?_) hz fun r s b o h1 hl h2 => ?_⟩
 ·by_cases hc : chg r
  ·exact hrow S r s' hc h1
  ·exact absurd ((same r hc).1 ▸ h1) h2
 ·by_cases hc : chg r
  ·rcases src r s b o hc h1 hl h2 with ⟨h3, h4⟩ | ⟨r0, s0, o0, g1, g2, g3, g4⟩
   ·refine .inr ⟨⟨h4, fun hzb => by have := hZ b hzb; omega, .inl (by omega)⟩, fun r' s' o' h1' hl' h2' => ?_⟩
    by_cases hc' : chg r'
    ·exact uni r' r s' s b o' o hc' hc h1' hl' h1 hl h2' h2
    ·have := (R.own r' s' b o' ((same r' hc').1 ▸ h1') hl' (at_same hc' h2')).1
     omega
   ·obtain ⟨q1, q2, q3⟩ := R.own r0 s0 b o0 g2 g3 g4
    refine .inr ⟨⟨Nat.lt_of_lt_of_le q1 hsz, q2, q3⟩, fun r' s' o' h1' hl' h2' => ?_⟩
    by_cases hc' : chg r'
    ·exact uni r' r s' s b o' o hc' hc h1' hl' h1 hl h2' h2
    ·have := R.inj r' r0 s' s0 b o' o0 ((same r' hc').1 ▸ h1') hl' g2 g3 (at_same hc' h2') g4
     subst this
     exact absurd g1 hc'
  ·exact .inl ⟨s, o, (same r hc).1 ▸ h1, hl, at_same hc h2⟩
end
theorem Q4c {R : Type} {m : Nat} {f : Nat → Oq R} {r : R} : allOf m f = some r ↔ ∀ i, i ≤ m → f i = some r := by
 unfold allOf
 constructor
 ·intro h
  split at h
  ·rename_i hr
   obtain ⟨r', hr⟩ := hr
   have := hr 0 (Nat.zero_le _)
   rw [h] at this
   cases this
   exact hr
  ·cases h
 ·intro h
  rw [if_pos ⟨r, h⟩]
  exact h 0 (Nat.zero_le _)
section
variable {P : Program} {B nt : Nat} {G : Nat → Prop} {pl pl' : Pl} {σ : St} {a : Act} {w w' : World} {T : TT}
theorem Qdy {S : Nat → Prop} {ok : Prop} : ∀ {t : Ty} {x : t.D} {cs : List Value} {bs : List Nat}, FldR w S ok t x cs bs → ∀ b ∈ bs, ∃ (arr : Array Value) (T : TypeId) (fr : Nat × Nat), w.heap[b]? = some (Obj.cells arr T fr) := by
 intro t
 induction t with
 | int k => intro x cs bs h b hb; rw [h.1] at hb; cases hb
 | bool => intro x cs bs h b hb; rw [h.1] at hb; cases hb
 | str => intro x cs bs h b hb; rw [h.1] at hb; cases hb
 | unit => intro x cs bs h b hb; rw [h.1] at hb; cases hb
 | slice t _ =>
   intro x cs bs h b hb
   obtain ⟨u, loc, h1, h2, h3, h4, h5⟩ := h
   subst h5
   cases loc with
   | none => cases hb
   | some bo =>
     obtain ⟨b', o⟩ := bo
     simp at hb
     subst hb
     obtain ⟨arr, T, fr, g, _⟩ := h3
     exact ⟨arr, T, fr, g⟩
 | prod a b iha ihb =>
   intro x cs bs h c hc
   obtain ⟨c1, c2, b1, b2, h1, h2, h3, h4⟩ := h
   subst h2
   rcases List.mem_append.1 hc with hc | hc
   ·exact iha h3 c hc
   ·exact ihb h4 c hc
theorem Q7m {S : Nat → Prop} {ok : Prop} {bx : Bool} {t : Ty} {x : t.D} {u : Value} {bs : List Nat} (h : HV w S ok bx t x u bs) : ∀ b ∈ bs, ∃ (arr : Array Value) (T : TypeId) (fr : Nat × Nat), w.heap[b]? = some (Obj.cells arr T fr) := by
 cases bx with
 | false => exact Qdy h
 | true =>
   obtain ⟨b, bs', arr, T, fr, h1, h2, h3, h4, h5, h6⟩ := h
   subst h2
   intro c hc
   rcases List.mem_cons.1 hc with rfl | hc
   ·exact ⟨arr, T, fr, h3⟩
   ·exact Qdy h6 c hc
theorem Q67 {S : Nat → Prop} {ok : Prop} {kt vt : Ty} {bx : Bool} : ∀ {l : List (kt.D × vt.D)} {es : List MapEntry} {bs : List Nat}, Ents w S ok kt vt bx l es bs → ∀ b ∈ bs, ∃ (arr : Array Value) (T : TypeId) (fr : Nat × Nat), w.heap[b]? = some (Obj.cells arr T fr)
 | [], es, bs, h, b, hb => by rw [h.2] at hb; cases hb
 | (k, v) :: l, es, bs, h, b, hb => by
   obtain ⟨e, es', b1, b2, h1, h2, h3, h4, h5⟩ := h
   subst h2
   rcases List.mem_append.1 hb with hb | hb
   ·exact Q7m h4 b hb
   ·exact Q67 h5 b hb
theorem Q8r {S : Nat → Prop} {ok : Prop} {kt vt : Ty} {bx : Bool} : ∀ {l : List (kt.D × vt.D)} {es : List MapEntry} {bs : List Nat}, Ents w S ok kt vt bx l es bs → ∀ (i : Nat) (k : kt.D) (v : vt.D), l[i]? = some (k, v) →
  ∃ e bk bs', es[i]? = some e ∧ KeyR w kt k e.key ∧ HV w S ok bx vt v e.val bk ∧ Ents w S ok kt vt bx (l.eraseIdx i) (es.eraseIdx i) bs' ∧ bs.Perm (bk ++ bs')
 | [], es, bs, h, i, k, v, hi => by simp at hi
 | (k0, v0) :: l, es, bs, h, i, k, v, hi => by
   obtain ⟨e, es', b1, b2, h1, h2, h3, h4, h5⟩ := h
   subst h1
   subst h2
   cases i with
   | zero =>
     simp only [List.getElem?_cons_zero, Option.some.injEq, Prod.mk.injEq] at hi
     obtain ⟨rfl, rfl⟩ := hi
     exact ⟨e, b1, b2, rfl, h3, h4, h5, List.Perm.refl _⟩
   | succ i =>
     obtain ⟨e1, bk, bs', g1, g2, g3, g4, g5⟩ := Q8r h5 i k v (by simpa using hi)
     refine ⟨e1, bk, b1 ++ bs', by simpa using g1, g2, g3, ⟨e, _, b1, bs', rfl, rfl, h3, h4, g4⟩, ?_⟩
     have : (b1 ++ b2).Perm (b1 ++ (bk ++ bs')) := List.Perm.append_left b1 g5
     refine this.trans ?_
     rw [← List.append_assoc, ← List.append_assoc]
     exact List.Perm.append_right bs' List.perm_append_comm
theorem Qb8 {S : Nat → Prop} {ok : Prop} {kt vt : Ty} {bx : Bool} : ∀ {l l2 : List (kt.D × vt.D)} {es es2 : List MapEntry} {bs bs2 : List Nat}, Ents w S ok kt vt bx l es bs → Ents w S ok kt vt bx l2 es2 bs2 → Ents w S ok kt vt bx (l ++ l2) (es ++ es2) (bs ++ bs2)
 | [], l2, es, es2, bs, bs2, h, h2 => by rw [h.1, h.2]; exact h2
 | (k, v) :: l, l2, es, es2, bs, bs2, h, h2 => by
   obtain ⟨e, es', b1, b2, h3, h4, h5, h6, h7⟩ := h
   subst h3
   subst h4
   exact ⟨e, es' ++ es2, b1, b2 ++ bs2, rfl, by simp, h5, h6, Qb8 h7 h2⟩
theorem Q31 {α : Type} : ∀ {l : List α} {i : Nat} {x : α}, l[i]? = some x → l.Perm (x :: l.eraseIdx i)
 | [], i, x, h => by simp at h
 | y :: l, 0, x, h => by
   simp only [List.getElem?_cons_zero, Option.some.injEq] at h
   subst h
   exact List.Perm.refl _
 | y :: l, i + 1, x, h => by
   have := Q31 (l := l) (i := i) (x := x) (by simpa using h)
   exact (List.Perm.cons y this).trans (List.Perm.swap x y _)
theorem Q8u {α : Type} (i : Nat) (l : List α) : (bring i l).Perm l := by
 unfold bring
 split
 ·rename_i x hx
  exact (Q31 hx).symm
 ·exact List.Perm.refl _
theorem Q8h {w : World} {x b : Nat} {o : Obj} (h : ∃ (arr : Array Value) (T : TypeId) (fr : Nat × Nat), w.heap[x]? = some (Obj.cells arr T fr)) (hb : w.heap[b]? = some o) (ho : ∀ arr T fr, o ≠ .cells arr T fr) : x ≠ b := by
 rintro rfl
 obtain ⟨arr, T, fr, h⟩ := h
 rw [hb] at h
 exact ho _ _ _ (oi h)
theorem Qlz {es : Array MapEntry} {seen : Array Nat} {c : MapEntry} {rest : List MapEntry} (hn : (es.toList.map (·.born)).Nodup) (h : (Q15 es seen).toList.Perm (c :: rest)) : (Q15 es (seen.push c.born)).toList.Perm rest := by
 have e1 : (Q15 es (seen.push c.born)).toList = ((Q15 es seen).toList).filter (fun e => decide (e.born ≠ c.born)) := by
  unfold Q15
  simp only [Array.toList_filter, List.filter_filter]
  congr 1
  funext e
  simp only [Array.contains_push]
  by_cases hc : e.born = c.born
  ·cases seen.contains e.born <;> simp [hc]
  ·have : (e.born == c.born) = false := by simpa using hc
   cases seen.contains e.born <;> simp [hc, this]
 rw [e1]
 have hnd : ((Q15 es seen).toList.map (·.born)).Nodup := by
  unfold Q15
  rw [Array.toList_filter]
  exact hn.sublist (List.Sublist.map _ List.filter_sublist)
 have h2 := h.filter (fun e => decide (e.born ≠ c.born))
 refine h2.trans ?_
 have hnd2 : ((c :: rest).map (·.born)).Nodup := (List.Perm.nodup_iff (h.map _)).1 hnd
 rw [List.map_cons, List.nodup_cons] at hnd2
 rw [List.filter_cons_of_neg (by simp)]
 rw [List.filter_eq_self.2 (fun x hx => by
  simp only [ne_eq, decide_eq_true_eq]
  intro e
  exact hnd2.1 (e ▸ List.mem_map.2 ⟨x, hx, rfl⟩))]
theorem Qtq (R : Rel B G pl σ a w) (hn : nt ≤ a.tmps.size) (hZ : ∀ b, pl.Z b → b < B) (hB : B ≤ w.heap.size) {o : Oper} {x : Operand} (ho : o.op = .next x false) {r n : Nat} {p : Prov} {kt vt : Ty} {bx : Bool} {l : List (kt.D × vt.D)}
  (hx : look σ x = some (.ptr r 0)) (hr : σ.rows r = some ⟨n, .mp 1 p kt vt bx l none⟩) :
  ∃ i w' u, i ≤ l.length ∧ (execOp a.eval o).run P w = .ok (.value u) w' ∧ Step w pl σ.rows w' pl (upd σ.rows r (some ⟨n + 1, .mp 2 p kt vt bx (bring i l) none⟩)) ∧ Quiet w w' ∧
    Rel B G pl ⟨putDst nt σ.env o.dst (some (.tup [mb (!l.isEmpty)])), upd σ.rows r (some ⟨n + 1, .mp 2 p kt vt bx (bring i l) none⟩)⟩ (a.put o.dst u) w' := by
 obtain ⟨g1, g2, b, es1, st, bs, e1, e2, e4, e5, e6, e7, e8⟩ := R.rows _ _ hr
 obtain ⟨hst, bm, es, clock, seen, m1, m2, m3, m4, m5, m6⟩ := e2
 have m6 : (Q15 es seen).toList.Perm es1 := m6
 have r0 : r ≠ 0 := by rintro rfl; rw [R.zero] at hr; cases hr
 have hlv : RowS.live ⟨n, .mp 1 p kt vt bx l none⟩ := by simp [RowS.live]
 obtain ⟨b', k1, k2⟩ := (R.look hx).2.1.1.2.2 _ _ _ _ _ _ _ _ hr
 rw [e1] at k1
 obtain rfl : b = b' := by cases k1; rfl
 have hbs : ∀ x ∈ bs, x ≠ b := fun x hx => Q8h (Q67 e4 x hx) m1 (by simp)
 have hbm : bm ≠ b := by
  rintro rfl
  rw [m1] at m3; cases m3
 have hexec : execOp a.eval o = (do let v ← Instr.next (a.eval x) false o.type; pure (.value v)) := by simp only [execOp, ho]
 have key : ∀ (i : Nat) (w' : World) (u : Value) (es2 : List MapEntry) (bs2 : List Nat) (o' : Obj), i ≤ l.length → (execOp a.eval o).run P w = .ok (.value u) w' → w'.heap.size = w.heap.size → Quiet w w' → (∀ c, c ≠ b → w'.heap[c]? = w.heap[c]?) →
   Ents w (Safe w pl σ.rows p) (okProv σ.rows p = true) kt vt bx (bring i l) es2 bs2 → bs2.Perm bs → MapAt w' pl r 2 b es2 [] → VR w pl σ.rows (.tup [mb (!l.isEmpty)]) u →
   ∃ i w' u, i ≤ l.length ∧ (execOp a.eval o).run P w = .ok (.value u) w' ∧ Step w pl σ.rows w' pl (upd σ.rows r (some ⟨n + 1, .mp 2 p kt vt bx (bring i l) none⟩)) ∧ Quiet w w' ∧
     Rel B G pl ⟨putDst nt σ.env o.dst (some (.tup [mb (!l.isEmpty)])), upd σ.rows r (some ⟨n + 1, .mp 2 p kt vt bx (bring i l) none⟩)⟩ (a.put o.dst u) w' := by
  intro i w' u es2 bs2 o' hi hrun hsz hq hh hents hperm hmap hvr
  obtain ⟨S, Q⟩ := R.alter (nt := nt) (w' := w') (pl' := pl) (rows' := upd σ.rows r (some ⟨n + 1, .mp 2 p kt vt bx (bring i l) none⟩)) (dst := o.dst) (ov := some (.tup [mb (!l.isEmpty)])) (u := u) hn hZ hB (· = r) rfl rfl (by omega)
   (fun x hx => ⟨by rw [Q8, if_neg hx], rfl, rfl⟩)
   (fun x s hx hs => by
    subst hx
    rw [hr] at hs
    cases hs
    exact ⟨_, by rw [Q8, if_pos rfl], ⟨by simp, .inr (.inr (.inr (.inr ⟨_, _, _, _, _, _, _, _, _, _, _, rfl, rfl, by simp, by simp⟩)))⟩, by simp, fun _ => rfl⟩)
   (fun x s c o hx hs hl ha => .inr ⟨r, _, o, rfl, hr, hlv, hx ▸ ha⟩)
   (fun x x' s s' c o o' hx hx' _ _ _ _ _ _ => hx.trans hx'.symm)
   (fun c hc h => hh c fun e => h r _ 0 rfl hr hlv (.inl (e ▸ e1)))
   (fun c arr Te fr hc => ⟨arr, Te, fr, (hh c (Q8h ⟨arr, Te, fr, hc⟩ m1 (by simp))).trans hc, rfl⟩)
   (by rw [Q8, if_neg (Ne.symm r0)]; exact R.zero)
   (fun S x s hx hs => by
    subst hx
    rw [Q8, if_pos rfl] at hs
    cases hs
    refine ⟨S.provIn g1, g2, b, es2, [], bs2, e1, hmap, ?_, rfl, ?_, ?_, fun x hx => e8 x (hperm.mem_iff.1 hx)⟩
    ·exact hents.frame (fun hok => ⟨S.okProv g1 hok, fun b hb => S.safe g1 hok hb⟩) fun x hx => hh x (hbs x (hperm.mem_iff.1 hx))
    ·have := (Q8u i l).map (·.1)
     simp only [keysOf, Option.map_none, Option.toList_none, List.append_nil] at e6 ⊢
     exact (List.Perm.nodup_iff this).2 e6
    ·exact (List.Perm.nodup_iff hperm).2 e7)
   (fun S => ⟨fun v ev => by
    cases ev
    exact ⟨⟨Q2f _ _, trivial⟩, fun _ => hvr⟩, fun ev => by cases ev⟩)
  exact ⟨i, w', u, hi, hrun, S, hq, Q⟩
 rcases run_next_at (P := P) w o.type b bm clock clock seen es clock m1 m3 m4 (Nat.le_refl _) with ⟨h1, h2⟩ | ⟨e, he, w1, hw1, h2⟩
 ·have hnil : (Q15 es seen).toList = [] := by
   have : (Q15 es seen).size = 0 := h1
   simpa using this
  have hes1 : es1 = [] := by
   rw [hnil] at m6
   exact List.Perm.nil_eq m6 ▸ rfl
  have hl0 : l = [] := by
   have := Q7l e4
   rw [hes1] at this
   exact List.length_eq_zero_iff.1 this.symm
  subst hl0
  refine key 0 w (.tuple #[.bool false]) es1 bs (.mapIter (some bm) clock seen clock) (Nat.zero_le _) ?_ rfl (Quiet.refl w) (fun _ _ => rfl) e4 (List.Perm.refl _) ⟨rfl, bm, es, clock, seen, m1, m2, m3, m4, m5, .inl ⟨hes1, hnil⟩⟩ ⟨#[.bool false], [.bool false], [], rfl, rfl, _, [], rfl, rfl, rfl⟩
  rw [hexec, k2]
  simp [h2]
 ·have hmem : e ∈ es1 := m6.mem_iff.1 he
  obtain ⟨i, hi⟩ := List.getElem?_of_mem hmem
  have hil : i < l.length := by
   have := (List.getElem?_eq_some_iff.1 hi).1
   rw [Q7l e4] at this; exact this
  obtain ⟨⟨k, v⟩, hkv⟩ : ∃ q, l[i]? = some q := ⟨_, List.getElem?_eq_getElem hil⟩
  obtain ⟨e', bk, bs', f1, f2, f3, f4, f5⟩ := Q8r e4 i k v hkv
  rw [hi] at f1
  cases f1
  have hb1 : bring i l = (k, v) :: l.eraseIdx i := by simp [bring, hkv]
  have heap1 : w1.heap = w.heap := by rcases hw1 with rfl | rfl <;> rfl
  have q1 : Quiet w w1 := by rcases hw1 with rfl | rfl <;> exact ⟨rfl, rfl, rfl⟩
  have hblt : b < w.heap.size := (Array.getElem?_eq_some_iff.1 m1).1
  have hne : l.isEmpty = false := by cases l with
   | nil => simp at hil
   | cons y l => rfl
  have heap' : ∀ c, c ≠ b → (ChangeMaps.setBlock w1 b (.mapIter (some bm) clock (seen.push e.born) clock)).heap[c]? = w.heap[c]? := by
   intro c hc
   simp only [ChangeMaps.setBlock, heap1]
   rw [Array.getElem?_setIfInBounds, if_neg (Ne.symm hc)]
  refine key i (ChangeMaps.setBlock w1 b (.mapIter (some bm) clock (seen.push e.born) clock)) (.tuple #[.bool true, e.key, e.val]) (e :: es1.eraseIdx i) (bk ++ bs') (.mapIter (some bm) clock seen clock) (Nat.le_of_lt hil) ?_ (by simp [ChangeMaps.setBlock, heap1])
   (q1.trans ⟨rfl, rfl, rfl⟩) heap' ?_ f5.symm ?_ ?_
  ·rw [hexec, k2]
   simp [h2]
  ·rw [hb1]
   exact ⟨e, _, bk, bs', rfl, rfl, f2, f3, f4⟩
  ·refine ⟨rfl, bm, es, clock, seen.push e.born, ?_, m2, (heap' bm hbm).trans m3, m4, m5, .inr ⟨e, _, rfl, ?_, ?_, seen, rfl⟩⟩
   ·simp only [ChangeMaps.setBlock, heap1]
    rw [Array.getElem?_setIfInBounds, if_pos rfl, if_pos hblt]
   ·exact Qlz m5 (m6.trans (Q31 hi))
   ·have : e ∈ (Q15 es seen).toList := he
    unfold Q15 at this
    rw [Array.toList_filter] at this
    exact (List.mem_filter.1 this).1
  ·rw [hne]
   exact ⟨_, [.bool true], [e.key, e.val], rfl, rfl, _, [], rfl, rfl, rfl⟩
end
section
open Go.MapKept (IsKey run_checkKey run_findKey findNow_spec)
noncomputable def keyVal : (kt : Ty) → kt.D → Value
 | .int k, x => .int k x
 | .bool, x => .bool x
 | .str, x => .string x
 | .prod (.int k) (.prod .str .unit), x => .agg #[.int k x.1, .string x.2.1]
 | _, _ => undef
theorem Qtn : ∀ {kt : Ty}, keyTy kt = true → kt.flat = true
 | .int _, _ => rfl
 | .bool, _ => rfl
 | .str, _ => rfl
 | .prod (.int _) (.prod .str .unit), _ => rfl
theorem Q2v {w : World} : ∀ {kt : Ty}, keyTy kt = true → ∀ {k : kt.D} {u : Value}, KeyR w kt k u ↔ u = keyVal kt k
 | .int i, _, k, u => by
   constructor
   ·rintro ⟨cs, h1, h2⟩
    have h1 : cs = [.int i k] := h1
    subst h1; exact h2
   ·intro h; exact ⟨[.int i k], rfl, h⟩
 | .bool, _, k, u => by
   constructor
   ·rintro ⟨cs, h1, h2⟩
    have h1 : cs = [.bool k] := h1
    subst h1; exact h2
   ·intro h; exact ⟨[.bool k], rfl, h⟩
 | .str, _, k, u => by
   constructor
   ·rintro ⟨cs, h1, h2⟩
    have h1 : cs = [.string k] := h1
    subst h1; exact h2
   ·intro h; exact ⟨[.string k], rfl, h⟩
 | .prod (.int i) (.prod .str .unit), _, k, u => by
   constructor
   ·rintro ⟨cs, ⟨c1, c2, rfl, h1, c3, c4, rfl, h2, h3⟩, h4⟩
    have h1 : c1 = [.int i k.1] := h1
    have h2 : c3 = [.string k.2.1] := h2
    have h3 : c4 = [] := h3
    subst h1 h2 h3
    exact h4
   ·intro h
    exact ⟨[.int i k.1, .string k.2.1], ⟨[.int i k.1], [.string k.2.1], rfl, rfl, [.string k.2.1], [], rfl, rfl, rfl⟩, h⟩
theorem Q92 : ∀ {kt : Ty}, keyTy kt = true → ∀ {x y : kt.D}, keyVal kt x = keyVal kt y → x = y
 | .int i, _, x, y, h => by cases h; rfl
 | .bool, _, x, y, h => by cases h; rfl
 | .str, _, x, y, h => by cases h; rfl
 | .prod (.int i) (.prod .str .unit), _, x, y, h => by
   obtain ⟨x1, x2, _⟩ := x
   obtain ⟨y1, y2, _⟩ := y
   simp only [keyVal, Value.agg.injEq] at h
   have := congrArg Array.toList h
   simp at this
   obtain ⟨h1, h2⟩ := this
   subst h1 h2
   rfl
theorem Q7r (a b : BA) : (a == b) = true ↔ a = b := by
 exact MapKept.bytes_beq a b
theorem Q16 : ∀ {kt : Ty}, keyTy kt = true → ∀ {x y : kt.D}, kt.beq x y = true ↔ x = y
 | .int i, _, x, y => by
   show ((show Int from x) == (show Int from y)) = true ↔ _
   rw [beq_iff_eq]
 | .bool, _, x, y => by
   show ((show Bool from x) == (show Bool from y)) = true ↔ _
   rw [beq_iff_eq]
 | .str, _, x, y => by
   show ((show BA from x) == (show BA from y)) = true ↔ _
   exact Q7r _ _
 | .prod (.int i) (.prod .str .unit), _, x, y => by
   obtain ⟨x1, x2, x3⟩ := x
   obtain ⟨y1, y2, y3⟩ := y
   show (((show Int from x1) == (show Int from y1)) && (((show BA from x2) == (show BA from y2)) && true)) = true ↔ _
   rw [Bool.and_true, Bool.and_eq_true, beq_iff_eq, Q7r, Prod.mk.injEq, Prod.mk.injEq]
   exact ⟨fun h => ⟨h.1, h.2, rfl⟩, fun h => ⟨h.1, h.2.1⟩⟩
def KeyT (P : Program) (kt : Ty) (t : Nat) : Prop := ∃ i d, TIok P t i ∧ i.ty = some kt ∧ i.d = d ∧ dTy d kt = true
section
variable {P : Program} {w : World}
theorem Q9l {k : IntKind} {t : Nat} (h : KeyT P (.prod (.int k) (.prod .str .unit)) t) :
  ∃ (f1 f2 : Field) (fs : Array Field), P.underlying t = some (.struct fs) ∧ fs.toList = [f1, f2] ∧ f1.offset = 0 ∧ f2.offset = 1 ∧ f1.name ≠ "_" ∧ f2.name ≠ "_" ∧
    P.underlying f1.type = some (.int k) ∧ P.underlying f2.type = some .string ∧ cmpG P (.prod (.int k) (.prod .str .unit)) none t = true := by
 obtain ⟨i, d, h1, h2, h3, h4⟩ := h
 have hc := h1.cmp _ h2 rfl
 simp only [cmpB, Bool.and_eq_true] at hc
 have hc0 := hc.1
 have hc := hc.1
 simp only [cmpG] at hc
 split at hc
 ·rename_i fs hu
  simp only [Bool.and_eq_true] at hc
  obtain ⟨_, hc⟩ := hc
  split at hc
  ·rename_i f1 rest hfs
   simp only [Bool.and_eq_true, decide_eq_true_eq] at hc
   obtain ⟨⟨⟨⟨a1, a2⟩, a3⟩, a4⟩, a5⟩ := hc
   split at a4
   ·rename_i k' hu1
    simp only [decide_eq_true_eq] at a4
    subst a4
    cases rest with
    | nil => simp [cmpG] at a5
    | cons f2 rest =>
      simp only [cmpG, Bool.and_eq_true, decide_eq_true_eq] at a5
      obtain ⟨⟨⟨⟨b1, b2⟩, b3⟩, b4⟩, b5⟩ := a5
      split at b4
      ·rename_i hu2
       cases rest with
       | cons f3 rest => simp [cmpG] at b5
       | nil => exact ⟨f1, f2, fs, hu, hfs, a1, by simpa [Ty.size] using b1, Qyz a2, Qyz b2, hu1, hu2, hc0⟩
      ·cases b4
   ·cases a4
  ·cases hc
 ·cases hc
def OneKey (P : Program) (kt : Ty) (t : Nat) : Prop := ∃ d, P.underlying t = some d ∧ ∀ k, IsKey d (keyVal kt k)
theorem Q1cf {k : IntKind} {t : Nat} (h : KeyT P (.int k) t) : OneKey P (.int k) t := by
 obtain ⟨i, d, h1, h2, h3, h4⟩ := h
 subst h3
 have : i.d = .int k := by
  cases hd : i.d <;> rw [hd] at h4 <;> simp [dTy] at h4
  rw [h4]
 exact ⟨_, h1.int this, fun x => (rfl : k = k)⟩
theorem Q163 {t : Nat} (h : KeyT P .bool t) : OneKey P .bool t := by
 obtain ⟨i, d, h1, h2, h3, h4⟩ := h
 subst h3
 have : i.d = .bool := by
  cases hd : i.d <;> rw [hd] at h4 <;> simp [dTy] at h4
 exact ⟨_, h1.bool this, fun x => True.intro⟩
theorem Q1cg {t : Nat} (h : KeyT P .str t) : OneKey P .str t := by
 obtain ⟨i, d, h1, h2, h3, h4⟩ := h
 subst h3
 have : i.d = .str := by
  cases hd : i.d <;> rw [hd] at h4 <;> simp [dTy] at h4
 exact ⟨_, h1.str this, fun x => True.intro⟩
theorem Qll {kt : Ty} {t : Nat} (h : KeyT P kt t) (hk : keyTy kt = true) : OneKey P kt t ∨ ∃ k, kt = .prod (.int k) (.prod .str .unit) := by
 cases kt with
 | int k => exact .inl (Q1cf h)
 | bool => exact .inl (Q163 h)
 | str => exact .inl (Q1cg h)
 | unit => cases hk
 | slice t => cases hk
 | prod a b =>
   right
   cases a with
   | int k =>
     cases b with
     | prod c d =>
       cases c with
       | str =>
         cases d with
         | unit => exact ⟨k, rfl⟩
         | _ => cases hk
       | _ => cases hk
     | _ => cases hk
   | _ => cases hk
theorem Qmf {kt : Ty} {t : Nat} (h : KeyT P kt t) (hk : keyTy kt = true) (k : kt.D) (e : Bool) : (Instr.checkKey e 10000 t (keyVal kt k)).run P w = .ok () w := by
 rcases Qll h hk with ⟨d, h1, h2⟩ | ⟨ik, rfl⟩
 ·exact run_checkKey h1 (h2 k) e 9999
 ·obtain ⟨f1, f2, fs, h1, h2, h3, h4, h5, h6, h7, h8, _⟩ := Q9l h
  have a1 : (Instr.checkKey e 9999 f1.type (.int ik k.1)).run P w = .ok () w := run_checkKey h7 (show IsKey (.int ik) (.int ik k.1) from (rfl : ik = ik)) e 9998
  have a2 : (Instr.checkKey e 9999 f2.type (.string k.2.1)).run P w = .ok () w := run_checkKey h8 (show IsKey .string (.string k.2.1) from True.intro) e 9998
  have p1 : (Go.isAgg f1.type).run P w = .ok false w := by simp [Go.isAgg, run_underlying h7, go_sem]
  have p2 : (Go.isAgg f2.type).run P w = .ok false w := by simp [Go.isAgg, run_underlying h8, go_sem]
  have hfs : fs = #[f1, f2] := by apply Array.ext'; simpa using h2
  subst hfs
  have e1 : (part f1.type #[.int ik k.1, .string k.2.1] f1.offset).run P w = .ok (.int ik k.1) w := by simp [part, h3, p1, go_sem, Result.andThen]
  have e2 : (part f2.type #[.int ik k.1, .string k.2.1] f2.offset).run P w = .ok (.string k.2.1) w := by simp [part, h4, p2, go_sem, Result.andThen]
  show (Instr.checkKey e (9999 + 1) t (.agg #[.int ik k.1, .string k.2.1])).run P w = .ok () w
  unfold Instr.checkKey
  simp only [Sem.run_bind, run_underlying h1, Result.andThen]
  simp [go_sem, h5, h6, h3, h4, p1, p2, a1, a2, Result.andThen]
theorem Q14f {ik : IntKind} {t : Nat} (h : KeyT P (.prod (.int ik) (.prod .str .unit)) t) (x y : (Ty.prod (.int ik) (.prod .str .unit)).D) :
  (Op.equal t (keyVal (.prod (.int ik) (.prod .str .unit)) x) (keyVal (.prod (.int ik) (.prod .str .unit)) y)).run P w = .ok ((Ty.prod (.int ik) (.prod .str .unit)).beq x y) w := by
 obtain ⟨f1, f2, fs, h1, h2, h3, h4, h5, h6, h7, h8, hc⟩ := Q9l h
 have rd : ∀ z : (Ty.prod (.int ik) (.prod .str .unit)).D, RD w (fun _ => False) (.prod (.int ik) (.prod .str .unit)) z [.int ik z.1, .string z.2.1] :=
  fun z => ⟨[.int ik z.1], [.string z.2.1], rfl, rfl, [.string z.2.1], [], rfl, rfl, rfl⟩
 exact Qhx (P := P) (w := w) Op.maxDepth (.prod (.int ik) (.prod .str .unit)) t x y _ _ (by simp [Ty.depth, Op.maxDepth]) hc (rd x) (rd y)
theorem Qfs {ik : IntKind} {t : Nat} (h : KeyT P (.prod (.int ik) (.prod .str .unit)) t) (k : (Ty.prod (.int ik) (.prod .str .unit)).D) : ∀ (l : List MapEntry) (i : Nat), (∀ e ∈ l, ∃ k', e.key = keyVal (.prod (.int ik) (.prod .str .unit)) k') →
  ∃ res, (Instr.findAsking t (keyVal (.prod (.int ik) (.prod .str .unit)) k) l i).run P w = .ok res w ∧
    ((res = none ∧ ∀ e ∈ l, e.key ≠ keyVal (.prod (.int ik) (.prod .str .unit)) k) ∨ ∃ j e, l[j]? = some e ∧ e.key = keyVal (.prod (.int ik) (.prod .str .unit)) k ∧ res = some (i + j, e.val))
 | [], i, _ => ⟨none, rfl, .inl ⟨rfl, fun e he => by cases he⟩⟩
 | e :: l, i, hl => by
   obtain ⟨k', hk'⟩ := hl e List.mem_cons_self
   have hq := Q14f (w := w) h k k'
   rw [← hk'] at hq
   cases hb : (Ty.prod (.int ik) (.prod .str .unit)).beq k k' with
   | true =>
     rw [hb] at hq
     refine ⟨some (i, e.val), by simp [Instr.findAsking, hq, Result.andThen, go_sem], .inr ⟨0, e, rfl, ?_, rfl⟩⟩
     rw [hk', (Q16 rfl).1 hb]
   | false =>
     rw [hb] at hq
     obtain ⟨res, h1, h2⟩ := Qfs h k l (i + 1) fun e' he' => hl e' (List.mem_cons_of_mem _ he')
     have hne : e.key ≠ keyVal (.prod (.int ik) (.prod .str .unit)) k := by
      rw [hk']
      intro he
      have := Q92 (kt := .prod (.int ik) (.prod .str .unit)) rfl he
      rw [(Q16 (kt := .prod (.int ik) (.prod .str .unit)) rfl).2 this.symm] at hb
      cases hb
     refine ⟨res, by simp [Instr.findAsking, hq, Result.andThen, go_sem, h1], ?_⟩
     rcases h2 with ⟨h2, h3⟩ | ⟨j, e', g1, g2, g3⟩
     ·refine .inl ⟨h2, fun x hx => ?_⟩
      rcases List.mem_cons.1 hx with rfl | hx
      ·exact hne
      ·exact h3 x hx
     ·exact .inr ⟨j + 1, e', by simpa using g1, g2, by rw [g3, show i + 1 + j = i + (j + 1) by omega]⟩
theorem Q178 {kt : Ty} {t : Nat} (h : KeyT P kt t) (hk : keyTy kt = true) (k : kt.D) (l : List MapEntry) (hl : ∀ e ∈ l, ∃ k', e.key = keyVal kt k') :
  ∃ res, (Instr.findKey t (keyVal kt k) l).run P w = .ok res w ∧ ((res = none ∧ ∀ e ∈ l, e.key ≠ keyVal kt k) ∨ ∃ j e, l[j]? = some e ∧ e.key = keyVal kt k ∧ res = some (j, e.val)) := by
 rcases Qll h hk with ⟨d, h1, h2⟩ | ⟨ik, rfl⟩
 ·rcases findNow_spec (h2 k) l 0 (fun x hx => by obtain ⟨k', e⟩ := hl x hx; rw [e]; exact h2 k') with ⟨g1, g2⟩ | ⟨j, e, g1, g2, g3⟩
  ·exact ⟨none, run_findKey h1 g1, .inl ⟨rfl, g2⟩⟩
  ·exact ⟨_, run_findKey h1 g1, .inr ⟨j, e, g2, g3, by simp⟩⟩
 ·obtain ⟨f1, f2, fs, h1, _⟩ := Q9l h
  cases l with
  | nil => exact ⟨none, by simp [Instr.findKey, run_underlying h1, Instr.findNow, Result.andThen], .inl ⟨rfl, fun e he => by cases he⟩⟩
  | cons e l =>
    obtain ⟨res, g1, g2⟩ := Qfs (w := w) h k (e :: l) 0 hl
    refine ⟨res, ?_, ?_⟩
    ·obtain ⟨k', hk'⟩ := hl e List.mem_cons_self
     have hn : Instr.findNow (.struct fs) (keyVal (.prod (.int ik) (.prod .str .unit)) k) (e :: l) 0 = none := by
      simp [Instr.findNow, Instr.sameNow]
     simp only [Instr.findKey, Sem.run_bind, run_underlying h1, Result.andThen, hn]
     exact g1
    ·rcases g2 with g2 | ⟨j, e', q1, q2, q3⟩
     ·exact .inl g2
     ·exact .inr ⟨j, e', q1, q2, by rw [q3]; simp⟩
theorem Q14g : ∀ {kt : Ty}, keyTy kt = true → ∀ (k : kt.D), (Instr.keyThatStays (keyVal kt k) (keyVal kt k)).run P w = .ok (keyVal kt k) w := by
 intro kt hk k
 have hs : Instr.sameBits 10000 (keyVal kt k) (keyVal kt k) = true := by
  cases kt with
  | int i => simp [keyVal, Instr.sameBits]
  | bool => simp [keyVal, Instr.sameBits]
  | str => simp only [keyVal, Instr.sameBits]; exact (Q7r _ _).2 rfl
  | unit => cases hk
  | slice t => cases hk
  | prod a b =>
    cases a with
    | int i =>
      cases b with
      | prod c d =>
        cases c with
        | str =>
          cases d with
          | unit =>
            have e : ∀ s : BA, (s == s) = true := fun s => (Q7r _ _).2 rfl
            simp [keyVal, Instr.sameBits, e]
          | _ => cases hk
        | _ => cases hk
      | _ => cases hk
    | _ => cases hk
 simp [Instr.keyThatStays, hs]
end
end
end Go.Proofs.YtecnlienmpdlaaaGreat.PM
