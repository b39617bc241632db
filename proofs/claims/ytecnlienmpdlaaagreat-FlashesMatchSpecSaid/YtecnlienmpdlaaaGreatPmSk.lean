import Derived.Test.YtecnlienmpdlaaaGreatSkD
import Derived.Shelf.SlSortCmp.WholeK
import Derived.Shelf.SlSortCmp.NoneTotal
import Derived.Test.YtecnlienmpdlaaaGreatChecked
import Derived.Test.YtecnlienmpdlaaaGreatSkA
import Derived.Test.YtecnlienmpdlaaaGreatSsA
import Derived.Test.YtecnlienmpdlaaaGreatSoA
set_option linter.unusedSimpArgs false
set_option linter.unusedVariables false
namespace Go.Proofs.YtecnlienmpdlaaaGreat.PM
open Go
section
open Go Go.Sort Go.Shelf Go.RowKit Go.Lib
theorem Qas (b o n : Nat) : (Addr.mk b o none).add n = ⟨b, o + n, none⟩ := by
 unfold Addr.add
 split
 ·rename_i h; subst h; rfl
 ·rfl
theorem Qj2 (enc : Value → Value) (off : Nat) (d c : Array Value) : (Go.Sort.putCells enc off d c).size = c.size := by simp [Go.Sort.putCells]
theorem Q17c {α : Type} [Inhabited α] {enc : α → List Value} {K : Nat} {w : World} {b o m : Nat} {d : Array α} {os : Array Obj} (hb : b < w.heap.size) :
  (∀ k, k < w.heap.size → k ≠ b → (sortWorldK enc K w b o m d os).heap[k]? = w.heap[k]?) ∧
  (∀ (arr : Array Value) (T : TypeId) (fr : Nat × Nat), w.heap[b]? = some (Obj.cells arr T fr) → ∃ arr', (sortWorldK enc K w b o m d os).heap[b]? = some (Obj.cells arr' T fr) ∧ arr'.size = arr.size) ∧
  w.heap.size ≤ (sortWorldK enc K w b o m d os).heap.size ∧ Quiet w (sortWorldK enc K w b o m d os) := by
 have hs : (putRowK enc K (Go.Sort.ahead w m) b o d).heap.size = w.heap.size := by unfold putRowK; rw [Go.Sort.size_putRow]; rfl
 refine ⟨fun k hk hne => ?_, fun arr T fr h => ?_, ?_, ⟨rfl, rfl, rfl⟩⟩
 ·unfold sortWorldK
  rw [heap_grow_old _ _ (by rw [hs]; exact hk)]
  show (Go.Sort.mapBlock (Go.Sort.ahead w m) b _).heap[k]? = _
  simp only [Go.Sort.mapBlock, Array.getElem?_modify]
  rw [if_neg (Ne.symm hne)]
  rfl
 ·refine ⟨Go.Sort.putCells id o (flatK enc K d) arr, ?_, Qj2 _ _ _ _⟩
  unfold sortWorldK
  rw [heap_grow_old _ _ (by rw [hs]; exact hb)]
  show (Go.Sort.mapBlock (Go.Sort.ahead w m) b _).heap[b]? = _
  simp only [Go.Sort.mapBlock, Array.getElem?_modify, if_true]
  have : (Go.Sort.ahead w m).heap[b]? = some (Obj.cells arr T fr) := h
  rw [this]
  rfl
 ·unfold sortWorldK
  rw [size_grow, hs]
  exact Nat.le_add_right _ _
theorem Q159 {p : Prov} (h : zeroP p = true) : ∀ q ∈ p, q.1 = 0 := fun q hq => by
 have := List.all_eq_true.1 h q hq
 simpa using this
theorem Qjl {rows : Rows} (h0 : rows 0 = none) : ∀ {p : Prov}, zeroP p = true → okProv rows p = true
 | [], _ => rfl
 | (r, n) :: l, h => by
   have h' := Q159 h
   have hr : r = 0 := h' (r, n) (List.mem_cons_self ..)
   subst hr
   simp only [okProv, h0, Bool.true_and]
   exact Qjl h0 (List.all_eq_true.2 fun q hq => by simpa using h' q (List.mem_cons_of_mem _ hq))
theorem Qjk {rows : Rows} {p : Prov} (h : zeroP p = true) : ProvIn rows p := fun q hq => .inl (Q159 h q hq)
theorem Q105 {P : Program} {g : Nat} {ws : List PV} {n : Nat} {p : Prov} {t : Ty} {l l' : List t.D} (hp : zeroP p = true) (hlen : l'.length = l.length)
  (hcall : ∀ (C : Ctx) (pl : Pl) (us : List Value), pl.Z = C.Z → pl.L = C.L → (∀ b o, pl.loc 1 = some (b, o) → b < C.w0.heap.size) → RowR C.w0 pl (rowsOf [⟨n, Row.arr p t l⟩]) 1 ⟨n, .arr p t l⟩ → VRs C.w0 pl (rowsOf [⟨n, Row.arr p t l⟩]) ws us →
   Calls P g us.toArray C.w0 fun e w' => e = .returned (.tuple #[]) ∧ Quiet C.w0 w' ∧ C.w0.heap.size ≤ w'.heap.size ∧ (∀ k, k < C.w0.heap.size → (∀ b o, pl.loc 1 = some (b, o) → k ≠ b) → w'.heap[k]? = C.w0.heap[k]?) ∧
    (∀ (b : Nat) (arr : Array Value) (T : TypeId) (fr : Nat × Nat), C.w0.heap[b]? = some (Obj.cells arr T fr) → ∃ (arr' : Array Value) (T' : TypeId) (fr' : Nat × Nat), w'.heap[b]? = some (Obj.cells arr' T' fr') ∧ arr'.size = arr.size) ∧
    RowR w' pl (rowsOf [⟨0, Row.arr p t l'⟩]) 1 ⟨0, .arr p t l'⟩) :
  Good P g ws [⟨n, .arr p t l⟩] (fun a b => a = [] ∧ b = [⟨0, .arr p t l'⟩]) := by
 intro C pl us hC hn hz hl hloc Rl hm hok hv
 have r1 : rowsOf [⟨n, Row.arr p t l⟩] 1 = some ⟨n, .arr p t l⟩ := by rw [Qf]; rfl
 have r1' : rowsOf [⟨0, Row.arr p t l'⟩] 1 = some ⟨0, .arr p t l'⟩ := by rw [Qf]; rfl
 have rO' : ∀ i s, rowsOf [⟨0, Row.arr p t l'⟩] i = some s → i = 1 ∧ s = ⟨0, .arr p t l'⟩ := fun i s h => by
  rcases i with _ | _ | i
  ·rw [Q11] at h; cases h
  ·rw [r1'] at h; cases h; exact ⟨rfl, rfl⟩
  ·rw [Qf] at h; simp at h
 have hown := fun b o (h : pl.at 1 b o) => Rl.own 1 _ b o r1 (by intro h; cases h) h
 refine Q1x (hcall C pl us hz hl (fun b o h => (hown b o (.inl h)).1) (Rl.rows 1 _ r1) hv) fun e w' hw => ?_
 obtain ⟨rfl, hq, hsz, hkeep, hblk, hR⟩ := hw
 refine ⟨[], [⟨0, .arr p t l'⟩], [], pl, ⟨rfl, rfl⟩, rfl, ⟨⟨fun s v h => (by cases h), fun r s h => ?_, Q11 [⟨0, Row.arr p t l'⟩], fun r r' s s' b o o' hr _ hr' _ _ _ => ?_, fun r s b o hr hlv hlo => ?_, rfl⟩, hz, hl, Nat.zero_le _, ?_, hq, fun b hb hG => ?_, hblk, fun i h1 h2 => ?_⟩, fun i s h => ?_, trivial, rfl⟩
 ·obtain ⟨rfl, rfl⟩ := rO' r s h; exact hR
 ·rw [(rO' r s hr).1, (rO' r' s' hr').1]
 ·obtain ⟨rfl, rfl⟩ := rO' r s hr
  obtain ⟨q1, q2, q3⟩ := hown b o hlo
  exact ⟨by omega, q2, q3⟩
 ·rw [hC.size]; exact hsz
 ·rw [hC.size] at hb
  refine hkeep b hb (fun b' o' hlo he => ?_)
  subst he
  obtain ⟨q1, q2, q3⟩ := hown b o' (.inl hlo)
  rw [hC.size] at q3
  rcases q3 with q3 | q3
  ·omega
  ·exact hG q3
 ·have hn1 : C.n = 1 := hn
  have : i = 1 := by omega
  subst this
  exact ⟨_, r1', fun _ => (hloc 1 h1 h2).symm⟩
 ·obtain ⟨rfl, rfl⟩ := rO' i s h
  exact Qjl (Q11 _) hp
theorem Qmg {w w' : World} {pl : Pl} {n n' : Nat} {p : Prov} {t : Ty} {l l' : List t.D} (hp : zeroP p = true) (hsz : w.heap.size ≤ w'.heap.size) {b : Nat} (h : Safe w pl (rowsOf [⟨n, Row.arr p t l⟩]) p b) :
  Safe w' pl (rowsOf [⟨n', Row.arr p t l'⟩]) p b ∧ ∀ b0 o, pl.loc 1 = some (b0, o) → b ≠ b0 := by
 obtain ⟨h1, h2, h3⟩ := h
 have r1 : rowsOf [⟨n, Row.arr p t l⟩] 1 = some ⟨n, .arr p t l⟩ := by rw [Qf]; rfl
 have hno : ∀ o, ¬ pl.at 1 b o := fun o ha => by
  obtain ⟨q, hq, e⟩ := h3 1 _ o r1 (by intro h; cases h) ha
  rw [Q159 hp q hq] at e
  cases e
 refine ⟨⟨by omega, h2, fun r s o hr hl ha => ?_⟩, fun b0 o hlo e => ?_⟩
 ·rcases r with _ | _ | i
  ·rw [Q11] at hr; cases hr
  ·exact absurd ha (hno o)
  ·rw [Qf] at hr; simp at hr
 ·subst e; exact hno o (.inl hlo)
def s1W {α : Type} [Inhabited α] (enc : α → Value) (w : World) (m b o : Nat) (d : Array α) (os : Array Obj) : World := grow (putRow enc (Go.Sort.ahead w m) b o d) os
theorem Q17a {α : Type} [Inhabited α] {enc : α → Value} {w : World} {b o m : Nat} {d : Array α} {os : Array Obj} (hb : b < w.heap.size) :
  (∀ k, k < w.heap.size → k ≠ b → (s1W enc w m b o d os).heap[k]? = w.heap[k]?) ∧
  (∀ (arr : Array Value) (T : TypeId) (fr : Nat × Nat), w.heap[b]? = some (Obj.cells arr T fr) → ∃ arr', (s1W enc w m b o d os).heap[b]? = some (Obj.cells arr' T fr) ∧ arr'.size = arr.size) ∧
  w.heap.size ≤ (s1W enc w m b o d os).heap.size ∧ Quiet w (s1W enc w m b o d os) := by
 have hs : (putRow enc (Go.Sort.ahead w m) b o d).heap.size = w.heap.size := by rw [Go.Sort.size_putRow]; rfl
 refine ⟨fun k hk hne => ?_, fun arr T fr h => ?_, ?_, ⟨rfl, rfl, rfl⟩⟩
 ·unfold s1W
  rw [heap_grow_old _ _ (by rw [hs]; exact hk)]
  show (Go.Sort.mapBlock (Go.Sort.ahead w m) b _).heap[k]? = _
  simp only [Go.Sort.mapBlock, Array.getElem?_modify]
  rw [if_neg (Ne.symm hne)]
  rfl
 ·refine ⟨Go.Sort.putCells enc o d arr, ?_, by simp [Go.Sort.putCells]⟩
  unfold s1W
  rw [heap_grow_old _ _ (by rw [hs]; exact hb)]
  show (Go.Sort.mapBlock (Go.Sort.ahead w m) b _).heap[b]? = _
  simp only [Go.Sort.mapBlock, Array.getElem?_modify, if_true]
  have : (Go.Sort.ahead w m).heap[b]? = some (Obj.cells arr T fr) := h
  rw [this]
  rfl
 ·unfold s1W
  rw [size_grow, hs]
  exact Nat.le_add_right _ _
theorem Q14o {t : Ty} {α : Type} [Inhabited α] (enc : α → Value) (toA : t.D → α) (f : Nat) (srt : List t.D → List t.D) (hz1 : t.size = 1) (hrd : ∀ w S x es, RD w S t x es ↔ es = [enc (toA x)]) (hperm : ∀ l, (srt l).Perm l) (srtA : List α → List α) (hA : ∀ l, srtA (l.map toA) = (srt l).map toA)
  (hnone : ∀ A c w, Calls Tryz.prog f #[.slice A 0 c] w fun e w' => e = .returned (.tuple #[]) ∧ w' = w)
  (hcall : ∀ (b o c : Nat) (zs : List α) (w : World), Holds enc w b o zs.toArray → b < w.heap.size → zs.length < 4611686018427387904 → Calls Tryz.prog f #[.slice (some ⟨b, o, none⟩) zs.length c] w fun e w' => e = .returned (.tuple #[]) ∧ ∃ n os, w' = grow (putRow enc (Go.Sort.ahead w n) b o (srtA zs).toArray) os)
  (n : Nat) (p : Prov) (hp : zeroP p = true) (l : List t.D) (hlim : l.length < 4611686018427387904) : Good Tryz.prog f [.rw 1] [⟨n, .arr p t l⟩] (fun a b => a = [] ∧ b = [⟨0, .arr p t (srt l)⟩]) := by
 have hlen : (srt l).length = l.length := (hperm l).length_eq
 refine Q105 hp hlen fun C pl us hz hl hown hrow hv => ?_
 obtain ⟨u1, us1, rfl, h1, rfl⟩ := hv
 have r1 : rowsOf [⟨n, Row.arr p t l⟩] 1 = some ⟨n, .arr p t l⟩ := by rw [Qf]; rfl
 obtain ⟨A, cp, rfl, hnc, hAA⟩ := h1.2 n p t l r1
 by_cases hl0 : l = []
 ·subst hl0
  refine Q1x (hnone A cp C.w0) fun e w' hw => ?_
  obtain ⟨rfl, rfl⟩ := hw
  refine ⟨rfl, Quiet.refl _, Nat.le_refl _, fun _ _ _ => rfl, fun b arr T fr h => ⟨arr, T, fr, h, rfl⟩, ?_⟩
  have e0 : srt [] = [] := List.length_eq_zero_iff.1 hlen
  rw [e0]
  simp only [RowR] at hrow ⊢
  refine ⟨Qjk hp, ?_⟩
  cases hlo : pl.loc 1 with
  | none => simp
  | some bo =>
    rw [hlo] at hrow
    simp only
    obtain ⟨_, arr, T, fr, e1, e2, e3, e4⟩ := hrow
    exact ⟨arr, T, fr, e1, e2, e3, fun _ i x hx => by simp at hx⟩
 ·have hpos : 0 < l.length := List.length_pos_iff.2 hl0
  obtain ⟨b, o, hlo, rfl, arr, T, fr, hheap, hsz⟩ := hAA (Nat.lt_of_lt_of_le hpos hnc)
  simp only [RowR, hlo] at hrow
  obtain ⟨_, arr', T', fr', e1, e2, e3, e4⟩ := hrow
  rw [hheap] at e1
  cases e1
  have hb : b < C.w0.heap.size := hown b o hlo
  have e4 := e4 (Qjl (Q11 _) hp)
  obtain ⟨zs, hzs⟩ : ∃ zs : List α, zs = l.map toA := ⟨_, rfl⟩
  have hzl : zs.length = l.length := by rw [hzs, List.length_map]
  have hH : Holds enc C.w0 b o zs.toArray := by
   intro i hi
   have hi : i < zs.length := by simpa using hi
   have hi' : i < l.length := by omega
   obtain ⟨es, g1, g2⟩ := e4 i l[i] (List.getElem?_eq_getElem hi')
   have g3 := (hrd _ _ _ _).1 g1
   have hdi : enc zs.toArray[i]! = enc (toA l[i]) := by
    rw [getElem!_pos _ _ (by simpa using hi)]
    subst hzs
    simp only [List.getElem_toArray, List.getElem_map]
   rw [hdi]
   constructor
   ·have := g2 0 (enc (toA l[i])) (by rw [g3]; rfl)
    rw [Qas, hz1] at this
    simpa using this
   ·rw [hz1] at e2
    simp only [World.frozen?, hheap]
    rcases e3.un with e | e
    ·simp; intro q; omega
    ·simp; intro q; omega
  have hc := hcall b o cp zs C.w0 hH hb (by rw [hzl]; exact hlim)
  rw [hzl, hzs, hA] at hc
  rw [Nat.zero_mul, Nat.add_zero]
  refine Q1x hc fun e w' hw => ?_
  obtain ⟨rfl, m, os, rfl⟩ := hw
  obtain ⟨w1, w2, w3, w4⟩ := Q17a (enc := enc) (o := o) (m := m) (d := ((srt l).map toA).toArray) (os := os) hb
  refine ⟨rfl, w4, w3, fun k hk hne => w1 k hk (hne b o hlo), fun b' arr' T' fr' h => ?_, ?_⟩
  ·by_cases hbb : b' = b
   ·subst hbb
    obtain ⟨arr2, q1, q2⟩ := w2 arr' T' fr' h
    exact ⟨arr2, T', fr', q1, q2⟩
   ·have hlt : b' < C.w0.heap.size := (Array.getElem?_eq_some_iff.1 h).1
    exact ⟨arr', T', fr', (w1 b' hlt hbb).trans h, rfl⟩
  ·simp only [RowR, hlo]
   refine ⟨Qjk hp, ?_⟩
   obtain ⟨arr2, q1, q2⟩ := w2 arr T fr hheap
   have hsz2 : ((srt l).map toA).toArray.size = zs.toArray.size := by simp [hzl, hlen]
   have hH2 := holds_grow enc (putRow enc (Go.Sort.ahead C.w0 m) b o ((srt l).map toA).toArray) os b o _ (by rw [Go.Sort.size_putRow]; exact hb) (holds_putRow enc (Go.Sort.ahead C.w0 m) b o _ ((srt l).map toA).toArray (holds_ahead enc C.w0 m b o _ hH) hsz2)
   refine ⟨arr2, T, fr, q1, by rw [hlen, q2]; exact e2, by rw [q2]; exact e3, fun _ i x hx => ?_⟩
   have hi : i < (srt l).length := (List.getElem?_eq_some_iff.1 hx).1
   refine ⟨[enc (toA x)], (hrd _ _ _ _).2 rfl, fun j v hv => ?_⟩
   have hj : j = 0 := by
    have := (List.getElem?_eq_some_iff.1 hv).1
    simp at this; exact this
   subst hj
   have := (hH2 i (by simpa using hi)).1
   rw [Qas, hz1, Nat.mul_one, Nat.add_zero]
   have hxx : enc ((srt l).map toA).toArray[i]! = enc (toA x) := by
    rw [getElem!_pos _ _ (by simpa using hi)]
    have := (List.getElem?_eq_some_iff.1 hx).2
    simp only [List.getElem_toArray, List.getElem_map]
    rw [← this]
   rw [hxx] at this
   have hv' : v = enc (toA x) := by simpa using hv.symm
   rw [hv']
   exact this
section
variable {t : Ty}
theorem Q14r {ρ : Ren} (L : SlLaysF0.n6 Tryz.prog ρ) (c : Nat) (hz0 : 0 < t.size) (key : t.D → Int) (cf : t.D → t.D → Int) (hcal : Q1o Tryz.prog (ρ.f 6))
  (aE : ∀ w, (isAgg (ρ.t 24)).run Tryz.prog w = .ok true w) (zE : ∀ w, (Go.sizeOf (ρ.t 24)).run Tryz.prog w = .ok t.size w)
  (hcf : ∀ x y, cf x y < 0 ↔ key x < key y) (ec : ∀ args w, (callFunc c args).run Tryz.prog w = .ok (.enter c args) w)
  (hcmp : ∀ (w : World) (S : Nat → Prop) (x y : t.D) (es fs : List Value), RD w S t x es → RD w S t y fs → ∀ W : World, Calls Tryz.prog c #[.agg es.toArray, .agg fs.toArray] W fun e w' => e = .returned (.int .i64 (cf x y)) ∧ ∃ q os', w' = grow (W.drewN q) os') :
  ExtOk Tryz.prog (ρ.f 6) (skSpec t c key) := by
 refine ⟨hcal, fun ws rs res rout hspec => ?_⟩
 unfold skSpec at hspec
 split at hspec
 ·rename_i g n p t' l
  split at hspec
  ·rename_i ht
   subst ht
   cases hcond : (g == c) && (zeroP p && skOk key l) with
   | false => simp only [hcond] at hspec; cases hspec
   | true =>
     simp only [hcond, cond_true, Option.some.injEq, Prod.mk.injEq] at hspec
     obtain ⟨rfl, rfl⟩ := hspec
     simp only [skOk, Bool.and_eq_true, beq_iff_eq, decide_eq_true_eq] at hcond
     obtain ⟨rfl, hp, hnd, hlim⟩ := hcond
     have hnd := Q6k.1 hnd
     have hlen : (skL key l).length = l.length := (Qk key l).length_eq
     refine Q105 hp hlen fun C pl us hz hl hown hrow hv => ?_
     obtain ⟨u1, us1, rfl, h1, u2, us2, rfl, h2, rfl⟩ := hv
     have r1 : rowsOf [⟨n, Row.arr p t' l⟩] 1 = some ⟨n, .arr p t' l⟩ := by rw [Qf]; rfl
     obtain ⟨A, cp, rfl, hnc, hA⟩ := h1.2 n p t' l r1
     obtain ⟨cs, rfl, hcs⟩ := h2
     have hcs' : cs = #[] := by
      have : cs.toList = [] := hcs
      rw [← Array.toArray_toList (xs := cs), this]
     subst hcs'
     by_cases hl0 : l = []
     ·subst hl0
      have hcall := Go.Proofs.AnyF.slices_SortFunc_none L A cp (.func (.func g) #[] #[]) C.w0
      refine Q1x hcall fun e w' hw => ?_
      obtain ⟨rfl, rfl⟩ := hw
      refine ⟨rfl, Quiet.refl _, Nat.le_refl _, fun _ _ _ => rfl, fun b arr T fr h => ⟨arr, T, fr, h, rfl⟩, ?_⟩
      have e0 : skL key ([] : List t'.D) = [] := rfl
      rw [e0]
      simp only [RowR] at hrow ⊢
      refine ⟨Qjk hp, ?_⟩
      cases hlo : pl.loc 1 with
      | none => simp
      | some bo =>
        rw [hlo] at hrow
        simp only
        obtain ⟨_, arr, T, fr, e1, e2, e3, e4⟩ := hrow
        exact ⟨arr, T, fr, e1, e2, e3, fun _ i x hx => by simp at hx⟩
     ·have hpos : 0 < l.length := List.length_pos_iff.2 hl0
      have hcp : 0 < cp := by omega
      obtain ⟨b, o, hlo, rfl, arr, T, fr, hheap, hsz⟩ := hA hcp
      simp only [RowR, hlo] at hrow
      obtain ⟨_, arr', T', fr', e1, e2, e3, e4⟩ := hrow
      rw [hheap] at e1
      cases e1
      have hb : b < C.w0.heap.size := hown b o hlo
      obtain ⟨S, hS⟩ : ∃ S, S = Safe C.w0 pl (rowsOf [⟨n, Row.arr p t' l⟩]) p := ⟨_, rfl⟩
      have e4 := e4 (Qjl (Q11 _) hp)
      rw [← hS] at e4
      let α := { y : t'.D × List Value // RD C.w0 S t' y.1 y.2 }
      have hex : ∀ i : Fin l.length, ∃ y : α, y.1.1 = l[i] ∧ Q1e C.w0 ⟨b, o + i.1 * t'.size, none⟩ y.1.2 := fun i => by
       obtain ⟨es, g1, g2⟩ := e4 i.1 l[i] (List.getElem?_eq_getElem i.2)
       exact ⟨⟨(l[i], es), g1⟩, rfl, g2⟩
      obtain ⟨yf, hyf⟩ : ∃ yf : Fin l.length → α, ∀ i, (yf i).1.1 = l[i] ∧ Q1e C.w0 ⟨b, o + i.1 * t'.size, none⟩ (yf i).1.2 := ⟨fun i => (hex i).choose, fun i => (hex i).choose_spec⟩
      letI : Inhabited α := ⟨yf ⟨0, hpos⟩⟩
      let enc : α → List Value := fun y => y.1.2
      let cfA : α → α → Int := fun x y => cf x.1.1 y.1.1
      obtain ⟨d, hd⟩ : ∃ d : Array α, d = Array.ofFn yf := ⟨_, rfl⟩
      have hds : d.size = l.length := by rw [hd]; simp
      have hdi : ∀ i (h : i < l.length), d[i]! = yf ⟨i, h⟩ := fun i h => by
       rw [getElem!_pos _ _ (by rw [hds]; exact h)]
       subst hd
       simp
      have hdl : d.toList.map (fun y => y.1.1) = l := by
       apply List.ext_getElem
       ·simp [hds]
       ·intro i h1 h2
        have hi : i < l.length := h2
        rw [List.getElem_map, Array.getElem_toList]
        have := hdi i hi
        rw [getElem!_pos _ _ (by rw [hds]; exact hi)] at this
        rw [this]
        exact (hyf ⟨i, hi⟩).1
      have hk : ∀ x : α, (enc x).length = t'.size := fun x => Q37 x.2
      have h1c : ∀ x : α, ∀ v ∈ enc x, v.oneCell' = true := fun x => Q9o x.2
      have hlt : ∀ x y : α, ltOf cfA x y = decide (key x.1.1 < key y.1.1) := fun x y => by
       unfold ltOf
       rw [decide_eq_decide]
       exact hcf _ _
      have hO : SWO (ltOf cfA) := {
       irrefl := fun x => by rw [hlt]; simp
       trans := fun x y z a1 a2 => by rw [hlt] at *; simp at *; omega
       ntrans := fun x y z a1 a2 => by rw [hlt] at *; simp at *; omega }
      have hH : HoldsK enc t'.size C.w0 b o d := by
       intro j hj
       have hj' := hj
       rw [size_flatK, hds] at hj
       have hi : j / t'.size < l.length := (Nat.div_lt_iff_lt_mul hz0).2 hj
       have g := (hyf ⟨j / t'.size, hi⟩).2
       rw [get_flatK _ _ _ _ (by rw [hds]; exact hj), hdi _ hi]
       have hr : j % t'.size < t'.size := Nat.mod_lt _ hz0
       have hgl : ((yf ⟨j / t'.size, hi⟩).1.2).length = t'.size := hk _
       constructor
       ·have := g (j % t'.size) _ (List.getElem?_eq_getElem (by rw [hgl]; exact hr))
        rw [Qas] at this
        have ea : o + j / t'.size * t'.size + j % t'.size = o + j := by
         have := Nat.div_add_mod' j t'.size
         omega
        simp only [ea] at this
        rw [show enc (yf ⟨j / t'.size, hi⟩) = (yf ⟨j / t'.size, hi⟩).1.2 from rfl, getElem!_pos _ _ (by rw [hgl]; exact hr)]
        exact this
       ·simp only [World.frozen?, hheap]
        have e2' : o + l.length * t'.size ≤ arr.size := e2
        rcases e3.un with e | e
        ·simp; intro q; omega
        ·simp; intro q; omega
      have hcall := AnyQ.slices_SortFunc_eq L t'.size aE zE enc hk h1c cfA hO g #[] b o cp d C.w0 ec (fun m os dk hs x y => hcmp C.w0 S x.1.1 y.1.1 x.1.2 y.1.2 x.2 y.2 _) hH hb (by rw [hds]; exact hlim)
      rw [hds] at hcall
      have hA' : Value.slice (some ⟨b, o + 0 * t'.size, none⟩) l.length cp = .slice (some ⟨b, o, none⟩) l.length cp := by rw [Nat.zero_mul, Nat.add_zero]
      rw [hA']
      have hps := Go.Sort.pdq_sorts (ltOf cfA) hO d 0 d.size (Lib.bitLen d.size) true true (Nat.zero_le _) (Nat.le_refl _) (Or.inl rfl)
      rw [hds] at hps
      obtain ⟨e, he⟩ : ∃ e, e = pdq (ltOf cfA) d 0 l.length (Lib.bitLen l.length) true true := ⟨_, rfl⟩
      rw [← he] at hps hcall
      have hes : e.size = l.length := hps.1.1.trans hds
      have hpm : e.toList.Perm d.toList := by
       have h3 := hps.1.2.2
       have x1 : e.extract 0 l.length = e := by rw [← hes, Array.extract_size]
       have x2 : d.extract 0 l.length = d := by rw [← hds, Array.extract_size]
       rw [x1, x2] at h3
       exact h3
      have hel : skL key l = e.toList.map (fun y => y.1.1) := by
       have p1 : (e.toList.map fun y => y.1.1).Perm l := by
        have := hpm.map (fun y : α => y.1.1)
        rwa [hdl] at this
       refine Q3i key ((Qk key l).trans p1.symm) (((Qk key l).map key).nodup_iff.2 hnd) (Q5t key l) ?_
       rw [List.pairwise_iff_getElem]
       intro i j hi hj hij
       rw [List.length_map, Array.length_toList] at hi hj
       have h2 := hps.2 i j (Nat.zero_le _) hij (by rw [← hes]; exact hj)
       rw [hlt, getElem!_pos e i hi, getElem!_pos e j hj, decide_eq_false_iff_not] at h2
       simp only [List.getElem_map, Array.getElem_toList]
       omega
      refine Q1x hcall fun r w' hw => ?_
      obtain ⟨rfl, m, os, rfl⟩ := hw
      obtain ⟨w1, w2, w3, w4⟩ := Q17c (enc := enc) (K := t'.size) (o := o) (m := m) (d := e) (os := os) hb
      refine ⟨rfl, w4, w3, fun k hk hne => w1 k hk (hne b o hlo), fun b' arr' T' fr' h => ?_, ?_⟩
      ·by_cases hbb : b' = b
       ·subst hbb
        obtain ⟨arr2, q1, q2⟩ := w2 arr' T' fr' h
        exact ⟨arr2, T', fr', q1, q2⟩
       ·have hlt : b' < C.w0.heap.size := (Array.getElem?_eq_some_iff.1 h).1
        exact ⟨arr', T', fr', by rw [w1 b' hlt hbb]; exact h, rfl⟩
      ·simp only [RowR, hlo]
       refine ⟨Qjk hp, ?_⟩
       obtain ⟨arr2, q1, q2⟩ := w2 arr T fr hheap
       have hH2 := holdsK_sortWorldK_c enc t'.size C.w0 b o d e m os hH hb (hes.trans hds.symm)
       refine ⟨arr2, T, fr, q1, by rw [hlen, q2]; exact e2, by rw [q2]; exact e3, fun _ i x hx => ?_⟩
       have hi : i < e.size := by
        have := (List.getElem?_eq_some_iff.1 hx).1
        rw [hlen] at this
        rw [hes]; exact this
       have hx' : x = (e[i]!).1.1 := by
        rw [hel, List.getElem?_map, Array.getElem?_toList, Array.getElem?_eq_getElem hi] at hx
        rw [getElem!_pos e i hi]
        simpa using hx.symm
       refine ⟨(e[i]!).1.2, ?_, fun j v hv => ?_⟩
       ·rw [hx']
        refine Qn (fun b' hS' => ?_) (fun b' hS' => ?_) (e[i]!).2
        ·rw [hS] at hS'
         exact (Qmg hp w3 hS').1
        ·rw [hS] at hS'
         exact w1 b' hS'.1 ((Qmg (w' := C.w0) (n' := 0) (l' := l) hp (Nat.le_refl _) hS').2 b o hlo)
       ·have hjlt : j < t'.size := by
         have := (List.getElem?_eq_some_iff.1 hv).1
         rwa [show ((e[i]!).1.2).length = t'.size from hk _] at this
        have := (hH2.cell (i := i) (c := j) hi hjlt).1
        rw [Qas, this]
        rw [List.getElem!_eq_getElem?_getD]
        have hv' : (enc (e[i]!))[j]? = some v := hv
        rw [hv']; rfl
  ·cases hspec
 ·cases hspec
end
end
section
open Go Go.Sort Go.Shelf Go.RowKit Go.Lib
theorem Qss {w : World} {S : Nat → Prop} {x : FoundT.D} {es : List Value} (h : RD w S FoundT x es) : ∃ a b s d e v, es = [.int .i64 a, .int .i64 b, .bool d, .string s, .int .i64 (keyIx x), .bool e, v] := by
 obtain ⟨c1, c2, rfl, h1, h2⟩ := h
 obtain ⟨c3, c4, rfl, ⟨c5, c6, rfl, h5, c7, c8, rfl, h7, c9, c10, rfl, h9, c11, c12, rfl, h11, c13, c14, rfl, h13, c15, c16, rfl, h15, h16⟩, h4⟩ := h2
 obtain ⟨A, cap, rfl, _⟩ := h15
 simp only [RD] at h1 h4 h5 h7 h9 h11 h13 h16
 subst h1 h4 h5 h7 h9 h11 h13 h16
 exact ⟨_, _, _, _, _, _, rfl⟩
theorem Q14e {w : World} {S : Nat → Prop} {x : VersT.D} {es : List Value} (h : RD w S VersT x es) : ∃ b d e, es = [.int .i64 x.1, .int .i64 b, .bool d, .bool e] := by
 obtain ⟨c1, c2, rfl, h1, c3, c4, rfl, h3, c5, c6, rfl, h5, c7, c8, rfl, h7, h8⟩ := h
 simp only [RD] at h1 h3 h5 h7 h8
 subst h1 h3 h5 h7 h8
 exact ⟨_, _, _, rfl⟩
set_option maxHeartbeats 1000000 in
theorem Q1hd (a b a' b' x y : Int) (s s' : BA) (d d' e e' : Bool) (v v' : Value) (W : World) :
  Calls Tryz.prog 136 #[.agg #[.int .i64 a, .int .i64 b, .bool d, .string s, .int .i64 x, .bool e, v], .agg #[.int .i64 a', .int .i64 b', .bool d', .string s', .int .i64 y, .bool e', v']] W fun e w' => e = .returned (.int .i64 (Lib.compareInt x y)) ∧ ∃ q os', w' = grow (W.drewN q) os' := by
 have hcon := fun w => Tryz.cmpInt x y w
 generalize Lib.compareInt x y = r at hcon ⊢
 go_enter Tryz.func136, Tryz.ntmps136
 go_wp2_with (go_at_call 115; refine (hcon _).mono ?_; rintro e w' ⟨rfl, rfl⟩)
 go_ret
 exact ⟨rfl, 0, _, by rw [alloc_eq_grow, alloc_eq_grow, grow_grow]; rfl⟩
set_option maxHeartbeats 1000000 in
theorem Q1c7 (a b a' b' : Int) (d d' e e' : Bool) (W : World) :
  Calls Tryz.prog 120 #[.agg #[.int .i64 a, .int .i64 b, .bool d, .bool e], .agg #[.int .i64 a', .int .i64 b', .bool d', .bool e']] W fun e w' => e = .returned (.int .i64 (Lib.compareInt a' a)) ∧ ∃ q os', w' = grow (W.drewN q) os' := by
 have hcon := fun w => Tryz.cmpInt a' a w
 generalize Lib.compareInt a' a = r at hcon ⊢
 go_enter Tryz.func120, Tryz.ntmps120
 go_wp2_with (go_at_call 115; refine (hcon _).mono ?_; rintro e w' ⟨rfl, rfl⟩)
 go_ret
 exact ⟨rfl, 0, _, by rw [alloc_eq_grow, alloc_eq_grow, grow_grow]; rfl⟩
theorem Q7s (x y : Int) : Lib.compareInt x y < 0 ↔ x < y := by
 unfold Lib.compareInt
 (repeat' split) <;> omega
theorem Qtm : ExtOk Tryz.prog 135 (skSpec FoundT 136 keyIx) := by
 refine Q14r (t := FoundT) Tryz.sortIx 136 (by decide) keyIx (fun x y => Lib.compareInt (keyIx x) (keyIx y)) ⟨Tryz.f135, Option.get Tryz.f135.body (by kernel_rfl), by kernel_rfl, (Option.some_get _).symm, ne_of_beq_false (by kernel_rfl)⟩ (fun w => by kernel_rfl) (fun w => by kernel_rfl) (fun x y => Q7s _ _) (enters_of Tryz.func136 (by kernel_rfl) rfl) fun w S x y es fs h1 h2 W => ?_
 obtain ⟨a, b, s, d, e, v, rfl⟩ := Qss h1
 obtain ⟨a', b', s', d', e', v', rfl⟩ := Qss h2
 exact Q1hd a b a' b' (keyIx x) (keyIx y) s s' d d' e e' v v' W
theorem Qop : ExtOk Tryz.prog 119 (skSpec VersT 120 keyGen) := by
 refine Q14r (t := VersT) Tryz.sortGen 120 (by decide) keyGen (fun x y => Lib.compareInt y.1 x.1) ⟨Tryz.f119, Option.get Tryz.f119.body (by kernel_rfl), by kernel_rfl, (Option.some_get _).symm, ne_of_beq_false (by kernel_rfl)⟩ (fun w => by kernel_rfl) (fun w => by kernel_rfl) (fun x y => ?_) (enters_of Tryz.func120 (by kernel_rfl) rfl) fun w S x y es fs h1 h2 W => ?_
 ·have := Q7s y.1 x.1
  unfold keyGen
  rw [this]
  constructor
  ·intro h; exact Int.neg_lt_neg h
  ·intro h; exact Int.lt_of_neg_lt_neg h
 ·obtain ⟨b, d, e, rfl⟩ := Q14e h1
  obtain ⟨b', d', e', rfl⟩ := Q14e h2
  exact Q1c7 _ b _ b' d d' e e' W
end
section
open Go Go.Sort Go.Shelf Go.RowKit Go.Lib
theorem Qlm : ∀ {l m : List (List UInt8)}, l.Perm m → l.Pairwise (fun a b => ¬ b < a) → m.Pairwise (fun a b => ¬ b < a) → l = m
 | [], m, hp, _, _ => (List.Perm.nil_eq hp)
 | x :: l, [], hp, _, _ => by have := hp.length_eq; simp at this
 | x :: l, y :: m, hp, h1, h2 => by
   rw [List.pairwise_cons] at h1 h2
   have e : x = y := by
    have hx := hp.mem_iff.1 (List.mem_cons_self (a := x) (l := l))
    have hy := hp.mem_iff.2 (List.mem_cons_self (a := y) (l := m))
    rcases List.mem_cons.1 hx with h | h
    ·exact h
    ·rcases List.mem_cons.1 hy with h' | h'
     ·exact h'.symm
     ·have a1 := h1.1 y h'
      have a2 := h2.1 x h
      exact List.le_antisymm (List.not_lt.1 a1) (List.not_lt.1 a2)
   subst e
   rw [Qlm (List.Perm.cons_inv hp) h1.2 h2.2]
theorem Q1dy (x : BA) : (⟨x.toList.toArray⟩ : BA) = x := by
 rw [ByteArray.toList_eq]
theorem Q17d (l : List BA) : ((l.map ByteArray.toList).mergeSort fun x y => decide (x ≤ y)) = (ssL l).map ByteArray.toList := by
 refine Qlm ((List.mergeSort_perm _ _).trans ((Q8p l).map _).symm) ?_ ?_
 ·have h := List.pairwise_mergeSort (le := fun x y : List UInt8 => decide (x ≤ y)) (fun a b c h1 h2 => by
   simp only [decide_eq_true_eq] at *
   exact List.le_trans h1 h2) (fun a b => by
   simp only [Bool.or_eq_true, decide_eq_true_eq]
   exact List.le_total a b) (l.map ByteArray.toList)
  exact h.imp fun {a b} h => by
   simp only [decide_eq_true_eq] at h
   exact List.not_lt.2 h
 ·rw [List.pairwise_map]
  exact (Qp1 l).imp fun {a b} h => by
   unfold ltS at h
   rw [bytesLess_eq, decide_eq_false_iff_not] at h
   exact h
theorem Q1dz : ExtOk Tryz.prog 122 ssSpec := by
 refine ⟨⟨Tryz.f122, Option.get Tryz.f122.body (by kernel_rfl), by kernel_rfl, (Option.some_get _).symm, ne_of_beq_false (by kernel_rfl)⟩, fun ws rs res rout hspec => ?_⟩
 unfold ssSpec at hspec
 split at hspec
 ·rename_i n p t l
  split at hspec
  ·rename_i ht
   subst ht
   simp only [castS] at hspec
   cases hcond : zeroP p && ssOk l with
   | false => simp only [hcond] at hspec; cases hspec
   | true =>
     simp only [hcond, cond_true, Option.some.injEq, Prod.mk.injEq] at hspec
     obtain ⟨rfl, rfl⟩ := hspec
     simp only [ssOk, Bool.and_eq_true, decide_eq_true_eq] at hcond
     exact Q14o (t := .str) encStr ByteArray.toList 122 ssL rfl (fun w S x es => by
      show es = [Value.string x] ↔ es = [Value.string ⟨x.toList.toArray⟩]
      rw [Q1dy]) Q8p (fun l => l.mergeSort fun x y => decide (x ≤ y)) Q17d (fun A c w => Go.Proofs.Any.slices_Sort_string_none Tryz.sortStr A c w) (fun b o c zs w => Go.Proofs.Any.slices_Sort_string Tryz.sortStr b o c zs w) n p hcond.1 l hcond.2
  ·cases hspec
 ·cases hspec
end
section
open Go Go.Sort
theorem Qtz : ExtOk Tryz.prog 117 Q3q := by
 refine ⟨⟨Tryz.f117, Option.get Tryz.f117.body (by kernel_rfl), by kernel_rfl, (Option.some_get _).symm, ne_of_beq_false (by kernel_rfl)⟩, fun ws rs res rout hspec => ?_⟩
 unfold Q3q at hspec
 split at hspec
 ·rename_i n t l
  split at hspec
  ·rename_i ht
   subst ht
   simp only [castI] at hspec
   cases hcond : Q5u l with
   | false => simp only [hcond] at hspec; cases hspec
   | true =>
     simp only [hcond, cond_true, Option.some.injEq, Prod.mk.injEq] at hspec
     obtain ⟨rfl, rfl⟩ := hspec
     simp only [Q5u, decide_eq_true_eq] at hcond
     exact Q14o (t := .int .i64) (Value.int .i64) id 117 sortI rfl (fun w S x es => Iff.rfl) Q6r sortI (fun l => by rw [List.map_id, List.map_id]) (fun A c w => Go.Proofs.Any.slices_Sort_int_none Tryz.sortIn A c w) (fun b o c zs w => Go.Proofs.Any.slices_Sort_int Tryz.sortIn b o c zs w) n [] rfl l hcond
  ·cases hspec
 ·cases hspec
end
end Go.Proofs.YtecnlienmpdlaaaGreat.PM
