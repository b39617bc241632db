/- The small machine PM: slices.Sort at strings. -/
import Derived.Test.YtecnlienmpdlaaaPmSk
import Derived.Test.YtecnlienmpdlaaaSsD
import Derived.Test.YtecnlienmpdlaaaSsA
set_option linter.unusedSimpArgs false
set_option linter.unusedVariables false
namespace Go.Proofs.Ytecnlienmpdlaaa.PM
open Go Go.Sort Go.Shelf Go.RowKit Go.Lib
theorem le_unique : ∀ {l m : List (List UInt8)}, l.Perm m → l.Pairwise (fun a b => ¬ b < a) → m.Pairwise (fun a b => ¬ b < a) → l = m
  | [], m, hp, _, _ => (List.Perm.nil_eq hp)
  | x :: l, [], hp, _, _ => by have := hp.length_eq; simp at this
  | x :: l, y :: m, hp, h1, h2 => by
    rw [List.pairwise_cons] at h1 h2
    have e : x = y := by
      have hx := hp.mem_iff.1 (List.mem_cons_self (a := x) (l := l))
      have hy := hp.mem_iff.2 (List.mem_cons_self (a := y) (l := m))
      rcases List.mem_cons.1 hx with h | h
      · exact h
      · rcases List.mem_cons.1 hy with h' | h'
        · exact h'.symm
        · have a1 := h1.1 y h'
          have a2 := h2.1 x h
          exact List.le_antisymm (List.not_lt.1 a1) (List.not_lt.1 a2)
    subst e
    rw [le_unique (List.Perm.cons_inv hp) h1.2 h2.2]
theorem ss_data (x : ByteArray) : (⟨x.toList.toArray⟩ : ByteArray) = x := by
  rw [ByteArray.toList_eq]
theorem ss_merge (l : List ByteArray) : ((l.map ByteArray.toList).mergeSort fun x y => decide (x ≤ y)) = (ssL l).map ByteArray.toList := by
  refine le_unique ((List.mergeSort_perm _ _).trans ((ssL_perm l).map _).symm) ?_ ?_
  · have h := List.pairwise_mergeSort (le := fun x y : List UInt8 => decide (x ≤ y)) (fun a b c h1 h2 => by
      simp only [decide_eq_true_eq] at *
      exact List.le_trans h1 h2) (fun a b => by
      simp only [Bool.or_eq_true, decide_eq_true_eq]
      exact List.le_total a b) (l.map ByteArray.toList)
    exact h.imp fun {a b} h => by
      simp only [decide_eq_true_eq] at h
      exact List.not_lt.2 h
  · rw [List.pairwise_map]
    exact (ssL_asc l).imp fun {a b} h => by
      unfold ltS at h
      rw [bytesLess_eq, decide_eq_false_iff_not] at h
      exact h
def ssW (w : World) (m b o : Nat) (d : Array (List UInt8)) (os : Array Obj) : World := grow (putRow encStr (Go.Sort.ahead w m) b o d) os
theorem putCells_size2 {α : Type} [Inhabited α] (enc : α → Value) (off : Nat) (d : Array α) (c : Array Value) : (Go.Sort.putCells enc off d c).size = c.size := by simp [Go.Sort.putCells]
theorem ss_world {w : World} {b o m : Nat} {d : Array (List UInt8)} {os : Array Obj} (hb : b < w.heap.size) :
    (∀ k, k < w.heap.size → k ≠ b → (ssW w m b o d os).heap[k]? = w.heap[k]?) ∧
    (∀ (arr : Array Value) (T : TypeId) (fr : Nat × Nat), w.heap[b]? = some (Obj.cells arr T fr) → ∃ arr', (ssW w m b o d os).heap[b]? = some (Obj.cells arr' T fr) ∧ arr'.size = arr.size) ∧
    w.heap.size ≤ (ssW w m b o d os).heap.size ∧ Quiet w (ssW w m b o d os) := by
  have hs : (putRow encStr (Go.Sort.ahead w m) b o d).heap.size = w.heap.size := by rw [Go.Sort.size_putRow]; rfl
  refine ⟨fun k hk hne => ?_, fun arr T fr h => ?_, ?_, ⟨rfl, rfl, rfl⟩⟩
  · unfold ssW
    rw [heap_grow_old _ _ (by rw [hs]; exact hk)]
    show (Go.Sort.mapBlock (Go.Sort.ahead w m) b _).heap[k]? = _
    simp only [Go.Sort.mapBlock, Array.getElem?_modify]
    rw [if_neg (Ne.symm hne)]
    rfl
  · refine ⟨Go.Sort.putCells encStr o d arr, ?_, putCells_size2 _ _ _ _⟩
    unfold ssW
    rw [heap_grow_old _ _ (by rw [hs]; exact hb)]
    show (Go.Sort.mapBlock (Go.Sort.ahead w m) b _).heap[b]? = _
    simp only [Go.Sort.mapBlock, Array.getElem?_modify, if_true]
    have : (Go.Sort.ahead w m).heap[b]? = some (Obj.cells arr T fr) := h
    rw [this]
    rfl
  · unfold ssW
    rw [size_grow, hs]
    exact Nat.le_add_right _ _
theorem ss_good : ExtOk Try.prog 88 ssSpec := by
  refine ⟨⟨Try.f88, Option.get Try.f88.body (by kernel_rfl), by kernel_rfl, (Option.some_get _).symm, ne_of_beq_false (by kernel_rfl)⟩, fun ws rs res rout hspec => ?_⟩
  unfold ssSpec at hspec
  split at hspec
  · rename_i n p t l
    split at hspec
    · rename_i ht
      subst ht
      simp only [castS] at hspec
      cases hcond : zeroP p && ssOk l with
      | false => simp only [hcond] at hspec; cases hspec
      | true =>
        simp only [hcond, cond_true, Option.some.injEq, Prod.mk.injEq] at hspec
        obtain ⟨rfl, rfl⟩ := hspec
        simp only [ssOk, Bool.and_eq_true, decide_eq_true_eq] at hcond
        obtain ⟨hp, hlim⟩ := hcond
        have hlen : List.length (ssL l) = List.length (show List ByteArray from l) := (ssL_perm l).length_eq
        refine ext_one (t := .str) hp hlen fun C pl us hz hl hown hrow hv => ?_
        obtain ⟨u1, us1, rfl, h1, rfl⟩ := hv
        have r1 : rowsOf [⟨n, Row.arr p .str l⟩] 1 = some ⟨n, .arr p .str l⟩ := by rw [rowsOf_succ]; rfl
        obtain ⟨A, cp, rfl, hnc, hA⟩ := h1.2 n p .str l r1
        by_cases hl0 : l = []
        · subst hl0
          have hcall := Go.Proofs.Any.slices_Sort_string_none Try.sortStr A cp C.w0
          refine calls_mono hcall fun e w' hw => ?_
          obtain ⟨rfl, rfl⟩ := hw
          refine ⟨rfl, Quiet.refl _, Nat.le_refl _, fun _ _ _ => rfl, fun b arr T fr h => ⟨arr, T, fr, h, rfl⟩, ?_⟩
          have e0 : ssL ([] : List ByteArray) = [] := rfl
          rw [e0]
          simp only [RowR] at hrow ⊢
          refine ⟨zero_in hp, ?_⟩
          cases hlo : pl.loc 1 with
          | none => simp
          | some bo =>
            rw [hlo] at hrow
            simp only
            obtain ⟨_, arr, T, fr, e1, e2, e3, e4⟩ := hrow
            exact ⟨arr, T, fr, e1, e2, e3, fun _ i x hx => by simp at hx⟩
        · have hpos : 0 < List.length (show List ByteArray from l) := List.length_pos_iff.2 hl0
          have hcp : 0 < cp := Nat.lt_of_lt_of_le hpos hnc
          obtain ⟨b, o, hlo, rfl, arr, T, fr, hheap, hsz⟩ := hA hcp
          simp only [RowR, hlo] at hrow
          obtain ⟨_, arr', T', fr', e1, e2, e3, e4⟩ := hrow
          rw [hheap] at e1
          cases e1
          have hb : b < C.w0.heap.size := hown b o hlo
          have hz1 : Ty.str.size = 1 := rfl
          have e4 := e4 (zero_ok (rowsOf_zero _) hp)
          obtain ⟨zs, hzs⟩ : ∃ zs : List (List UInt8), zs = (show List ByteArray from l).map ByteArray.toList := ⟨_, rfl⟩
          have hzl : zs.length = List.length (show List ByteArray from l) := by rw [hzs, List.length_map]
          have hH : Holds encStr C.w0 b o zs.toArray := by
            intro i hi
            have hi : i < zs.length := by simpa using hi
            have hi' : i < List.length (show List ByteArray from l) := by omega
            obtain ⟨es, g1, g2⟩ := e4 i (show List ByteArray from l)[i] (List.getElem?_eq_getElem hi')
            have g3 : es = [.string (show List ByteArray from l)[i]] := g1
            have hdi : encStr zs.toArray[i]! = Value.string (show List ByteArray from l)[i] := by
              rw [getElem!_pos _ _ (by simpa using hi)]
              subst hzs
              simp only [List.getElem_toArray, List.getElem_map, encStr, ss_data]
            rw [hdi]
            constructor
            · have := g2 0 (.string (show List ByteArray from l)[i]) (by rw [g3]; rfl)
              rw [add_none, hz1] at this
              simpa using this
            · simp only [World.frozen?, hheap]
              have e2' : o + List.length (show List ByteArray from l) * 1 ≤ arr.size := e2
              rcases e3.un with e | e
              · simp; intro q; omega
              · simp; intro q; omega
          have hcall := Go.Proofs.Any.slices_Sort_string Try.sortStr b o cp zs C.w0 hH hb (by rw [hzl]; exact hlim)
          rw [hzl] at hcall
          have hA' : Value.slice (some ⟨b, o + 0 * Ty.str.size, none⟩) (List.length (show List ByteArray from l)) cp = .slice (some ⟨b, o, none⟩) (List.length (show List ByteArray from l)) cp := by rw [Nat.zero_mul, Nat.add_zero]
          rw [hA']
          rw [hzs, ss_merge] at hcall
          refine calls_mono hcall fun e w' hw => ?_
          obtain ⟨rfl, m, os, rfl⟩ := hw
          obtain ⟨w1, w2, w3, w4⟩ := ss_world (o := o) (m := m) (d := ((ssL l).map ByteArray.toList).toArray) (os := os) hb
          refine ⟨rfl, w4, w3, fun k hk hne => w1 k hk (hne b o hlo), fun b' arr' T' fr' h => ?_, ?_⟩
          · by_cases hbb : b' = b
            · subst hbb
              obtain ⟨arr2, q1, q2⟩ := w2 arr' T' fr' h
              exact ⟨arr2, T', fr', q1, q2⟩
            · have hlt : b' < C.w0.heap.size := (Array.getElem?_eq_some_iff.1 h).1
              exact ⟨arr', T', fr', (w1 b' hlt hbb).trans h, rfl⟩
          · simp only [RowR, hlo]
            refine ⟨zero_in hp, ?_⟩
            obtain ⟨arr2, q1, q2⟩ := w2 arr T fr hheap
            have hsz2 : ((ssL l).map ByteArray.toList).toArray.size = zs.toArray.size := by simp [hzl, hlen]
            have hH1 := holds_putRow encStr (Go.Sort.ahead C.w0 m) b o _ ((ssL l).map ByteArray.toList).toArray (holds_ahead encStr C.w0 m b o _ hH) hsz2
            have hH2 := holds_grow encStr (putRow encStr (Go.Sort.ahead C.w0 m) b o ((ssL l).map ByteArray.toList).toArray) os b o _ (by rw [Go.Sort.size_putRow]; exact hb) hH1
            refine ⟨arr2, T, fr, q1, by rw [hlen, q2]; exact e2, by rw [q2]; exact e3, fun _ i x hx => ?_⟩
            have hi : i < (ssL l).length := (List.getElem?_eq_some_iff.1 hx).1
            refine ⟨[.string x], rfl, fun j v hv => ?_⟩
            have hj : j = 0 := by
              have := (List.getElem?_eq_some_iff.1 hv).1
              simp at this; exact this
            subst hj
            have := (hH2 i (by simpa using hi)).1
            rw [add_none, hz1, Nat.mul_one, Nat.add_zero]
            have hxx : encStr ((ssL l).map ByteArray.toList).toArray[i]! = Value.string x := by
              rw [getElem!_pos _ _ (by simpa using hi)]
              have := (List.getElem?_eq_some_iff.1 hx).2
              simp only [List.getElem_toArray, List.getElem_map, encStr, ss_data]
              rw [← this]
            rw [hxx] at this
            have hv' : v = .string x := by simpa using hv.symm
            rw [hv']
            exact this
    · cases hspec
  · cases hspec
end Go.Proofs.Ytecnlienmpdlaaa.PM
