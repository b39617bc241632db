/- The small machine PM: slices.Sort at ints. -/
import Derived.Test.YtoepnomdklhhlaaGreatSoD
import Derived.Test.YtoepnomdklhhlaaGreatSoA
set_option linter.unusedSimpArgs false
set_option linter.unusedVariables false
namespace Go.Proofs.YtoepnomdklhhlaaGreat.PM
open Go Go.Sort
abbrev encI : Int → Value := Value.int .i64
theorem add_none (b o n : Nat) : (Addr.mk b o none).add n = ⟨b, o + n, none⟩ := by
  unfold Addr.add
  split
  · rename_i h; subst h; rfl
  · rfl
theorem putCells_size' (off : Nat) (d : Array Int) (c : Array Value) : (Go.Sort.putCells encI off d c).size = c.size := by simp [Go.Sort.putCells]
def soW (w : World) (m b o : Nat) (d : Array Int) (os : Array Obj) : World := grow (putRow encI (Go.Sort.ahead w m) b o d) os
theorem so_world {w : World} {b o m : Nat} {d : Array Int} {os : Array Obj} (hb : b < w.heap.size) :
    (∀ k, k < w.heap.size → k ≠ b → (soW w m b o d os).heap[k]? = w.heap[k]?) ∧
    (∀ (arr : Array Value) (T : TypeId) (fr : Nat × Nat), w.heap[b]? = some (Obj.cells arr T fr) → ∃ arr', (soW w m b o d os).heap[b]? = some (Obj.cells arr' T fr) ∧ arr'.size = arr.size) ∧
    w.heap.size ≤ (soW w m b o d os).heap.size ∧ Quiet w (soW w m b o d os) := by
  have hs : (putRow encI (Go.Sort.ahead w m) b o d).heap.size = w.heap.size := by rw [Go.Sort.size_putRow]; rfl
  refine ⟨fun k hk hne => ?_, fun arr T fr h => ?_, ?_, ⟨rfl, rfl, rfl⟩⟩
  · unfold soW
    rw [heap_grow_old _ _ (by rw [hs]; exact hk)]
    show (Go.Sort.mapBlock (Go.Sort.ahead w m) b _).heap[k]? = _
    simp only [Go.Sort.mapBlock, Array.getElem?_modify]
    rw [if_neg (Ne.symm hne)]
    rfl
  · refine ⟨Go.Sort.putCells encI o d arr, ?_, putCells_size' _ _ _⟩
    unfold soW
    rw [heap_grow_old _ _ (by rw [hs]; exact hb)]
    show (Go.Sort.mapBlock (Go.Sort.ahead w m) b _).heap[b]? = _
    simp only [Go.Sort.mapBlock, Array.getElem?_modify, if_true]
    have : (Go.Sort.ahead w m).heap[b]? = some (Obj.cells arr T fr) := h
    rw [this]
    rfl
  · unfold soW
    rw [size_grow, hs]
    exact Nat.le_add_right _ _
theorem sorti_good : ExtOk Tryz.prog 49 sortISpec := by
  refine ⟨⟨Tryz.f49, Option.get Tryz.f49.body (by kernel_rfl), by kernel_rfl, (Option.some_get _).symm, ne_of_beq_false (by kernel_rfl)⟩, fun ws rs res rout hspec => ?_⟩
  unfold sortISpec at hspec
  split at hspec
  · rename_i n t l
    split at hspec
    · rename_i ht
      subst ht
      simp only [castI] at hspec
      cases hcond : sortIOk l with
      | false => simp only [hcond] at hspec; cases hspec
      | true =>
        simp only [hcond, cond_true, Option.some.injEq, Prod.mk.injEq] at hspec
        obtain ⟨rfl, rfl⟩ := hspec
        simp only [sortIOk, decide_eq_true_eq] at hcond
        intro C pl us hC hn hz hl hloc Rl hm hok hv
        obtain ⟨u1, us1, rfl, h1, rfl⟩ := hv
        have r1 : rowsOf [⟨n, Row.arr [] (Ty.int .i64) l⟩] 1 = some ⟨n, .arr [] (.int .i64) l⟩ := by rw [rowsOf_succ]; rfl
        have r1' : rowsOf [⟨0, Row.arr [] (Ty.int .i64) (sortI l)⟩] 1 = some ⟨0, .arr [] (.int .i64) (sortI l)⟩ := by rw [rowsOf_succ]; rfl
        have rO : ∀ i s, rowsOf [⟨n, Row.arr [] (Ty.int .i64) l⟩] i = some s → i = 1 ∧ s = ⟨n, .arr [] (.int .i64) l⟩ := fun i s h => by
          rcases i with _ | _ | i
          · rw [rowsOf_zero] at h; cases h
          · rw [r1] at h; cases h; exact ⟨rfl, rfl⟩
          · rw [rowsOf_succ] at h; simp at h
        have rO' : ∀ i s, rowsOf [⟨0, Row.arr [] (Ty.int .i64) (sortI l)⟩] i = some s → i = 1 ∧ s = ⟨0, .arr [] (.int .i64) (sortI l)⟩ := fun i s h => by
          rcases i with _ | _ | i
          · rw [rowsOf_zero] at h; cases h
          · rw [r1'] at h; cases h; exact ⟨rfl, rfl⟩
          · rw [rowsOf_succ] at h; simp at h
        obtain ⟨A, c, rfl, hnc, hA⟩ := h1.2 n [] (.int .i64) l r1
        have hrow := Rl.rows 1 _ r1
        have hinv : ∀ w', Quiet C.w0 w' → C.w0.heap.size ≤ w'.heap.size → (∀ k, k < C.w0.heap.size → (∀ b o, pl.loc 1 = some (b, o) → k ≠ b) → w'.heap[k]? = C.w0.heap[k]?) →
            (∀ (b : Nat) (arr : Array Value) (T : TypeId) (fr : Nat × Nat), C.w0.heap[b]? = some (Obj.cells arr T fr) → ∃ (arr' : Array Value) (T' : TypeId) (fr' : Nat × Nat), w'.heap[b]? = some (Obj.cells arr' T' fr') ∧ arr'.size = arr.size) →
            RowR w' pl (rowsOf [⟨0, Row.arr [] (Ty.int .i64) (sortI l)⟩]) 1 ⟨0, .arr [] (.int .i64) (sortI l)⟩ →
            ∃ res rout vs pl', (res = [] ∧ rout = [⟨0, Row.arr [] (Ty.int .i64) (sortI l)⟩]) ∧ Ending.returned (.tuple #[]) = .returned (tupVal vs) ∧ Inv C 0 pl' ⟨fun _ => none, rowsOf rout⟩ ⟨#[], []⟩ w' ∧ (∀ i s, rowsOf rout i = some s → rowOk (rowsOf rout) s.row) ∧ Mens (rowsOf rout) res ∧ VRs w' pl' (rowsOf rout) res vs := by
          intro w' hq hsz hkeep hblk hR
          refine ⟨[], [⟨0, Row.arr [] (Ty.int .i64) (sortI l)⟩], [], pl, ⟨rfl, rfl⟩, rfl, ⟨⟨fun s v h => (by cases h), fun r s h => ?_, rowsOf_zero [⟨0, Row.arr [] (Ty.int .i64) (sortI l)⟩], fun r r' s s' b o o' hr _ hr' _ _ _ => ?_, fun r s b o hr hlv hlo => ?_, rfl⟩, hz, hl, Nat.zero_le _, ?_, hq, fun b hb hG => ?_, hblk, fun i h1 h2 => ?_⟩, fun i s h => ?_, trivial, rfl⟩
          · obtain ⟨rfl, rfl⟩ := rO' r s h; exact hR
          · rw [(rO' r s hr).1, (rO' r' s' hr').1]
          · obtain ⟨rfl, rfl⟩ := rO' r s hr
            obtain ⟨q1, q2, q3⟩ := Rl.own 1 _ b o r1 (by intro h; cases h) hlo
            exact ⟨by omega, q2, q3⟩
          · rw [hC.size]; exact hsz
          · rw [hC.size] at hb
            refine hkeep b hb (fun b' o' hlo he => ?_)
            subst he
            obtain ⟨q1, q2, q3⟩ := Rl.own 1 _ b o' r1 (by intro h; cases h) hlo
            rw [hC.size] at q3
            rcases q3 with q3 | q3
            · omega
            · exact hG q3
          · have hn1 : C.n = 1 := hn
            have : i = 1 := by omega
            subst this
            exact ⟨_, r1', fun _ => (hloc 1 h1 h2).symm⟩
          · obtain ⟨rfl, rfl⟩ := rO' i s h
            rfl
        by_cases hl0 : l = []
        · subst hl0
          have hcall := Go.Proofs.Any.slices_Sort_int_none Tryz.sortIn A c C.w0
          refine calls_mono hcall fun e w' hw => ?_
          obtain ⟨rfl, rfl⟩ := hw
          refine hinv C.w0 (Quiet.refl _) (Nat.le_refl _) (fun _ _ _ => rfl) (fun b arr T fr h => ⟨arr, T, fr, h, rfl⟩) ?_
          rw [show sortI [] = [] from List.length_eq_zero_iff.1 (sortI_len [])]
          simp only [RowR] at hrow ⊢
          refine ⟨fun q hq => (by cases hq), ?_⟩
          cases hlo : pl.loc 1 with
          | none => simp
          | some bo =>
            rw [hlo] at hrow
            simp only
            obtain ⟨_, arr, T, fr, e1, e2, e3, e4⟩ := hrow
            exact ⟨arr, T, fr, e1, e2, e3, fun _ i x hx => by simp at hx⟩
        · have hpos : 0 < l.length := List.length_pos_iff.2 hl0
          obtain ⟨b, o, hlo, rfl, arr, T, fr, hheap, hsz⟩ := hA (by omega)
          simp only [RowR, hlo] at hrow
          obtain ⟨_, arr', T', fr', e1, e2, e3, e4⟩ := hrow
          rw [hheap] at e1
          cases e1
          have hb : b < C.w0.heap.size := (Rl.own 1 _ b o r1 (by intro h; cases h) hlo).1
          have hz1 : (Ty.int .i64).size = 1 := rfl
          have hH : Holds encI C.w0 b o (show List Int from l).toArray := by
            intro i hi
            have hi : i < l.length := by simpa using hi
            obtain ⟨es, g1, g2⟩ := e4 rfl i l[i] (List.getElem?_eq_getElem hi)
            have g3 : es = [.int .i64 l[i]] := g1
            have hdi : (show List Int from l).toArray[i]! = l[i] := by
              rw [getElem!_pos _ _ (by simpa using hi)]; rfl
            rw [hdi]
            constructor
            · have := g2 0 (.int .i64 l[i]) (by rw [g3]; rfl)
              rw [add_none, hz1] at this
              simpa using this
            · simp only [World.frozen?, hheap]
              have e2' : o + l.length * 1 ≤ arr.size := e2
              rcases e3 with e | e
              · simp; intro q; omega
              · simp; intro q; omega
          have hcall := Go.Proofs.Any.slices_Sort_int Tryz.sortIn b o c (show List Int from l) C.w0 hH hb hcond
          have hA' : Value.slice (some ⟨b, o + 0 * (Ty.int .i64).size, none⟩) l.length c = .slice (some ⟨b, o, none⟩) l.length c := by rw [Nat.zero_mul, Nat.add_zero]
          rw [hA']
          refine calls_mono hcall fun e w' hw => ?_
          obtain ⟨rfl, m, os, rfl⟩ := hw
          obtain ⟨w1, w2, w3, w4⟩ := so_world (o := o) (m := m) (d := (sortI l).toArray) (os := os) hb
          refine hinv _ w4 w3 (fun k hk hne => w1 k hk (hne b o hlo)) (fun b' arr' T' fr' h => ?_) ?_
          · by_cases hbb : b' = b
            · subst hbb
              obtain ⟨arr2, q1, q2⟩ := w2 arr' T' fr' h
              exact ⟨arr2, T', fr', q1, q2⟩
            · have hlt : b' < C.w0.heap.size := (Array.getElem?_eq_some_iff.1 h).1
              exact ⟨arr', T', fr', (w1 b' hlt hbb).trans h, rfl⟩
          · simp only [RowR, hlo]
            refine ⟨fun q hq => (by cases hq), ?_⟩
            obtain ⟨arr2, q1, q2⟩ := w2 arr T fr hheap
            have hsz2 : (sortI l).toArray.size = (show List Int from l).toArray.size := by simp [sortI_len]
            have hH1 := holds_putRow encI (Go.Sort.ahead C.w0 m) b o _ (sortI l).toArray (holds_ahead encI C.w0 m b o _ hH) hsz2
            have hH2 := holds_grow encI (putRow encI (Go.Sort.ahead C.w0 m) b o (sortI l).toArray) os b o _ (by rw [Go.Sort.size_putRow]; exact hb) hH1
            refine ⟨arr2, T, fr, q1, by rw [sortI_len, q2]; exact e2, by rw [q2]; exact e3, fun _ i x hx => ?_⟩
            have hi : i < (sortI l).length := (List.getElem?_eq_some_iff.1 hx).1
            refine ⟨[.int .i64 x], rfl, fun j v hv => ?_⟩
            have hj : j = 0 := by
              have := (List.getElem?_eq_some_iff.1 hv).1
              simp at this; exact this
            subst hj
            have := (hH2 i (by simpa using hi)).1
            rw [add_none, hz1, Nat.mul_one, Nat.add_zero]
            have hxx : (sortI l).toArray[i]! = x := by
              rw [getElem!_pos _ _ (by simpa using hi)]
              have := (List.getElem?_eq_some_iff.1 hx).2
              simpa using this
            rw [hxx] at this
            have hv' : v = .int .i64 x := by simpa using hv.symm
            rw [hv']
            exact this
    · cases hspec
  · cases hspec
end Go.Proofs.YtoepnomdklhhlaaGreat.PM
