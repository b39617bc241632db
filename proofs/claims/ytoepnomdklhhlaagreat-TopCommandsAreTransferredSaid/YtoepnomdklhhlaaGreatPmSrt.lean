/- The small machine PM: slices.SortFunc at spans. -/
import Derived.Test.YtoepnomdklhhlaaGreatSrtB
import Derived.Shelf.SlSortCmp.NoneTotal
set_option linter.unusedSimpArgs false
set_option linter.unusedVariables false
namespace Go.Proofs.YtoepnomdklhhlaaGreat.PM
open Go Go.Sort
theorem rd_sp {w : World} {S : Nat → Prop} {x : SpT.D} {es : List Value} (h : RD w S SpT x es) : es = [.int .i64 x.1, .int .i64 x.2.1] := by
  obtain ⟨c1, c2, rfl, h1, h2⟩ := h
  obtain ⟨c3, c4, rfl, h3, h4⟩ := h2
  have e1 : c1 = [.int .i64 x.1] := h1
  have e3 : c3 = [.int .i64 x.2.1] := h3
  have e4 : c4 = [] := h4
  rw [e1, e3, e4]; rfl
theorem sp_rd (w : World) (S : Nat → Prop) (x : SpT.D) : RD w S SpT x [.int .i64 x.1, .int .i64 x.2.1] :=
  ⟨[.int .i64 x.1], [.int .i64 x.2.1], rfl, rfl, [.int .i64 x.2.1], [], rfl, rfl, rfl⟩
theorem add_none (b o n : Nat) : (Addr.mk b o none).add n = ⟨b, o + n, none⟩ := by
  unfold Addr.add
  split
  · rename_i h; subst h; rfl
  · rfl
theorem putCells_size (enc : Value → Value) (off : Nat) (d c : Array Value) : (Go.Sort.putCells enc off d c).size = c.size := by simp [Go.Sort.putCells]
/-- What the sort's world is, block by block. -/
theorem srt_world {w : World} {b o m : Nat} {d : Array Sp} {os : Array Obj} (hb : b < w.heap.size) :
    (∀ k, k < w.heap.size → k ≠ b → (sortWorldK encSp 2 w b o m d os).heap[k]? = w.heap[k]?) ∧
    (∀ (arr : Array Value) (T : TypeId) (fr : Nat × Nat), w.heap[b]? = some (Obj.cells arr T fr) → ∃ arr', (sortWorldK encSp 2 w b o m d os).heap[b]? = some (Obj.cells arr' T fr) ∧ arr'.size = arr.size) ∧
    w.heap.size ≤ (sortWorldK encSp 2 w b o m d os).heap.size ∧ Quiet w (sortWorldK encSp 2 w b o m d os) := by
  have hs : (putRowK encSp 2 (Go.Sort.ahead w m) b o d).heap.size = w.heap.size := by unfold putRowK; rw [Go.Sort.size_putRow]; rfl
  refine ⟨fun k hk hne => ?_, fun arr T fr h => ?_, ?_, ⟨rfl, rfl, rfl⟩⟩
  · unfold sortWorldK
    rw [heap_grow_old _ _ (by rw [hs]; exact hk)]
    show (Go.Sort.mapBlock (Go.Sort.ahead w m) b _).heap[k]? = _
    simp only [Go.Sort.mapBlock, Array.getElem?_modify]
    rw [if_neg (Ne.symm hne)]
    rfl
  · refine ⟨Go.Sort.putCells id o (flatK encSp 2 d) arr, ?_, putCells_size _ _ _ _⟩
    unfold sortWorldK
    rw [heap_grow_old _ _ (by rw [hs]; exact hb)]
    show (Go.Sort.mapBlock (Go.Sort.ahead w m) b _).heap[b]? = _
    simp only [Go.Sort.mapBlock, Array.getElem?_modify, if_true]
    have : (Go.Sort.ahead w m).heap[b]? = some (Obj.cells arr T fr) := h
    rw [this]
    rfl
  · unfold sortWorldK
    rw [size_grow, hs]
    exact Nat.le_add_right _ _
theorem sort_good : ExtOk Tryz.prog 154 (sortSpec 155) := by
  refine ⟨⟨Tryz.f154, Option.get Tryz.f154.body (by kernel_rfl), by kernel_rfl, (Option.some_get _).symm, ne_of_beq_false (by kernel_rfl)⟩, fun ws rs res rout hspec => ?_⟩
  unfold sortSpec at hspec
  split at hspec
  · rename_i g n t l
    split at hspec
    · rename_i ht
      subst ht
      simp only [castD] at hspec
      cases hcond : (g == 155) && sortOk l with
      | false => simp only [hcond] at hspec; cases hspec
      | true =>
        simp only [hcond, cond_true, Option.some.injEq, Prod.mk.injEq] at hspec
        obtain ⟨rfl, rfl⟩ := hspec
        simp only [sortOk, Bool.and_eq_true, beq_iff_eq, List.all_eq_true, decide_eq_true_eq] at hcond
        obtain ⟨rfl, hall, hlim⟩ := hcond
        intro C pl us hC hn hz hl hloc Rl hm hok hv
        obtain ⟨u1, us1, rfl, h1, u2, us2, rfl, h2, rfl⟩ := hv
        have r1 : rowsOf [⟨n, Row.arr [] SpT l⟩] 1 = some ⟨n, .arr [] SpT l⟩ := by rw [rowsOf_succ]; rfl
        have r1' : rowsOf [⟨0, Row.arr [] SpT (srtL l)⟩] 1 = some ⟨0, .arr [] SpT (srtL l)⟩ := by rw [rowsOf_succ]; rfl
        have rO : ∀ i s, rowsOf [⟨n, Row.arr [] SpT l⟩] i = some s → i = 1 ∧ s = ⟨n, .arr [] SpT l⟩ := fun i s h => by
          rcases i with _ | _ | i
          · rw [rowsOf_zero] at h; cases h
          · rw [r1] at h; cases h; exact ⟨rfl, rfl⟩
          · rw [rowsOf_succ] at h; simp at h
        have rO' : ∀ i s, rowsOf [⟨0, Row.arr [] SpT (srtL l)⟩] i = some s → i = 1 ∧ s = ⟨0, .arr [] SpT (srtL l)⟩ := fun i s h => by
          rcases i with _ | _ | i
          · rw [rowsOf_zero] at h; cases h
          · rw [r1'] at h; cases h; exact ⟨rfl, rfl⟩
          · rw [rowsOf_succ] at h; simp at h
        obtain ⟨A, c, rfl, hnc, hA⟩ := h1.2 n [] SpT l r1
        obtain ⟨cs, rfl, hcs⟩ := h2
        have hcs' : cs = #[] := by
          have : cs.toList = [] := hcs
          rw [← Array.toArray_toList (xs := cs), this]
        subst hcs'
        have hrow := Rl.rows 1 _ r1
        have hinv : ∀ w', Quiet C.w0 w' → C.w0.heap.size ≤ w'.heap.size → (∀ k, k < C.w0.heap.size → (∀ b o, pl.loc 1 = some (b, o) → k ≠ b) → w'.heap[k]? = C.w0.heap[k]?) →
            (∀ (b : Nat) (arr : Array Value) (T : TypeId) (fr : Nat × Nat), C.w0.heap[b]? = some (Obj.cells arr T fr) → ∃ (arr' : Array Value) (T' : TypeId) (fr' : Nat × Nat), w'.heap[b]? = some (Obj.cells arr' T' fr') ∧ arr'.size = arr.size) →
            RowR w' pl (rowsOf [⟨0, Row.arr [] SpT (srtL l)⟩]) 1 ⟨0, .arr [] SpT (srtL l)⟩ →
            ∃ res rout vs pl', (res = [] ∧ rout = [⟨0, Row.arr [] SpT (srtL l)⟩]) ∧ Ending.returned (.tuple #[]) = .returned (tupVal vs) ∧ Inv C 0 pl' ⟨fun _ => none, rowsOf rout⟩ ⟨#[], []⟩ w' ∧ (∀ i s, rowsOf rout i = some s → rowOk (rowsOf rout) s.row) ∧ Mens (rowsOf rout) res ∧ VRs w' pl' (rowsOf rout) res vs := by
          intro w' hq hsz hkeep hblk hR
          refine ⟨[], [⟨0, Row.arr [] SpT (srtL l)⟩], [], pl, ⟨rfl, rfl⟩, rfl, ⟨⟨fun s v h => (by cases h), fun r s h => ?_, rowsOf_zero [⟨0, Row.arr [] SpT (srtL l)⟩], fun r r' s s' b o o' hr _ hr' _ _ _ => ?_, fun r s b o hr hlv hlo => ?_, rfl⟩, hz, hl, Nat.zero_le _, ?_, hq, fun b hb hG => ?_, hblk, fun i h1 h2 => ?_⟩, fun i s h => ?_, trivial, rfl⟩
          · obtain ⟨rfl, rfl⟩ := rO' r s h; exact hR
          · rw [(rO' r s hr).1, (rO' r' s' hr').1]
          · obtain ⟨rfl, rfl⟩ := rO' r s hr
            obtain ⟨q1, q2, q3⟩ := Rl.own 1 _ b o r1 (by intro h; cases h) hlo
            exact ⟨by omega, q2, q3⟩
          · rw [hC.size]; exact hsz
          · rw [hC.size] at hb
            refine hkeep b hb (fun b' o' hlo he => ?_)
            subst he
            obtain ⟨q1, q2, q3⟩ := Rl.own 1 _ b o' r1 (by intro h; cases h) hlo
            rw [hC.size] at q3
            rcases q3 with q3 | q3
            · omega
            · exact hG q3
          · have hn1 : C.n = 1 := hn
            have : i = 1 := by omega
            subst this
            exact ⟨_, r1', fun _ => (hloc 1 h1 h2).symm⟩
          · obtain ⟨rfl, rfl⟩ := rO' i s h
            rfl
        by_cases hl0 : l = []
        · subst hl0
          have hcall := Go.Proofs.AnyF.slices_SortFunc_none Tryz.sortSp A c (.func (.func 155) #[] #[]) C.w0
          refine calls_mono hcall fun e w' hw => ?_
          obtain ⟨rfl, rfl⟩ := hw
          refine hinv C.w0 (Quiet.refl _) (Nat.le_refl _) (fun _ _ _ => rfl) (fun b arr T fr h => ⟨arr, T, fr, h, rfl⟩) ?_
          rw [srtL_nil]
          simp only [RowR] at hrow ⊢
          refine ⟨fun q hq => (by cases hq), ?_⟩
          cases hlo : pl.loc 1 with
          | none => simp
          | some bo =>
            rw [hlo] at hrow
            simp only
            obtain ⟨_, arr, T, fr, e1, e2, e3, e4⟩ := hrow
            exact ⟨arr, T, fr, e1, e2, e3, fun _ i x hx => by simp at hx⟩
        · have hpos : 0 < l.length := List.length_pos_iff.2 hl0
          obtain ⟨b, o, hlo, rfl, arr, T, fr, hheap, hsz⟩ := hA (by omega)
          simp only [RowR, hlo] at hrow
          obtain ⟨_, arr', T', fr', e1, e2, e3, e4⟩ := hrow
          rw [hheap] at e1
          cases e1
          have hb : b < C.w0.heap.size := (Rl.own 1 _ b o r1 (by intro h; cases h) hlo).1
          have hd : (l.map toSp).toArray.size = l.length := by simp
          have hH : HoldsK encSp 2 C.w0 b o (l.map toSp).toArray := by
            intro j hj
            rw [size_flatK, hd] at hj
            have hi : j / 2 < l.length := by omega
            obtain ⟨es, g1, g2⟩ := e4 rfl (j / 2) l[j / 2] (List.getElem?_eq_getElem hi)
            have g3 := rd_sp g1
            have hdi : (l.map toSp).toArray[j / 2]! = toSp l[j / 2] := by
              rw [getElem!_pos _ _ (by rw [hd]; exact hi)]; simp
            rw [get_flatK _ _ _ _ (by rw [hd]; exact hj), hdi, enc_toSp (hall _ (List.getElem_mem hi))]
            have hj2 : j % 2 = 0 ∨ j % 2 = 1 := by omega
            constructor
            · have hc : ∀ r v, r = j % 2 → es[r]? = some v → C.w0.cell? ⟨b, o + j, none⟩ = some v := fun r v hr hv => by
                have := g2 r v hv
                have ea : (Addr.mk b (o + j / 2 * SpT.size) none).add r = ⟨b, o + j, none⟩ := by
                  have hz : SpT.size = 2 := rfl
                  rw [add_none, hz, hr]
                  congr 1
                  omega
                rw [ea] at this
                exact this
              rcases hj2 with q | q
              · rw [q]; exact hc 0 _ q.symm (by rw [g3]; rfl)
              · rw [q]; exact hc 1 _ q.symm (by rw [g3]; rfl)
            · simp only [World.frozen?, hheap]
              have e2' : o + l.length * 2 ≤ arr.size := e2
              rcases e3 with e | e
              · simp; intro q; omega
              · simp; intro q; omega
          have hcall := Tryz.sort154 b o c (l.map toSp).toArray C.w0 hH hb (by
            rw [hd]; exact hlim)
          rw [hd] at hcall
          have hA' : Value.slice (some ⟨b, o + 0 * SpT.size, none⟩) l.length c = .slice (some ⟨b, o, none⟩) l.length c := by rw [Nat.zero_mul, Nat.add_zero]
          rw [hA']
          refine calls_mono hcall fun e w' hw => ?_
          obtain ⟨rfl, m, os, rfl⟩ := hw
          obtain ⟨w1, w2, w3, w4⟩ := srt_world (o := o) (m := m) (d := srtA (l.map toSp).toArray) (os := os) hb
          refine hinv _ w4 w3 (fun k hk hne => w1 k hk (hne b o hlo)) (fun b' arr' T' fr' h => ?_) ?_
          · by_cases hbb : b' = b
            · subst hbb
              obtain ⟨arr2, q1, q2⟩ := w2 arr' T' fr' h
              exact ⟨arr2, T', fr', q1, q2⟩
            · have hlt : b' < C.w0.heap.size := (Array.getElem?_eq_some_iff.1 h).1
              exact ⟨arr', T', fr', by rw [w1 b' hlt hbb]; exact h, rfl⟩
          · simp only [RowR, hlo]
            refine ⟨fun q hq => (by cases hq), ?_⟩
            obtain ⟨arr2, q1, q2⟩ := w2 arr T fr hheap
            have hH2 := holdsK_sortWorldK_c encSp 2 C.w0 b o (l.map toSp).toArray (srtA (l.map toSp).toArray) m os hH hb (srtA_size _)
            refine ⟨arr2, T, fr, q1, by rw [srtL_len, q2]; exact e2, by rw [q2]; exact e3, fun _ i x hx => ?_⟩
            have hi : i < (srtA (l.map toSp).toArray).size := by
              have := (List.getElem?_eq_some_iff.1 hx).1
              rw [srtL_len] at this
              rw [srtA_size, hd]; exact this
            have hx' : x = ofSp ((srtA (l.map toSp).toArray)[i]!) := by
              unfold srtL at hx
              rw [List.getElem?_map, Array.getElem?_toList, Array.getElem?_eq_getElem hi] at hx
              rw [getElem!_pos (srtA (l.map toSp).toArray) i hi]
              simpa using hx.symm
            refine ⟨_, sp_rd _ _ x, fun j v hv => ?_⟩
            have hjlt : j < 2 := (List.getElem?_eq_some_iff.1 hv).1
            have := (hH2.cell (i := i) (c := j) hi hjlt).1
            have ea : (Addr.mk b (o + i * SpT.size) none).add j = ⟨b, o + i * 2 + j, none⟩ := by
              have hz : SpT.size = 2 := rfl
              rw [add_none, hz]
            rw [ea, this]
            have hv' : (encSp ((srtA (l.map toSp).toArray)[i]!))[j]? = some v := by rw [hx'] at hv; exact hv
            rw [List.getElem!_eq_getElem?_getD, hv']; rfl
    · cases hspec
  · cases hspec
end Go.Proofs.YtoepnomdklhhlaaGreat.PM
