/- The small machine PM: slices.Insert at ints. -/
import Derived.Test.YtadkplikobhckaaInD
import Derived.Test.YtadkplikobhckaaInA
import Derived.Test.YtadkplikobhckaaPmM
set_option linter.unusedSimpArgs false
set_option linter.unusedVariables false
namespace Go.Proofs.Ytadkplikobhckaa.PM
open Go
abbrev eI : Int → Value := Value.int .i64
theorem addN (b o n : Nat) : (Addr.mk b o none).add n = ⟨b, o + n, none⟩ := by
  unfold Addr.add
  split
  · rename_i h; subst h; rfl
  · rfl
theorem cell_atI {w : World} {b o : Nat} {arr : Array Value} {T : TypeId} {fr : Nat × Nat} (h : w.heap[b]? = some (Obj.cells arr T fr)) : w.cell? ⟨b, o, none⟩ = arr[o]? := by
  simp [World.cell?, h]
theorem frozen_atI {w : World} {b o : Nat} {arr : Array Value} {T : TypeId} {fr : Nat × Nat} (h : w.heap[b]? = some (Obj.cells arr T fr)) (hu : fr.1 = fr.2) : w.frozen? ⟨b, o, none⟩ = false := by
  obtain ⟨lo, hi⟩ := fr
  simp only at hu
  subst hu
  simp only [World.frozen?, h]
  simp
theorem one_ints (l : List Int) : ∀ v ∈ l.map eI, v.oneCell' = true := fun v hv => by
  obtain ⟨x, _, rfl⟩ := List.mem_map.1 hv
  rfl
/-- Cells of a row of ints. -/
def IntsAt (w : World) (b o : Nat) (l : List Int) (c : Nat) : Prop :=
  ∃ (arr : Array Value) (T : TypeId) (fr : Nat × Nat), w.heap[b]? = some (Obj.cells arr T fr) ∧ (o + c ≤ arr.size ∧ c ≤ 9223372036854775807) ∧ l.length ≤ c ∧ fr.1 = fr.2 ∧ ∀ (i : Nat) (x : Int), l[i]? = some x → arr[o + i]? = some (eI x)
theorem put_get {arr arr' : Array Value} {p : Nat} {xs : List Value} (h : arr'.toList = arr.toList.take p ++ xs ++ arr.toList.drop (p + xs.length)) (hp : p + xs.length ≤ arr.size) (q : Nat) :
    arr'[q]? = if q < p then arr[q]? else if q < p + xs.length then xs[q - p]? else arr[q]? := by
  have hlt : (arr.toList.take p).length = p := by rw [List.length_take, Array.length_toList]; omega
  have e : arr'[q]? = (arr.toList.take p ++ xs ++ arr.toList.drop (p + xs.length))[q]? := by rw [← h]; simp
  rw [e]
  split
  · rw [List.append_assoc, List.getElem?_append_left (by omega), List.getElem?_take, if_pos (by omega)]
    simp
  · split
    · rw [List.append_assoc, List.getElem?_append_right (by omega), hlt, List.getElem?_append_left (by omega)]
    · rw [List.getElem?_append_right (by rw [List.length_append, hlt]; omega), List.length_append, hlt, List.getElem?_drop, show p + xs.length + (q - (p + xs.length)) = q by omega]
      simp
theorem put_size {arr arr' : Array Value} {p : Nat} {xs : List Value} (h : arr'.toList = arr.toList.take p ++ xs ++ arr.toList.drop (p + xs.length)) (hp : p + xs.length ≤ arr.size) : arr'.size = arr.size := by
  have := congrArg List.length h
  simp only [Array.length_toList, List.length_append, List.length_take, List.length_drop] at this
  omega
theorem insL_get (i : Nat) (l v : List Int) (hi : i ≤ l.length) (j : Nat) : (insL (i : Int) l v)[j]? = if j < i then l[j]? else if j < i + v.length then v[j - i]? else l[j - v.length]? := by
  have hlt : (l.take i).length = i := by rw [List.length_take]; omega
  unfold insL
  rw [Int.toNat_natCast]
  split
  · rw [List.append_assoc, List.getElem?_append_left (by omega), List.getElem?_take, if_pos (by omega)]
  · split
    · rw [List.append_assoc, List.getElem?_append_right (by omega), hlt, List.getElem?_append_left (by omega)]
    · rw [List.getElem?_append_right (by rw [List.length_append, hlt]; omega), List.length_append, hlt, List.getElem?_drop, show i + (j - (i + v.length)) = j - v.length by omega]
theorem insL_len (i : Nat) (l v : List Int) (hi : i ≤ l.length) : (insL (i : Int) l v).length = l.length + v.length := by
  unfold insL
  rw [Int.toNat_natCast, List.length_append, List.length_append, List.length_take, List.length_drop]
  omega
theorem insert_core (i : Nat) (l v : List Int) (hi : i ≤ l.length) (hv0 : 0 < v.length) (hbig : l.length + v.length ≤ 1000000000000) (n1 n2 : Nat) :
    Good Try.prog 103 [.rw 1, .val [] (.int .i64) (i : Int), .rw 2] [⟨n1, .arr [] (.int .i64) l⟩, ⟨n2, .arr [] (.int .i64) v⟩] (fun a b => a = [.rw 3] ∧ b = [⟨0, .gone⟩, ⟨0, .arr [] (.int .i64) v⟩, ⟨0, .arr [] (.int .i64) (insL i l v)⟩]) := by
  intro C pl us hC hn hz hl hloc Rl hm hok hv
  obtain ⟨u1, _, rfl, h1, u2, _, rfl, h2, u3, _, rfl, h3, rfl⟩ := hv
  have h2' : u2 = .int .i64 (i : Int) := by
    have h : [u2] = [Value.int .i64 (i : Int)] := h2
    exact (List.cons.inj h).1
  subst h2'
  have r1 : rowsOf [⟨n1, Row.arr [] (Ty.int .i64) l⟩, ⟨n2, Row.arr [] (Ty.int .i64) v⟩] 1 = some ⟨n1, .arr [] (.int .i64) l⟩ := by rw [rowsOf_succ]; rfl
  have r2 : rowsOf [⟨n1, Row.arr [] (Ty.int .i64) l⟩, ⟨n2, Row.arr [] (Ty.int .i64) v⟩] 2 = some ⟨n2, .arr [] (.int .i64) v⟩ := by rw [rowsOf_succ]; rfl
  have q1 : rowsOf [⟨0, .gone⟩, ⟨0, Row.arr [] (Ty.int .i64) v⟩, ⟨0, Row.arr [] (Ty.int .i64) (insL i l v)⟩] 1 = some ⟨0, .gone⟩ := by rw [rowsOf_succ]; rfl
  have q2 : rowsOf [⟨0, .gone⟩, ⟨0, Row.arr [] (Ty.int .i64) v⟩, ⟨0, Row.arr [] (Ty.int .i64) (insL i l v)⟩] 2 = some ⟨0, .arr [] (.int .i64) v⟩ := by rw [rowsOf_succ]; rfl
  have q3 : rowsOf [⟨0, .gone⟩, ⟨0, Row.arr [] (Ty.int .i64) v⟩, ⟨0, Row.arr [] (Ty.int .i64) (insL i l v)⟩] 3 = some ⟨0, .arr [] (.int .i64) (insL i l v)⟩ := by rw [rowsOf_succ]; rfl
  have rO' : ∀ j s, rowsOf [⟨0, .gone⟩, ⟨0, Row.arr [] (Ty.int .i64) v⟩, ⟨0, Row.arr [] (Ty.int .i64) (insL i l v)⟩] j = some s →
      (j = 1 ∧ s = ⟨0, .gone⟩) ∨ (j = 2 ∧ s = ⟨0, .arr [] (.int .i64) v⟩) ∨ (j = 3 ∧ s = ⟨0, .arr [] (.int .i64) (insL i l v)⟩) := fun j s h => by
    rcases j with _ | _ | _ | _ | j
    · rw [rowsOf_zero] at h; cases h
    · rw [q1] at h; cases h; exact .inl ⟨rfl, rfl⟩
    · rw [q2] at h; cases h; exact .inr (.inl ⟨rfl, rfl⟩)
    · rw [q3] at h; cases h; exact .inr (.inr ⟨rfl, rfl⟩)
    · rw [rowsOf_succ] at h; simp at h
  have hz1 : (Ty.int .i64).size = 1 := rfl
  obtain ⟨A, c, rfl, hnc, hA⟩ := h1.2 n1 [] (.int .i64) l r1
  obtain ⟨A2, c2, rfl, hnc2, hA2⟩ := h3.2 n2 [] (.int .i64) v r2
  have hrow1 := Rl.rows 1 _ r1
  have hrow2 := Rl.rows 2 _ r2
  obtain ⟨b2, o2, hlo2, rfl, arr2, T2, fr2, g1, g2⟩ := hA2 (by omega)
  simp only [RowR, hlo2] at hrow2
  obtain ⟨_, arr2', T2', fr2', e1, e2, e3, e4⟩ := hrow2
  rw [g1] at e1
  cases e1
  have hfr2 : fr2.1 = fr2.2 := e3.resolve_right (fun h => by cases h.1)
  have hvs : ∀ (j : Nat) (x : Int), v[j]? = some x → arr2[o2 + j]? = some (eI x) := fun j x hx => by
    obtain ⟨es, f1, f2⟩ := e4 rfl j x hx
    have f3 : es = [.int .i64 x] := f1
    have := f2 0 (.int .i64 x) (by rw [f3]; rfl)
    rw [addN, hz1, cell_atI g1] at this
    simpa using this
  have hb2 : b2 < C.w0.heap.size ∧ ¬ pl.Z b2 := by
    obtain ⟨p1, p2, _⟩ := Rl.own 2 _ b2 o2 r2 (by intro h; cases h) hlo2
    exact ⟨p1, p2⟩
  have hne : ∀ b o, pl.loc 1 = some (b, o) → b2 ≠ b := fun b o h e => by
    subst e
    have := Rl.inj 1 2 _ _ b2 o o2 r1 (by intro h; cases h) r2 (by intro h; cases h) h hlo2
    omega
  have fin : ∀ (w' : World) (b' o' c' : Nat), Quiet C.w0 w' → C.w0.heap.size ≤ w'.heap.size → (∀ k, k < C.w0.heap.size → (∀ b o, pl.loc 1 = some (b, o) → k ≠ b) → w'.heap[k]? = C.w0.heap[k]?) →
      (∀ (b : Nat) (arr : Array Value) (T : TypeId) (fr : Nat × Nat), C.w0.heap[b]? = some (Obj.cells arr T fr) → ∃ (arr' : Array Value) (T' : TypeId) (fr' : Nat × Nat), w'.heap[b]? = some (Obj.cells arr' T' fr') ∧ arr'.size = arr.size) →
      IntsAt w' b' o' (insL i l v) c' → ((∃ o, pl.loc 1 = some (b', o)) ∨ C.w0.heap.size ≤ b') → b' < w'.heap.size →
      ∃ res rout vs pl', (res = [.rw 3] ∧ rout = [⟨0, .gone⟩, ⟨0, Row.arr [] (Ty.int .i64) v⟩, ⟨0, Row.arr [] (Ty.int .i64) (insL i l v)⟩]) ∧ Ending.returned (.slice (some ⟨b', o', none⟩) (l.length + v.length) c') = .returned (tupVal vs) ∧ Inv C 0 pl' ⟨fun _ => none, rowsOf rout⟩ ⟨#[], []⟩ w' ∧ (∀ i s, rowsOf rout i = some s → rowOk (rowsOf rout) s.row) ∧ Mens (rowsOf rout) res ∧ VRs w' pl' (rowsOf rout) res vs := by
    intro w' b' o' c' hq hsz hkeep hblk hI hb' hbs
    obtain ⟨arr, T, fr, i1, i2, i3, i4, i5⟩ := hI
    have hb'2 : b2 ≠ b' := by
      rcases hb' with ⟨o, h⟩ | h
      · exact hne b' o h
      · omega
    have hZ' : ¬ pl.Z b' := by
      rcases hb' with ⟨o, h⟩ | h
      · exact (Rl.own 1 _ b' o r1 (by intro h; cases h) h).2.1
      · intro hZ
        have := hC.z b' (by rw [← hz]; exact hZ)
        have := hC.size
        omega
    have hOwn : C.B ≤ b' ∨ C.G b' := by
      rcases hb' with ⟨o, h⟩ | h
      · exact (Rl.own 1 _ b' o r1 (by intro h; cases h) h).2.2
      · left; have := hC.size; omega
    refine ⟨[.rw 3], [⟨0, .gone⟩, ⟨0, Row.arr [] (Ty.int .i64) v⟩, ⟨0, Row.arr [] (Ty.int .i64) (insL i l v)⟩], [.slice (some ⟨b', o', none⟩) (l.length + v.length) c'], ⟨fun r => if r = 3 then some (b', o') else pl.loc r, pl.Z, pl.L⟩, ⟨rfl, rfl⟩, rfl,
      ⟨⟨fun s v h => (by cases h), fun r s h => ?_, rowsOf_zero [⟨0, .gone⟩, ⟨0, Row.arr [] (Ty.int .i64) v⟩, ⟨0, Row.arr [] (Ty.int .i64) (insL i l v)⟩], fun r r' s s' b o o' hr hlv hr' hlv' hb1 hb2' => ?_, fun r s b o hr hlv hlo => ?_, rfl⟩, hz, hl, Nat.zero_le _, ?_, hq, fun b hb hG => ?_, hblk, fun j h1 h2 => ?_⟩, fun j s h => ?_, ?_, ?_⟩
    · rcases rO' r s h with ⟨rfl, rfl⟩ | ⟨rfl, rfl⟩ | ⟨rfl, rfl⟩
      · trivial
      · simp only [RowR]
        refine ⟨fun q hq => (by cases hq), ?_⟩
        rw [if_neg (by omega)]
        simp only [hlo2]
        have hh : w'.heap[b2]? = some (Obj.cells arr2 T2 fr2) := (hkeep b2 hb2.1 (fun b o h => hne b o h)).trans g1
        refine ⟨arr2, T2, fr2, hh, e2, e3, fun _ j x hx => ?_⟩
        refine ⟨[.int .i64 x], rfl, fun k u hu => ?_⟩
        have hk : k = 0 := by
          have := (List.getElem?_eq_some_iff.1 hu).1
          simp at this; exact this
        subst hk
        have hu' : u = .int .i64 x := by simpa using hu.symm
        rw [addN, hz1, cell_atI hh, hu']
        have := hvs j x hx
        simpa using this
      · simp only [RowR]
        refine ⟨fun q hq => (by cases hq), ?_⟩
        simp only [if_true]
        refine ⟨arr, T, fr, i1, by rw [hz1]; omega, .inl i4, fun _ j x hx => ?_⟩
        refine ⟨[.int .i64 x], rfl, fun k u hu => ?_⟩
        have hk : k = 0 := by
          have := (List.getElem?_eq_some_iff.1 hu).1
          simp at this; exact this
        subst hk
        have hu' : u = .int .i64 x := by simpa using hu.symm
        rw [addN, hz1, cell_atI i1, hu']
        have := i5 j x hx
        simpa using this
    · rcases rO' r s hr with ⟨rfl, rfl⟩ | ⟨rfl, rfl⟩ | ⟨rfl, rfl⟩
      · exact absurd rfl hlv
      · rcases rO' r' s' hr' with ⟨rfl, rfl⟩ | ⟨rfl, rfl⟩ | ⟨rfl, rfl⟩
        · exact absurd rfl hlv'
        · rfl
        · simp only [hlo2] at hb1 hb2'
          rw [if_neg (by omega)] at hb1
          simp only [if_true] at hb2'
          simp only [Option.some.injEq, Prod.mk.injEq] at hb1 hb2'
          omega
      · rcases rO' r' s' hr' with ⟨rfl, rfl⟩ | ⟨rfl, rfl⟩ | ⟨rfl, rfl⟩
        · exact absurd rfl hlv'
        · simp only [hlo2] at hb1 hb2'
          simp only [if_true] at hb1
          rw [if_neg (by omega)] at hb2'
          simp only [Option.some.injEq, Prod.mk.injEq] at hb1 hb2'
          omega
        · rfl
    · rcases rO' r s hr with ⟨rfl, rfl⟩ | ⟨rfl, rfl⟩ | ⟨rfl, rfl⟩
      · exact absurd rfl hlv
      · simp only at hlo
        rw [if_neg (by omega)] at hlo
        obtain ⟨p1, p2, p3⟩ := Rl.own 2 _ b o r2 (by intro h; cases h) hlo
        exact ⟨by omega, p2, p3⟩
      · simp only at hlo
        simp only [if_true] at hlo
        simp only [Option.some.injEq, Prod.mk.injEq] at hlo
        obtain ⟨rfl, rfl⟩ := hlo
        exact ⟨hbs, hZ', hOwn⟩
    · rw [hC.size]; exact hsz
    · rw [hC.size] at hb
      refine hkeep b hb (fun b' o' hlo he => ?_)
      subst he
      obtain ⟨p1, p2, p3⟩ := Rl.own 1 _ b o' r1 (by intro h; cases h) hlo
      rw [hC.size] at p3
      rcases p3 with p3 | p3
      · omega
      · exact hG p3
    · have hn2 : C.n = 2 := hn
      rcases (show j = 1 ∨ j = 2 by omega) with rfl | rfl
      · exact ⟨_, q1, fun h => absurd rfl h⟩
      · refine ⟨_, q2, fun _ => ?_⟩
        simp only
        rw [if_neg (by omega)]
        exact (hloc 2 h1 h2).symm
    · rcases rO' j s h with ⟨rfl, rfl⟩ | ⟨rfl, rfl⟩ | ⟨rfl, rfl⟩ <;> first | trivial | rfl
    · exact ⟨by rw [Men, q3]; exact Option.some_ne_none _, trivial⟩
    · refine ⟨_, _, rfl, ⟨rfl, fun n p t l' h => ?_⟩, rfl⟩
      rw [q3] at h
      cases h
      refine ⟨some ⟨b', o', none⟩, c', by rw [insL_len i l v hi], i3, fun hc => ⟨b', o', by simp, by simp, arr, T, fr, i1, by rw [hz1]; omega, i2.2⟩⟩
  have hA2' : Value.slice (some ⟨b2, o2 + 0 * (Ty.int .i64).size, none⟩) v.length c2 = .slice (some ⟨b2, o2, none⟩) v.length c2 := by rw [Nat.zero_mul, Nat.add_zero]
  rw [hA2']
  have hvm : ∀ (j : Nat) (u : Value), (v.map eI)[j]? = some u → C.w0.cell? ⟨b2, o2 + j, none⟩ = some u := fun j u hu => by
    rw [List.getElem?_map] at hu
    cases hx : v[j]? with
    | none => rw [hx] at hu; cases hu
    | some x =>
      rw [hx] at hu
      cases hu
      rw [cell_atI g1]
      exact hvs j x hx
  have hblkNew : ∀ (w' : World), (∀ k, k < C.w0.heap.size → w'.heap[k]? = C.w0.heap[k]?) → ∀ (b : Nat) (arr : Array Value) (T : TypeId) (fr : Nat × Nat), C.w0.heap[b]? = some (Obj.cells arr T fr) → ∃ (arr' : Array Value) (T' : TypeId) (fr' : Nat × Nat), w'.heap[b]? = some (Obj.cells arr' T' fr') ∧ arr'.size = arr.size := fun w' h b arr T fr hb =>
    ⟨arr, T, fr, (h b (Array.getElem?_eq_some_iff.1 hb).1).trans hb, rfl⟩
  have zsz : ∀ k, (Builtin.zeroCells (Value.int .i64 0).cells k).size = k := fun k => by simp [Builtin.zeroCells, Value.cells]
  by_cases hfit : l.length + v.length ≤ c
  · -- there is room
    obtain ⟨b, o, hlo, rfl, arr, T, fr, k1, k2⟩ := hA (by omega)
    simp only [RowR, hlo] at hrow1
    obtain ⟨_, arr', T', fr', d1, d2, d3, d4⟩ := hrow1
    rw [k1] at d1
    cases d1
    have hfr : fr.1 = fr.2 := d3.resolve_right (fun h => by cases h.1)
    have hls : ∀ (j : Nat) (x : Int), l[j]? = some x → arr[o + j]? = some (eI x) := fun j x hx => by
      obtain ⟨es, f1, f2⟩ := d4 rfl j x hx
      have f3 : es = [.int .i64 x] := f1
      have := f2 0 (.int .i64 x) (by rw [f3]; rfl)
      rw [addN, hz1, cell_atI k1] at this
      simpa using this
    have hlm : ∀ (j : Nat) (u : Value), (l.map eI)[j]? = some u → C.w0.cell? ⟨b, o + j, none⟩ = some u := fun j u hu => by
      rw [List.getElem?_map] at hu
      cases hx : l[j]? with
      | none => rw [hx] at hu; cases hu
      | some x =>
        rw [hx] at hu
        cases hu
        rw [cell_atI k1]
        exact hls j x hx
    have hkc : o + c ≤ arr.size := by rw [hz1] at k2; omega
    have hA' : Value.slice (some ⟨b, o + 0 * (Ty.int .i64).size, none⟩) l.length c = .slice (some ⟨b, o, none⟩) l.length c := by rw [Nat.zero_mul, Nat.add_zero]
    rw [hA']
    have hbz : b < C.w0.heap.size := (Rl.own 1 _ b o r1 (by intro h; cases h) hlo).1
    have hsp : ∀ j, j < l.length + v.length → (C.w0.cell? ⟨b, o + j, none⟩).isSome = true := fun j hj => by
      rw [cell_atI k1, Array.getElem?_eq_getElem (by omega)]; rfl
    have hblk : ∀ (w' : World) (ar : Array Value) (T0 : TypeId) (f0 : Nat × Nat), (∀ k, k ≠ b → w'.heap[k]? = C.w0.heap[k]?) → w'.heap[b]? = some (Obj.cells ar T0 f0) → ar.size = arr.size → ∀ (b : Nat) (arr : Array Value) (T : TypeId) (fr : Nat × Nat), C.w0.heap[b]? = some (Obj.cells arr T fr) → ∃ (arr' : Array Value) (T' : TypeId) (fr' : Nat × Nat), w'.heap[b]? = some (Obj.cells arr' T' fr') ∧ arr'.size = arr.size := fun w' ar T0 f0 h1 h2 h3 d arr3 T3 fr3 hd => by
      by_cases e : d = b
      · subst e
        rw [k1] at hd
        cases hd
        exact ⟨ar, T0, f0, h2, h3⟩
      · exact ⟨arr3, T3, fr3, (h1 d e).trans hd, rfl⟩
    by_cases hin : i < l.length
    · have hcall := Go.Proofs.Any2.slices_Insert_int_shift Try.insIn b o l.length c i b2 o2 v.length c2 (l.map eI) (v.map eI) C.w0 hin hv0 hfit (by omega) (hne b o hlo) (by simp) (by simp) hlm hsp
        (fun j _ => frozen_atI k1 hfr) hvm (one_ints l) (one_ints v) T2 T arr2.size arr.size (by simp [World.shape?, g1]) (by simp [World.shape?, k1]) (by omega) (frozen_atI g1 hfr2) (frozen_atI g1 hfr2)
      refine calls_mono hcall fun e w' hw => ?_
      obtain ⟨rfl, rfl⟩ := hw
      have kd : C.w0.drew.heap[b]? = some (Obj.cells arr T fr) := k1
      obtain ⟨a1, s1, s2⟩ := setCells_heap b ((l.map eI).drop i) (o + (i + v.length)) C.w0.drew arr T fr kd (by rw [List.length_drop, List.length_map]; omega)
      have z1 := put_size s2 (by rw [List.length_drop, List.length_map]; omega)
      obtain ⟨a2, s3, s4⟩ := setCells_heap b (v.map eI) (o + i) _ a1 T fr s1 (by rw [List.length_map]; omega)
      have z2 := put_size s4 (by rw [List.length_map]; omega)
      have hoth : ∀ k, k ≠ b → (((C.w0.drew.setCells b (o + (i + v.length)) ((l.map eI).drop i)).setCells b (o + i) (v.map eI))).heap[k]? = C.w0.heap[k]? := fun k hk => by
        rw [setCells_other b _ _ _ k hk, setCells_other b _ _ _ k hk]; rfl
      refine fin _ b o c (Quiet.trans (b := C.w0.drew) ⟨rfl, rfl, rfl⟩ ((setCells_quiet b _ _ _).trans (setCells_quiet b _ _ _))) (by rw [setCells_size, setCells_size]; exact Nat.le_refl _) (fun k hk hn => hoth k (hn b o hlo)) (hblk _ a2 T fr hoth s3 (by omega)) ?_ (.inl ⟨o, hlo⟩) (by rw [setCells_size, setCells_size]; exact hbz)
      refine ⟨a2, T, fr, s3, ⟨by omega, by omega⟩, by rw [insL_len i l v hi]; exact hfit, hfr, fun j x hx => ?_⟩
      rw [insL_get i l v hi] at hx
      rw [put_get s4 (by rw [List.length_map]; omega), put_get s2 (by rw [List.length_drop, List.length_map]; omega)]
      simp only [List.length_map, List.length_drop]
      split at hx
      · rw [if_pos (by omega), if_pos (by omega)]
        exact hls j x hx
      · split at hx
        · rw [if_neg (by omega), if_pos (by omega), show o + j - (o + i) = j - i by omega, List.getElem?_map, hx]; rfl
        · have hjl : j - v.length < l.length := (List.getElem?_eq_some_iff.1 hx).1
          rw [if_neg (by omega), if_neg (by omega), if_neg (by omega), if_pos (by omega), List.getElem?_drop, show i + (o + j - (o + (i + v.length))) = j - v.length by omega, List.getElem?_map, hx]; rfl
    · have hie : i = l.length := by omega
      subst hie
      have hcall := Go.Proofs.Any2.slices_Insert_int_end_room Try.insIn b o l.length c b2 o2 v.length c2 (v.map eI) C.w0 hv0 hfit (by omega) (by simp) (fun j hj => by rw [Nat.add_assoc]; exact hsp _ (by omega))
        (fun j _ => frozen_atI k1 hfr) hvm (one_ints v)
      refine calls_mono hcall fun e w' hw => ?_
      obtain ⟨rfl, rfl⟩ := hw
      obtain ⟨a2, s3, s4⟩ := setCells_heap b (v.map eI) (o + l.length) C.w0 arr T fr k1 (by rw [List.length_map]; omega)
      have z2 := put_size s4 (by rw [List.length_map]; omega)
      have hoth : ∀ k, k ≠ b → (C.w0.setCells b (o + l.length) (v.map eI)).heap[k]? = C.w0.heap[k]? := fun k hk => setCells_other b _ _ _ k hk
      refine fin _ b o c (setCells_quiet b _ _ _) (by rw [setCells_size]; exact Nat.le_refl _) (fun k hk hn => hoth k (hn b o hlo)) (hblk _ a2 T fr hoth s3 z2) ?_ (.inl ⟨o, hlo⟩) (by rw [setCells_size]; exact hbz)
      refine ⟨a2, T, fr, s3, ⟨by omega, by omega⟩, by rw [insL_len _ l v hi]; exact hfit, hfr, fun j x hx => ?_⟩
      rw [insL_get _ l v hi] at hx
      rw [put_get s4 (by rw [List.length_map]; omega)]
      simp only [List.length_map]
      split at hx
      · rw [if_pos (by omega)]
        exact hls j x hx
      · split at hx
        · rw [if_neg (by omega), if_pos (by omega), show o + j - (o + l.length) = j - l.length by omega, List.getElem?_map, hx]; rfl
        · have hjl : j - v.length < l.length := (List.getElem?_eq_some_iff.1 hx).1
          omega
  · -- a new block
    have hGn := grownCap_ge C.w0 (l.length + v.length) c
    by_cases hin : i < l.length
    · obtain ⟨b, o, hlo, rfl, arr, T, fr, k1, k2⟩ := hA (by omega)
      simp only [RowR, hlo] at hrow1
      obtain ⟨_, arr', T', fr', d1, d2, d3, d4⟩ := hrow1
      rw [k1] at d1
      cases d1
      have hlm : ∀ (j : Nat) (u : Value), (l.map eI)[j]? = some u → C.w0.cell? ⟨b, o + j, none⟩ = some u := fun j u hu => by
        rw [List.getElem?_map] at hu
        cases hx : l[j]? with
        | none => rw [hx] at hu; cases hu
        | some x =>
          rw [hx] at hu
          cases hu
          obtain ⟨es, f1, f2⟩ := d4 rfl j x hx
          have f3 : es = [.int .i64 x] := f1
          have := f2 0 (.int .i64 x) (by rw [f3]; rfl)
          rw [addN, hz1] at this
          simpa using this
      have hA' : Value.slice (some ⟨b, o + 0 * (Ty.int .i64).size, none⟩) l.length c = .slice (some ⟨b, o, none⟩) l.length c := by rw [Nat.zero_mul, Nat.add_zero]
      rw [hA']
      have hcall := Go.Proofs.Any2.slices_Insert_int_grow Try.insIn b o l.length c i b2 o2 v.length c2 (l.map eI) (v.map eI) C.w0 hin hv0 hnc (by omega) (by omega) (by simp) (by simp) hlm hvm (one_ints l) (one_ints v)
      refine calls_mono hcall fun e w' hw => ?_
      obtain ⟨rfl, hw⟩ := hw
      generalize Go.Shelf.Ren.t _ 3 = Te at hw ⊢
      have hG0 := grownCap_ge C.w0 (l.length + v.length) c Te
      have hG1 := grownCap_le_maxLen C.w0 (l.length + v.length) c Te (by simp only [maxLen]; omega)
      simp only [maxLen] at hG1
      generalize grownCap C.w0 (l.length + v.length) c Te = G at hw hG0 hG1 ⊢
      obtain ⟨ROW, hROW⟩ : ∃ ROW : Array Value, ROW = ((l.map eI).take i).toArray ++ Builtin.zeroCells (Value.int .i64 0).cells (l.length + v.length - i) ++ Builtin.zeroCells (Value.int .i64 0).cells (G - (l.length + v.length)) := ⟨_, rfl⟩
      rw [← hROW] at hw
      have hRs : ROW.size = G := by
        rw [hROW, Array.size_append, Array.size_append, zsz, zsz, List.size_toArray, List.length_take, List.length_map]
        omega
      have hRg : ∀ (j : Nat) (x : Int), j < i → l[j]? = some x → ROW[j]? = some (eI x) := fun j x hj hx => by
        rw [hROW, Array.append_assoc, Array.getElem?_append_left (by rw [List.size_toArray, List.length_take, List.length_map]; omega), List.getElem?_toArray, List.getElem?_take, if_pos hj, List.getElem?_map, hx]; rfl
      have k0 : (C.w0.alloc (.cells ROW Te)).drew.heap[C.w0.heap.size]? = some (Obj.cells ROW Te (0, 0)) := heap_at C.w0 _
      obtain ⟨a1, s1, s2⟩ := setCells_heap C.w0.heap.size (v.map eI) i _ ROW _ _ k0 (by rw [List.length_map]; omega)
      have z1 := put_size s2 (by rw [List.length_map]; omega)
      have s1' : ((((C.w0.alloc (.cells ROW Te)).drew).setCells C.w0.heap.size i (v.map eI)).drew).heap[C.w0.heap.size]? = some (Obj.cells a1 Te (0, 0)) := s1
      obtain ⟨a2, s3, s4⟩ := setCells_heap C.w0.heap.size ((l.map eI).drop i) (i + v.length) _ a1 _ _ s1' (by rw [List.length_drop, List.length_map]; omega)
      have z2 := put_size s4 (by rw [List.length_drop, List.length_map]; omega)
      have hold : ∀ k, k < C.w0.heap.size → w'.heap[k]? = C.w0.heap[k]? := fun k hk => by
        rw [hw, setCells_other _ _ _ _ k (by omega)]
        refine Eq.trans (setCells_other C.w0.heap.size (v.map eI) i _ k (by omega)) ?_
        exact heap_new C.w0 _ k hk
      have hsz : w'.heap.size = C.w0.heap.size + 1 := by
        rw [hw, setCells_size]
        refine Eq.trans (setCells_size C.w0.heap.size (v.map eI) i _) ?_
        show (C.w0.heap.push _).size = _
        simp
      have hqu : Quiet C.w0 w' := by
        rw [hw]
        refine Quiet.trans (b := (C.w0.alloc (.cells ROW Te)).drew) ⟨rfl, rfl, rfl⟩ (Quiet.trans (setCells_quiet _ _ _ _) (Quiet.trans (b := (((C.w0.alloc (.cells ROW Te)).drew).setCells C.w0.heap.size i (v.map eI)).drew) ⟨rfl, rfl, rfl⟩ (setCells_quiet _ _ _ _)))
      refine fin w' C.w0.heap.size 0 G hqu (by omega) (fun k hk _ => hold k hk) (hblkNew w' hold) ?_ (.inr (Nat.le_refl _)) (by omega)
      refine ⟨a2, _, (0, 0), by rw [hw]; exact s3, ⟨by omega, by omega⟩, by rw [insL_len i l v hi]; exact hG0, rfl, fun j x hx => ?_⟩
      rw [insL_get i l v hi] at hx
      rw [Nat.zero_add, put_get s4 (by rw [List.length_drop, List.length_map]; omega), put_get s2 (by rw [List.length_map]; omega)]
      simp only [List.length_map, List.length_drop]
      split at hx
      · rename_i hji
        rw [if_pos (by omega), if_pos (by omega)]
        exact hRg j x hji hx
      · split at hx
        · rw [if_pos (by omega), if_neg (by omega), if_pos (by omega), List.getElem?_map, hx]; rfl
        · have hjl : j - v.length < l.length := (List.getElem?_eq_some_iff.1 hx).1
          rw [if_neg (by omega), if_pos (by omega), List.getElem?_drop, show i + (j - (i + v.length)) = j - v.length by omega, List.getElem?_map, hx]; rfl
    · have hie : i = l.length := by omega
      subst hie
      have hnil : A = none → l.length = 0 := fun e => by
        rcases Nat.eq_zero_or_pos c with h | h
        · omega
        · obtain ⟨b, o, _, h2, _⟩ := hA h
          rw [h2] at e; cases e
      have hcs : ∀ a, A = some a → ∀ (j : Nat) (u : Value), (l.map eI)[j]? = some u → C.w0.cell? (a.add j) = some u := fun a ha j u hu => by
        rw [List.getElem?_map] at hu
        cases hx : l[j]? with
        | none => rw [hx] at hu; cases hu
        | some x =>
          rw [hx] at hu
          cases hu
          have hjl : j < l.length := (List.getElem?_eq_some_iff.1 hx).1
          obtain ⟨b, o, hlo, hAe, arr, T, fr, k1, k2⟩ := hA (by omega)
          simp only [RowR, hlo] at hrow1
          obtain ⟨_, arr', T', fr', d1, d2, d3, d4⟩ := hrow1
          obtain ⟨es, f1, f2⟩ := d4 rfl j x hx
          have f3 : es = [.int .i64 x] := f1
          have := f2 0 (.int .i64 x) (by rw [f3]; rfl)
          rw [addN, hz1] at this
          rw [hAe] at ha
          cases ha
          rw [addN]
          simpa using this
      have hcall := Go.Proofs.Any2.slices_Insert_int_end_grow Try.insIn A l.length c b2 o2 v.length c2 (l.map eI) (v.map eI) C.w0 hv0 hnc (by omega) (by omega) (by simp) (by simp) hnil hcs hvm (one_ints v)
      refine calls_mono hcall fun e w' hw => ?_
      obtain ⟨rfl, hw⟩ := hw
      generalize Go.Shelf.Ren.t _ 3 = Te at hw ⊢
      have hG0 := grownCap_ge C.w0 (l.length + v.length) c Te
      have hG1 := grownCap_le_maxLen C.w0 (l.length + v.length) c Te (by simp only [maxLen]; omega)
      simp only [maxLen] at hG1
      generalize grownCap C.w0 (l.length + v.length) c Te = G at hw hG0 hG1 ⊢
      obtain ⟨ROW, hROW⟩ : ∃ ROW : Array Value, ROW = (l.map eI ++ v.map eI).toArray ++ Builtin.zeroCells (Value.int .i64 0).cells (G - (l.length + v.length)) := ⟨_, rfl⟩
      rw [← hROW] at hw
      have hRs : ROW.size = G := by
        rw [hROW, Array.size_append, zsz, List.size_toArray, List.length_append, List.length_map, List.length_map]
        omega
      have k0 : w'.heap[C.w0.heap.size]? = some (Obj.cells ROW Te (0, 0)) := by rw [hw]; exact heap_at C.w0.drew _
      have hold : ∀ k, k < C.w0.heap.size → w'.heap[k]? = C.w0.heap[k]? := fun k hk => by
        rw [hw]; exact heap_new C.w0.drew _ k hk
      have hsz : w'.heap.size = C.w0.heap.size + 1 := by rw [hw]; show (C.w0.heap.push _).size = _; simp
      have hqu : Quiet C.w0 w' := by rw [hw]; exact ⟨rfl, rfl, rfl⟩
      refine fin w' C.w0.heap.size 0 G hqu (by omega) (fun k hk _ => hold k hk) (hblkNew w' hold) ?_ (.inr (Nat.le_refl _)) (by omega)
      refine ⟨ROW, _, (0, 0), k0, ⟨by omega, by omega⟩, by rw [insL_len _ l v hi]; exact hG0, rfl, fun j x hx => ?_⟩
      rw [insL_get _ l v hi] at hx
      rw [Nat.zero_add, hROW]
      split at hx
      · rw [Array.getElem?_append_left (by rw [List.size_toArray, List.length_append, List.length_map, List.length_map]; omega), List.getElem?_toArray, List.getElem?_append_left (by rw [List.length_map]; omega), List.getElem?_map, hx]; rfl
      · split at hx
        · rw [Array.getElem?_append_left (by rw [List.size_toArray, List.length_append, List.length_map, List.length_map]; omega), List.getElem?_toArray, List.getElem?_append_right (by rw [List.length_map]; omega), List.length_map, List.getElem?_map, hx]; rfl
        · have hjl : j - v.length < l.length := (List.getElem?_eq_some_iff.1 hx).1
          omega
theorem insert_good : ExtOk Try.prog 103 insSpec := by
  refine ⟨⟨Try.f103, Option.get Try.f103.body (by kernel_rfl), by kernel_rfl, (Option.some_get _).symm, ne_of_beq_false (by kernel_rfl)⟩, fun ws rs res rout hspec => ?_⟩
  unfold insSpec at hspec
  split at hspec
  · split at hspec
    · rename_i ht
      obtain ⟨rfl, rfl, rfl⟩ := ht
      simp only [castZ, castZs] at hspec

      rename_i n1 n2 i l v
      cases hcond : insOk i l v with
      | false => rw [hcond] at hspec; cases hspec
      | true =>
        rw [hcond] at hspec
        simp only [cond_true, Option.some.injEq, Prod.mk.injEq] at hspec
        obtain ⟨rfl, rfl⟩ := hspec
        simp only [insOk, Bool.and_eq_true, decide_eq_true_eq] at hcond
        obtain ⟨h0, h1, h2, h3⟩ := hcond
        obtain ⟨j, rfl⟩ := Int.eq_ofNat_of_zero_le h0
        intro C pl us hC hn hz hl hloc Rl hm hok hv
        exact insert_core j l v (Int.ofNat_le.1 h1) h2 h3 _ _ C pl us hC hn hz hl hloc Rl hm hok hv
    · cases hspec
  · cases hspec
end Go.Proofs.Ytadkplikobhckaa.PM
