/- bytes.Repeat at one byte: the walk. -/
import Derived.Test.YtoepnomdklhhlaaGreatRpA
set_option linter.unusedVariables false
set_option linter.unusedSimpArgs false
namespace Go.Proofs.YtoepnomdklhhlaaGreat
open Go Go.Shelf Go.RowKit Go.Lib
theorem setCells_shape (b : Nat) : ∀ (vs : List Value) (o : Nat) (w : World) (arr : Array Value) (T : TypeId) (fr : Nat × Nat), w.heap[b]? = some (Obj.cells arr T fr) →
    ∃ arr' : Array Value, (w.setCells b o vs).heap[b]? = some (Obj.cells arr' T fr) ∧ arr'.size = arr.size
  | [], o, w, arr, T, fr, h => ⟨arr, h, rfl⟩
  | v :: vs, o, w, arr, T, fr, h => by
    have h1 : (w.setCell ⟨b, o, none⟩ v).heap[b]? = some (Obj.cells (arr.setIfInBounds o v) T fr) := by
      simp [World.setCell, Array.getElem?_modify, h]
    obtain ⟨arr', g1, g2⟩ := setCells_shape b vs (o + 1) _ _ T fr h1
    exact ⟨arr', g1, by rw [g2]; simp⟩
/-- The buffer, and that its block is plain memory. -/
structure Buf2 (w0 wr : World) (h N : Nat) (acc : List UInt8) (T : TypeId) : Prop where
  buf : Lib.Buf w0 wr h N acc
  shape : ∃ arr : Array Value, wr.heap[h]? = some (Obj.cells arr T (0, 0)) ∧ N ≤ arr.size
/-- 'copy(nb[bp:], ..)' of a buffer that is filled up to bp. -/
theorem copy_on {P : Program} (w0 wr : World) (h N slen cap : Nat) (acc l : List UInt8) (src : Addr) (t ty e T : TypeId) (hu : P.underlying t = some (.slice e)) (hs : (P.info? e).map (·.size) = some 1)
    (hb2 : Buf2 w0 wr h N acc T) (hc : ∀ (j : Nat) y, l[j]? = some y → wr.cell? (src.add j) = some (.int .u8 (y.toNat : Int))) (hl : l.length = min (N - acc.length) slen) (dcap : Nat) :
    ∃ wr', (Builtin.copy_ #[t, t] ty #[.slice (some ⟨h, acc.length, none⟩) (N - acc.length) dcap, .slice (some src) slen cap]).run P wr = .ok (.int .i64 (l.length : Int)) wr' ∧ Buf2 w0 wr' h N (acc ++ l) T := by
  have hb := hb2.buf
  have hfit := hb.fits
  have hr := run_copy_cells (P := P) wr t t ty e h acc.length (N - acc.length) dcap src slen cap (l.map fun x => Value.int .u8 (x.toNat : Int)) hu hs (by rw [List.length_map, hl]; exact Nat.min_comm _ _)
    (fun j u hj => by
      rw [List.getElem?_map] at hj
      obtain ⟨x, hx, rfl⟩ := Option.map_eq_some_iff.1 hj
      exact hc j x hx)
    (fun j hj => by rw [List.length_map] at hj; exact hb.there _ (by omega)) (fun j hj => by rw [List.length_map] at hj; exact hb.free _ (by omega))
    (fun u hu' => by obtain ⟨x, _, rfl⟩ := List.mem_map.1 hu'; rfl)
  rw [List.length_map] at hr
  refine ⟨_, hr, ⟨?_, ?_⟩⟩
  · have hin := World.cell?_setCells_in h (l.map fun x => Value.int .u8 (x.toNat : Int)) acc.length wr (fun j hj => by rw [List.length_map] at hj; exact hb.there _ (by omega))
    have hout := World.cell?_setCells_out h (l.map fun x => Value.int .u8 (x.toNat : Int)) acc.length wr
    refine ⟨?_, ?_, ?_, ?_, by rw [List.length_append]; omega⟩
    · exact Lib.below_setCells h (Nat.le_refl _) _ _ hb.below
    · intro j hj
      by_cases h1 : acc.length ≤ j ∧ j < acc.length + l.length
      · obtain ⟨d, rfl⟩ : ∃ d, j = acc.length + d := ⟨j - acc.length, by omega⟩
        rw [hin d (by rw [List.length_map]; omega)]
        rfl
      · rw [hout ⟨h, j, none⟩ (fun _ _ => by rw [List.length_map]; show j < _ ∨ _ ≤ j; omega)]
        exact hb.there j hj
    · intro j hj
      rw [World.frozen?_setCells]
      exact hb.free j hj
    · intro j x hx
      by_cases h1 : j < acc.length
      · rw [List.getElem?_append_left h1] at hx
        rw [hout ⟨h, j, none⟩ (fun _ _ => Or.inl h1)]
        exact hb.holds j x hx
      · rw [List.getElem?_append_right (by omega)] at hx
        obtain ⟨d, rfl⟩ : ∃ d, j = acc.length + d := ⟨j - acc.length, by omega⟩
        rw [Nat.add_sub_cancel_left] at hx
        have hd : d < l.length := (List.getElem?_eq_some_iff.1 hx).1
        rw [hin d (by rw [List.length_map]; exact hd)]
        rw [List.getElem_map]
        have := (List.getElem?_eq_some_iff.1 hx).2
        rw [this]
  · obtain ⟨arr, e1, e2⟩ := hb2.shape
    obtain ⟨arr', g1, g2⟩ := setCells_shape h (l.map fun x => Value.int .u8 (x.toNat : Int)) acc.length wr arr T _ e1
    exact ⟨arr', g1, by omega⟩
theorem copy_self {P : Program} (w0 wr : World) (h N chunk cap : Nat) (acc : List UInt8) (t ty e T : TypeId) (hu : P.underlying t = some (.slice e)) (hs : (P.info? e).map (·.size) = some 1)
    (hb : Buf2 w0 wr h N acc T) (hc : chunk ≤ acc.length) (dcap : Nat) :
    ∃ wr', (Builtin.copy_ #[t, t] ty #[.slice (some ⟨h, acc.length, none⟩) (N - acc.length) dcap, .slice (some ⟨h, 0, none⟩) chunk cap]).run P wr = .ok (.int .i64 ((min chunk (N - acc.length) : Nat) : Int)) wr' ∧ Buf2 w0 wr' h N (acc ++ acc.take (min chunk (N - acc.length))) T := by
  have htl : (acc.take (min chunk (N - acc.length))).length = min chunk (N - acc.length) := by rw [List.length_take]; omega
  obtain ⟨wr', h1, h2⟩ := copy_on (P := P) w0 wr h N chunk cap acc (acc.take (min chunk (N - acc.length))) ⟨h, 0, none⟩ t ty e T hu hs hb (fun j y hy => by
    rw [List.getElem?_take] at hy
    split at hy
    · have := hb.buf.holds j y hy
      rwa [Addr.add_lit, Nat.zero_add]
    · cases hy) (by rw [htl]; omega) dcap
  rw [htl] at h1
  exact ⟨wr', h1, h2⟩
theorem Buf2.drew_ {w0 wr : World} {h N : Nat} {acc : List UInt8} {T : TypeId} (hb : Buf2 w0 wr h N acc T) : Buf2 w0 wr.drew h N acc T :=
  ⟨⟨hb.buf.below.drew, hb.buf.there, hb.buf.free, hb.buf.holds, hb.buf.fits⟩, hb.shape⟩
set_option maxHeartbeats 8000000 in
set_option maxRecDepth 1000000 in
theorem repeat_walk (x : UInt8) (a : Addr) (c n : Nat) (w : World) (h0 : 0 < n) (hn : n ≤ 1000000000000) (hc : w.cell? a = some (.int .u8 (x.toNat : Int))) :
    Calls Tryz.prog 125 #[.slice (some a) 1 c, .int .i64 (n : Int)] w fun e w' => e = .returned (.slice (some ⟨w.heap.size, 0, none⟩) n n) ∧ Buf2 w w' w.heap.size n (List.replicate n x) 5 := by
  have cm : Calls Tryz.prog 135 #[.int .u64 1, .int .u64 (n : Int)] w fun e w' => e = .returned (.tuple #[.int .u64 0, .int .u64 (n : Int)]) ∧ w' = w := by
    have := Any.bits_Mul Tryz.mulIn 1 n (by omega) (by omega) w
    rw [Nat.one_mul, Nat.div_eq_of_lt (by omega), Nat.mod_eq_of_lt (by omega)] at this
    exact this
  have e135 : ∀ args w, (callFunc 135 args).run Tryz.prog w = .ok (.enter 135 args) w := enters_of Tryz.func135 (by kernel_rfl) rfl
  have wu : IntKind.u64.wrap (n : Int) = (n : Int) := by rw [IntKind.wrap_u64]; omega
  have wi : IntKind.i64.wrap (n : Int) = (n : Int) := by rw [IntKind.wrap_i64]; omega
  have t22 : Tryz.prog.underlying 22 = some (.slice 5) := by kernel_rfl
  have f1 : ((n : Int) == 0) = false := beq_eq_false_iff_ne.2 (by omega)
  have f2 : decide ((n : Int) < 0) = false := decide_eq_false (by omega)
  obtain ⟨cs, hrunM, hle, _⟩ := Lib.run_makeNoZero (P := Tryz.prog) w #[3] 22 5 t22 n (by omega)
  have hcall : (callFunc 152 #[.int .i64 (n : Int)]).run Tryz.prog w = .ok (.value (.slice (some ⟨w.heap.size, 0, none⟩) n cs.size)) ((w.alloc (.cells cs 5)).drewN 2) := by
    rw [run_callFunc_extern Tryz.func152 (by kernel_rfl) (by kernel_rfl) (by kernel_rfl) (e := Extern.BytealgMakeNoZero.makeNoZero #[3] #[22]) (by kernel_rfl), hrunM]
    rfl
  clear hrunM
  have hs5 : (Tryz.prog.info? 5).map (·.size) = some 1 := by kernel_rfl
  have z5 : ∀ w, (Go.sizeOf 5).run Tryz.prog w = .ok 1 w := fun w => by
    obtain ⟨i, hi, hz⟩ := Option.map_eq_some_iff.1 hs5
    simp [Go.sizeOf, typeInfo, hi, hz]
  have B0 : Buf2 w ((w.alloc (.cells cs 5)).drewN 2) w.heap.size n [] 5 := ⟨Lib.Buf.start w cs 5 n 2 hle, cs, by
    have : ((w.alloc (.cells cs 5)).drewN 2).heap[w.heap.size]? = (w.heap.push (.cells cs 5))[w.heap.size]? := rfl
    rw [this]; simp, hle⟩
  obtain ⟨w1, hr1, B1⟩ := copy_on (P := Tryz.prog) w _ w.heap.size n 1 c [] [x] a 22 3 5 5 t22 hs5 B0 (fun j y hy => by
    cases j with
    | zero => simp at hy; subst hy; rw [Lib.Below.cellOf B0.buf.below (by simpa [Addr.add] using hc) (Nat.le_refl _)]
    | succ j => simp at hy) (by simp; omega) n
  rw [List.length_nil, Nat.sub_zero] at hr1
  rw [List.nil_append] at B1
  have HB1 : Aside (Buf2 w w1 w.heap.size n (List.replicate 1 x) 5) := B1
  clear B1 B0
  have mixed : Tryz.prog.follows .mixedOrders = true := by kernel_rfl
  go_enter Tryz.func125, Tryz.ntmps125
  go_wp2_with (first | (go_at_fn 135; refine cm.mono ?_; rintro e w' ⟨rfl, hw⟩; rw [hw]) | (at_builtin; refine Lib.wpList_copy_run _ rfl _ _ 22 22 rfl _ _ rfl rfl hr1 ?_))
  · generalize Value.bool (decide ((8192 : Int) < (n : Int))) = q8
    generalize Value.bool (decide ((9223372036854775807 : Int) < (n : Int))) = q9
    go_loopg [10] (n - 1) (fun g s10 wr => ∃ m : Nat, m ≤ n ∧ 1 ≤ m ∧ g = n - m ∧ s10 = .int .i64 (m : Int) ∧ Aside (Buf2 w wr w.heap.size n (List.replicate m x) 5))
    case atStart => exact ⟨1, by omega, Nat.le_refl _, rfl, rfl, HB1⟩
    case round =>
      obtain ⟨m, hm, hm1, hg, rfl, HB⟩ := hrel
      by_cases hmn : m < n
      · have hmz : (m : Int) < (n : Int) := by omega
        clear hr1 hcall
        obtain ⟨C, hC, hC1, hCm, hCn⟩ : ∃ C : Nat, min (m : Int) 8192 = (C : Int) ∧ 1 ≤ C ∧ C ≤ m ∧ C ≤ n := ⟨min m 8192, by omega, by omega, by omega, by omega⟩
        have HBd := HB.out.drew_
        have hml : (List.replicate m x).length = m := List.length_replicate
        obtain ⟨k, hk⟩ : ∃ k : Nat, min C (n - m) = k := ⟨_, rfl⟩
        have hk1 : 1 ≤ k ∧ k ≤ m ∧ m + k ≤ n := by omega
        obtain ⟨w2, hcp, B2⟩ := copy_self (P := Tryz.prog) w wr.drew w.heap.size n C n (List.replicate m x) 22 3 5 5 t22 hs5 HBd (by omega) (n - m)
        rw [hml, hk] at hcp B2
        have hrep : List.replicate m x ++ (List.replicate m x).take k = List.replicate (m + k) x := by
          rw [List.take_replicate, Nat.min_eq_left hk1.2.1, List.replicate_append_replicate]
        rw [hrep] at B2
        have H2 : Aside (Buf2 w w2 w.heap.size n (List.replicate (m + k) x) 5) := B2
        clear B2 HBd HB1 hml hrep
        have hne : ¬ n = m := by omega
        have w64 : IntKind.i64.wrap ((m : Int) + (k : Int)) = (m : Int) + (k : Int) := by rw [IntKind.wrap_i64]; omega
        go_wp2
        go_region_law_o (refine step_copy_runI rfl _ _ 22 22 rfl _ _ (by simp [Act.eval, Act.put]) (by simp [Act.eval, Act.put]) hcp ?_)
        simp [Act.put, Act.eval, w64]
        go_wp2
        go_roundg (n - (m + k))
        case measure => omega
        case rel => exact ⟨m + k, by omega, by omega, rfl, by first | rfl | (congr 1; push_cast; rfl) | go_num, H2⟩
      · obtain rfl : m = n := by omega
        go_wp2
        go_ret
        exact ⟨rfl, HB.out⟩
  · generalize Value.bool (decide ((8192 : Int) < (n : Int))) = q8
    generalize Value.bool (decide ((9223372036854775807 : Int) < (n : Int))) = q9
    go_loopg [10] (n - 1) (fun g s10 wr => ∃ m : Nat, m ≤ n ∧ 1 ≤ m ∧ g = n - m ∧ s10 = .int .i64 (m : Int) ∧ Aside (Buf2 w wr w.heap.size n (List.replicate m x) 5))
    case atStart => exact ⟨1, by omega, Nat.le_refl _, rfl, rfl, HB1⟩
    case round =>
      obtain ⟨m, hm, hm1, hg, rfl, HB⟩ := hrel
      by_cases hmn : m < n
      · have hmz : (m : Int) < (n : Int) := by omega
        clear hr1 hcall
        obtain ⟨C, hC, hC1, hCm, hCn⟩ : ∃ C : Nat, min (m : Int) (n : Int) = (C : Int) ∧ 1 ≤ C ∧ C ≤ m ∧ C ≤ n := ⟨min m n, by omega, by omega, by omega, by omega⟩
        have HBd := HB.out.drew_
        have hml : (List.replicate m x).length = m := List.length_replicate
        obtain ⟨k, hk⟩ : ∃ k : Nat, min C (n - m) = k := ⟨_, rfl⟩
        have hk1 : 1 ≤ k ∧ k ≤ m ∧ m + k ≤ n := by omega
        obtain ⟨w2, hcp, B2⟩ := copy_self (P := Tryz.prog) w wr.drew w.heap.size n C n (List.replicate m x) 22 3 5 5 t22 hs5 HBd (by omega) (n - m)
        rw [hml, hk] at hcp B2
        have hrep : List.replicate m x ++ (List.replicate m x).take k = List.replicate (m + k) x := by
          rw [List.take_replicate, Nat.min_eq_left hk1.2.1, List.replicate_append_replicate]
        rw [hrep] at B2
        have H2 : Aside (Buf2 w w2 w.heap.size n (List.replicate (m + k) x) 5) := B2
        clear B2 HBd HB1 hml hrep
        have hne : ¬ n = m := by omega
        have w64 : IntKind.i64.wrap ((m : Int) + (k : Int)) = (m : Int) + (k : Int) := by rw [IntKind.wrap_i64]; omega
        go_wp2
        go_region_law_o (refine step_copy_runI rfl _ _ 22 22 rfl _ _ (by simp [Act.eval, Act.put]) (by simp [Act.eval, Act.put]) hcp ?_)
        simp [Act.put, Act.eval, w64]
        go_wp2
        go_roundg (n - (m + k))
        case measure => omega
        case rel => exact ⟨m + k, by omega, by omega, rfl, by first | rfl | (congr 1; push_cast; rfl) | go_num, H2⟩
      · obtain rfl : m = n := by omega
        go_wp2
        go_ret
        exact ⟨rfl, HB.out⟩
end Go.Proofs.YtoepnomdklhhlaaGreat
