/- Plain laws of flash memories: pages. -/
import Derived.Test.YtecnlienmpdlaaaPlFormats
set_option linter.unusedSimpArgs false
set_option linter.unusedVariables false
namespace Go.Proofs.Ytecnlienmpdlaaa.PM
open Go Go.Proofs.Ytecnlienmpdlaaa.Bt
variable {R : Type}

def B (l : List Int) : Prop := ∀ x ∈ l, 0 ≤ x ∧ x < 256
theorem B.app {l m : List Int} (h : B l) (h' : B m) : B (l ++ m) := fun x hx => (List.mem_append.1 hx).elim (h x) (h' x)
theorem B.getD {l : List Int} (h : B l) (i : Nat) : 0 ≤ l.getD i 0 ∧ l.getD i 0 < 256 := by
  by_cases hi : i < l.length
  · rw [getD_in hi]; exact h _ (List.getElem_mem hi)
  · rw [List.getD_eq_getElem?_getD, List.getElem?_eq_none (by omega)]; exact ⟨by decide, by decide⟩
theorem B.bytesOf (s : ByteArray) : B (bytesOf s) := fun x hx => by
  unfold PM.bytesOf at hx
  obtain ⟨b, _, rfl⟩ := List.mem_map.1 hx
  have := b.toNat_lt
  omega
theorem wrap_u8_bounds (n : Int) : 0 ≤ IntKind.u8.wrap n ∧ IntKind.u8.wrap n < 256 := by
  simp [IntKind.wrap, IntKind.bits, IntKind.signed]; omega
theorem bytesOf_len (s : ByteArray) : (bytesOf s).length = s.size := by unfold bytesOf; simp
theorem empty_dec (s : ByteArray) : (s.toList == (⟨#[]⟩ : ByteArray).toList) = decide (s.size = 0) := by
  rw [ByteArray.toList_eq, ByteArray.toList_eq]
  have h : s.data.toList.length = s.size := by simp
  cases hl : s.data.toList with
  | nil =>
    rw [hl] at h
    have : s.size = 0 := by simpa using h.symm
    simp [this]
  | cons x l =>
    rw [hl] at h
    have : s.size ≠ 0 := by simp at h; omega
    simp [this]
/-! names -/
def okC (c : Int) : Bool := decide (33 ≤ c) && decide (c ≤ 126)
noncomputable def nameB (s : ByteArray) : Bool := decide (s.size ≠ 0) && decide (s.size ≤ 32) && (bytesOf s).all okC
theorem name_loop (k : Nat) (K : Bool → Option R) (x : Option R) (s : ByteArray) (hs : s.size < 4611686018427387904) : ∀ (d f i : Nat), i + d = s.size → d < f →
    f73_0d k K x s (s.size : Int) f (i : Int) = if ((bytesOf s).drop i).all okC then x else K false
  | d, 0, i, _, h => absurd h (Nat.not_lt_zero _)
  | 0, f + 1, i, hi, _ => by
    have h1 : decide ((i : Int) < (s.size : Int)) = false := by simp only [decide_eq_false_iff_not]; omega
    simp only [f73_0d, f73_0b, h1, cond_false]
    rw [List.drop_of_length_le (by rw [bytesOf_len]; omega)]
    rfl
  | d + 1, f + 1, i, hi, hf => by
    have h1 : decide ((i : Int) < (s.size : Int)) = true := by simp only [decide_eq_true_eq]; omega
    have h0 : decide ((0 : Int) ≤ (i : Int)) = true := by simp
    have hw : IntKind.i64.wrap ((i : Int) + 1) = ((i + 1 : Nat) : Int) := by rw [wi (by omega) (by omega)]; omega
    have hli : i < (bytesOf s).length := by rw [bytesOf_len]; omega
    have ih := name_loop k K x s hs d f (i + 1) (by omega) (by omega)
    simp only [f73_0d, f73_0b, h1, h0, cond_true, Bool.and_self, Int.toNat_natCast, hw, getD_in hli]
    rw [List.drop_eq_getElem_cons hli]
    by_cases a : (bytesOf s)[i] < 33
    · have e : ((bytesOf s)[i] :: (bytesOf s).drop (i + 1)).all okC = false := by
        rw [List.all_cons]
        have : okC (bytesOf s)[i] = false := by simp [okC]; omega
        rw [this]; rfl
      rw [e]
      simp [a]
    · by_cases b : (bytesOf s)[i] > 126
      · have e : ((bytesOf s)[i] :: (bytesOf s).drop (i + 1)).all okC = false := by
          rw [List.all_cons]
          have : okC (bytesOf s)[i] = false := by simp [okC]; omega
          rw [this]; rfl
        rw [e]
        simp [a, b]
      · have e : ((bytesOf s)[i] :: (bytesOf s).drop (i + 1)).all okC = ((bytesOf s).drop (i + 1)).all okC := by
          rw [List.all_cons]
          have : okC (bytesOf s)[i] = true := by simp [okC]; omega
          rw [this]; rfl
        rw [e]
        simp only [a, b, decide_false, BEq.rfl, cond_true, cond_false]
        exact ih
theorem name_loop2 (k : Nat) (K : Bool → Option R) (x : Option R) (s : ByteArray) (hs : s.size < 4611686018427387904) : ∀ (d f i : Nat), i + d = s.size → d < f →
    f54_0d k K x s f (i : Int) = if ((bytesOf s).drop i).all okC then x else K false
  | d, 0, i, _, h => absurd h (Nat.not_lt_zero _)
  | 0, f + 1, i, hi, _ => by
    have h1 : decide ((i : Int) < (s.size : Int)) = false := by simp only [decide_eq_false_iff_not]; omega
    simp only [f54_0d, f54_0b, h1, cond_false]
    rw [List.drop_of_length_le (by rw [bytesOf_len]; omega)]
    rfl
  | d + 1, f + 1, i, hi, hf => by
    have h1 : decide ((i : Int) < (s.size : Int)) = true := by simp only [decide_eq_true_eq]; omega
    have h0 : decide ((0 : Int) ≤ (i : Int)) = true := by simp
    have hw : IntKind.i64.wrap ((i : Int) + 1) = ((i + 1 : Nat) : Int) := by rw [wi (by omega) (by omega)]; omega
    have hli : i < (bytesOf s).length := by rw [bytesOf_len]; omega
    have ih := name_loop2 k K x s hs d f (i + 1) (by omega) (by omega)
    simp only [f54_0d, f54_0b, h1, h0, cond_true, Bool.and_self, Int.toNat_natCast, hw, getD_in hli]
    rw [List.drop_eq_getElem_cons hli]
    by_cases a : (bytesOf s)[i] < 33
    · have e : ((bytesOf s)[i] :: (bytesOf s).drop (i + 1)).all okC = false := by
        rw [List.all_cons]
        have : okC (bytesOf s)[i] = false := by simp [okC]; omega
        rw [this]; rfl
      rw [e]
      simp [a]
    · by_cases b : (bytesOf s)[i] > 126
      · have e : ((bytesOf s)[i] :: (bytesOf s).drop (i + 1)).all okC = false := by
          rw [List.all_cons]
          have : okC (bytesOf s)[i] = false := by simp [okC]; omega
          rw [this]; rfl
        rw [e]
        simp [a, b]
      · have e : ((bytesOf s)[i] :: (bytesOf s).drop (i + 1)).all okC = ((bytesOf s).drop (i + 1)).all okC := by
          rw [List.all_cons]
          have : okC (bytesOf s)[i] = true := by simp [okC]; omega
          rw [this]; rfl
        rw [e]
        simp only [a, b, decide_false, BEq.rfl, cond_true, cond_false]
        exact ih
theorem f53_eq {k : Nat} (s : ByteArray) (hk : s.size + 10 < k) (hs : s.size < 4611686018427387904) (K : Bool → Option R) : f53 k s K = K (nameB s) := by
  rw [f53_def]
  obtain ⟨k, rfl⟩ := succ_of (show 0 < k by omega)
  simp only [f53d, f73_def]
  obtain ⟨k, rfl⟩ := succ_of (show 0 < k by omega)
  simp only [f73d, empty_dec, f73_0_def, nameB]
  have := fun K x => name_loop (R := R) k K x s hs s.size k 0 (by omega) (by omega)
  rw [show (((0 : Nat) : Int)) = 0 from rfl] at this
  rw [this, List.drop_zero]
  by_cases h0 : s.size = 0
  · simp [h0]
  · by_cases h40 : s.size ≤ 40
    · have c40 : decide ((s.size : Int) > 40) = false := by simp only [decide_eq_false_iff_not]; omega
      simp only [h0, decide_false, BEq.rfl, cond_true, c40, cond_false]
      cases (bytesOf s).all okC
      · simp
      · by_cases h32 : s.size ≤ 32
        · have : decide ((s.size : Int) ≤ 32) = true := by simp only [decide_eq_true_eq]; omega
          have e0 : decide (s.size ≠ 0) = true := decide_eq_true h0
          simp only [this, h32, e0, if_true, BEq.rfl, cond_true, decide_true, Bool.and_self]
        · have : decide ((s.size : Int) ≤ 32) = false := by simp only [decide_eq_false_iff_not]; omega
          simp [this, h32]
    · have c40 : decide ((s.size : Int) > 40) = true := by simp only [decide_eq_true_eq]; omega
      have h32 : ¬ s.size ≤ 32 := by omega
      simp [h0, c40, h32]
theorem f54_eq {k : Nat} (s : ByteArray) (hk : s.size + 10 < k) (hs : s.size < 4611686018427387904) (K : Bool → Option R) : f54 k s K = K (nameB s) := by
  rw [f54_def]
  obtain ⟨k, rfl⟩ := succ_of (show 0 < k by omega)
  simp only [f54d, f54_0_def, nameB, f41_eq (show 0 < k by omega)]
  have := fun K x => name_loop2 (R := R) k K x s hs s.size k 0 (by omega) (by omega)
  rw [show (((0 : Nat) : Int)) = 0 from rfl] at this
  rw [this, List.drop_zero]
  cases (bytesOf s).all okC
  · simp
  · simp only [if_true, Bool.and_true]
    congr 1
    unfold inB
    by_cases h0 : s.size = 0
    · simp [h0]
    · by_cases h32 : s.size ≤ 32
      · have a : decide ((1 : Int) ≤ (s.size : Int)) = true := by simp only [decide_eq_true_eq]; omega
        have b : decide ((s.size : Int) ≤ 32) = true := by simp only [decide_eq_true_eq]; omega
        simp [a, b, h0, h32]
      · have b : decide ((s.size : Int) ≤ 32) = false := by simp only [decide_eq_false_iff_not]; omega
        simp [b, h32]
theorem nameB_size {s : ByteArray} (h : nameB s = true) : 1 ≤ s.size ∧ s.size ≤ 32 := by
  simp only [nameB, Bool.and_eq_true, decide_eq_true_eq] at h
  omega
/-! the bytes of a page -/
noncomputable def headB (gen : Int) (gone : Bool) (name : ByteArray) (index : Int) (last : Bool) (n : Int) : List Int :=
  [IntKind.u8.wrap (Int.fdiv gen (2 ^ 24)), IntKind.u8.wrap (Int.fdiv gen (2 ^ 16)), IntKind.u8.wrap (Int.fdiv gen (2 ^ 8)), IntKind.u8.wrap gen, if gone then 2 else 1, IntKind.u8.wrap (name.size : Int), IntKind.u8.wrap (Int.fdiv index (2 ^ 8)), IntKind.u8.wrap index, IntKind.u8.wrap (Int.fdiv n (2 ^ 8)), IntKind.u8.wrap n, if last then 1 else 0, 0]
noncomputable def innerB (gen : Int) (gone : Bool) (name : ByteArray) (index : Int) (last : Bool) (bytes : List Int) : List Int := headB gen gone name index last (bytes.length : Int) ++ bytesOf name ++ bytes
noncomputable def encB (ps gen : Int) (gone : Bool) (name : ByteArray) (index : Int) (last : Bool) (bytes : List Int) : List Int :=
  innerB gen gone name index last bytes ++ List.replicate (ps - 3 - ((innerB gen gone name index last bytes).length : Int)).toNat 255
noncomputable def encAll (ps gen : Int) (gone : Bool) (name : ByteArray) (index : Int) (last : Bool) (bytes : List Int) : List Int :=
  encB ps gen gone name index last bytes ++ [IntKind.u8.wrap (Int.fdiv (sumS (encB ps gen gone name index last bytes) 65535) (2 ^ 8)), IntKind.u8.wrap (sumS (encB ps gen gone name index last bytes) 65535), 165]
noncomputable def encErr (ps gen : Int) (gone : Bool) (name : ByteArray) (index : Int) (last : Bool) (bytes : List Int) : Int :=
  if inB ps 64 1024 = false then 1 else if inB gen 1 4000000000 = false then 1 else if nameB name = false then 5 else if inB index 0 65535 = false then 1
  else if (bytes.length : Int) > ps - 15 - name.size then 2 else if gone = true ∧ (0 < bytes.length ∨ index ≠ 0 ∨ last = false) then 3 else 0
theorem inner_len (gen : Int) (gone : Bool) (name : ByteArray) (index : Int) (last : Bool) (bytes : List Int) : (innerB gen gone name index last bytes).length = 12 + name.size + bytes.length := by
  unfold innerB headB; simp [bytesOf_len]; omega
theorem enc_len {ps : Int} {gen : Int} {gone : Bool} {name : ByteArray} {index : Int} {last : Bool} {bytes : List Int} (h : (bytes.length : Int) ≤ ps - 15 - name.size) : ((encB ps gen gone name index last bytes).length : Int) = ps - 3 := by
  unfold encB; rw [List.length_append, List.length_replicate, inner_len]; omega
theorem f18_eq {k : Nat} (ps gen : Int) (gone : Bool) (name : ByteArray) (index : Int) (last : Bool) (bytes : List Int) (hk : name.size + 3000 < k) (hs : name.size < 4611686018427387904) (K : Int → List Int → Option R) :
    f18 k ps gen gone name index last bytes K = K (encErr ps gen gone name index last bytes) (if encErr ps gen gone name index last bytes = 0 then encAll ps gen gone name index last bytes else []) := by
  rw [f18_def]
  obtain ⟨k, rfl⟩ := succ_of (show 0 < k by omega)
  simp only [f18d, f52_eq (show 0 < k by omega), f53_eq name (show _ < k by omega) hs]
  cases h1 : inB ps 64 1024
  · have e : encErr ps gen gone name index last bytes = 1 := by simp only [encErr, h1, if_true]
    rw [e]; simp
  · cases h2 : inB gen 1 4000000000
    · have e : encErr ps gen gone name index last bytes = 1 := by simp only [encErr, h1, h2, if_true, Bool.true_eq_false, if_false]
      rw [e]; simp
    · cases h3 : nameB name
      · have e : encErr ps gen gone name index last bytes = 5 := by simp only [encErr, h1, h2, h3, if_true, Bool.true_eq_false, if_false]
        rw [e]; simp
      · cases h4 : inB index 0 65535
        · have e : encErr ps gen gone name index last bytes = 1 := by simp only [encErr, h1, h2, h3, h4, if_true, Bool.true_eq_false, if_false]
          rw [e]; simp
        · obtain ⟨p1, p2⟩ := inB_iff.1 h1
          obtain ⟨n1, n2⟩ := nameB_size h3
          rw [wi (n := ps - 15) (by omega) (by omega), wi (n := ps - 15 - name.size) (by omega) (by omega)]
          by_cases h5 : (bytes.length : Int) > ps - 15 - name.size
          · have e : encErr ps gen gone name index last bytes = 2 := by simp only [encErr, h1, h2, h3, h4, Bool.true_eq_false, if_false]; rw [if_pos h5]
            rw [e]; simp [h5]
          · have body : ∀ (a b : Int), a = (if gone then 2 else 1) → b = (if last then 1 else 0) → (bif decide (([IntKind.u8.wrap (Int.fdiv gen (2 ^ 24)), IntKind.u8.wrap (Int.fdiv gen (2 ^ 16)), IntKind.u8.wrap (Int.fdiv gen (2 ^ 8)), IntKind.u8.wrap gen, a, IntKind.u8.wrap (name.size : Int), IntKind.u8.wrap (Int.fdiv index (2 ^ 8)), IntKind.u8.wrap index, IntKind.u8.wrap (Int.fdiv (bytes.length : Int) (2 ^ 8)), IntKind.u8.wrap (bytes.length : Int), b, (0 : Int)] : List Int).length + (bytesOf name).length ≤ LIM 1) then (bif decide ((([IntKind.u8.wrap (Int.fdiv gen (2 ^ 24)), IntKind.u8.wrap (Int.fdiv gen (2 ^ 16)), IntKind.u8.wrap (Int.fdiv gen (2 ^ 8)), IntKind.u8.wrap gen, a, IntKind.u8.wrap (name.size : Int), IntKind.u8.wrap (Int.fdiv index (2 ^ 8)), IntKind.u8.wrap index, IntKind.u8.wrap (Int.fdiv (bytes.length : Int) (2 ^ 8)), IntKind.u8.wrap (bytes.length : Int), b, (0 : Int)] : List Int) ++ (bytesOf name)).length + bytes.length ≤ LIM 1) then (f47 k ([(255 : Int)] : List Int) (IntKind.i64.wrap ((IntKind.i64.wrap (ps - (3 : Int))) - (((([IntKind.u8.wrap (Int.fdiv gen (2 ^ 24)), IntKind.u8.wrap (Int.fdiv gen (2 ^ 16)), IntKind.u8.wrap (Int.fdiv gen (2 ^ 8)), IntKind.u8.wrap gen, a, IntKind.u8.wrap (name.size : Int), IntKind.u8.wrap (Int.fdiv index (2 ^ 8)), IntKind.u8.wrap index, IntKind.u8.wrap (Int.fdiv (bytes.length : Int) (2 ^ 8)), IntKind.u8.wrap (bytes.length : Int), b, (0 : Int)] : List Int) ++ (bytesOf name)) ++ bytes).length : Int))) (fun r1 => (bif decide (((([IntKind.u8.wrap (Int.fdiv gen (2 ^ 24)), IntKind.u8.wrap (Int.fdiv gen (2 ^ 16)), IntKind.u8.wrap (Int.fdiv gen (2 ^ 8)), IntKind.u8.wrap gen, a, IntKind.u8.wrap (name.size : Int), IntKind.u8.wrap (Int.fdiv index (2 ^ 8)), IntKind.u8.wrap index, IntKind.u8.wrap (Int.fdiv (bytes.length : Int) (2 ^ 8)), IntKind.u8.wrap (bytes.length : Int), b, (0 : Int)] : List Int) ++ (bytesOf name)) ++ bytes).length + r1.length ≤ LIM 1) then (f50 k (((([IntKind.u8.wrap (Int.fdiv gen (2 ^ 24)), IntKind.u8.wrap (Int.fdiv gen (2 ^ 16)), IntKind.u8.wrap (Int.fdiv gen (2 ^ 8)), IntKind.u8.wrap gen, a, IntKind.u8.wrap (name.size : Int), IntKind.u8.wrap (Int.fdiv index (2 ^ 8)), IntKind.u8.wrap index, IntKind.u8.wrap (Int.fdiv (bytes.length : Int) (2 ^ 8)), IntKind.u8.wrap (bytes.length : Int), b, (0 : Int)] : List Int) ++ (bytesOf name)) ++ bytes) ++ r1) (fun r2 => (bif decide ((((([IntKind.u8.wrap (Int.fdiv gen (2 ^ 24)), IntKind.u8.wrap (Int.fdiv gen (2 ^ 16)), IntKind.u8.wrap (Int.fdiv gen (2 ^ 8)), IntKind.u8.wrap gen, a, IntKind.u8.wrap (name.size : Int), IntKind.u8.wrap (Int.fdiv index (2 ^ 8)), IntKind.u8.wrap index, IntKind.u8.wrap (Int.fdiv (bytes.length : Int) (2 ^ 8)), IntKind.u8.wrap (bytes.length : Int), b, (0 : Int)] : List Int) ++ (bytesOf name)) ++ bytes) ++ r1).length + ([IntKind.u8.wrap (Int.fdiv r2 (2 ^ 8)), IntKind.u8.wrap r2, (165 : Int)] : List Int).length ≤ LIM 1) then (K (0 : Int) ((((([IntKind.u8.wrap (Int.fdiv gen (2 ^ 24)), IntKind.u8.wrap (Int.fdiv gen (2 ^ 16)), IntKind.u8.wrap (Int.fdiv gen (2 ^ 8)), IntKind.u8.wrap gen, a, IntKind.u8.wrap (name.size : Int), IntKind.u8.wrap (Int.fdiv index (2 ^ 8)), IntKind.u8.wrap index, IntKind.u8.wrap (Int.fdiv (bytes.length : Int) (2 ^ 8)), IntKind.u8.wrap (bytes.length : Int), b, (0 : Int)] : List Int) ++ (bytesOf name)) ++ bytes) ++ r1) ++ ([IntKind.u8.wrap (Int.fdiv r2 (2 ^ 8)), IntKind.u8.wrap r2, (165 : Int)] : List Int))) else none))) else none))) else none) else none)
                = K 0 (encAll ps gen gone name index last bytes) := by
              intro a b ha hb
              subst ha hb
              change (bif decide ((headB gen gone name index last (bytes.length : Int)).length + (bytesOf name).length ≤ LIM 1) then (bif decide ((headB gen gone name index last (bytes.length : Int) ++ bytesOf name).length + bytes.length ≤ LIM 1) then (f47 k ([(255 : Int)] : List Int) (IntKind.i64.wrap ((IntKind.i64.wrap (ps - (3 : Int))) - ((innerB gen gone name index last bytes).length : Int))) (fun r1 => (bif decide ((innerB gen gone name index last bytes).length + r1.length ≤ LIM 1) then (f50 k (innerB gen gone name index last bytes ++ r1) (fun r2 => (bif decide ((innerB gen gone name index last bytes ++ r1).length + ([IntKind.u8.wrap (Int.fdiv r2 (2 ^ 8)), IntKind.u8.wrap r2, (165 : Int)] : List Int).length ≤ LIM 1) then (K (0 : Int) ((innerB gen gone name index last bytes ++ r1) ++ ([IntKind.u8.wrap (Int.fdiv r2 (2 ^ 8)), IntKind.u8.wrap r2, (165 : Int)] : List Int))) else none))) else none))) else none) else none) = _
              have hin := inner_len gen gone name index last bytes
              have c1 : (headB gen gone name index last (bytes.length : Int)).length + (bytesOf name).length ≤ LIM 1 := by rw [LIM1, bytesOf_len]; simp [headB]; omega
              have c2 : (headB gen gone name index last (bytes.length : Int) ++ bytesOf name).length + bytes.length ≤ LIM 1 := by rw [LIM1, List.length_append, bytesOf_len]; simp [headB]; omega
              obtain ⟨m, hm⟩ : ∃ m : Nat, ps - 3 - ((innerB gen gone name index last bytes).length : Int) = (m : Int) := ⟨(ps - 3 - ((innerB gen gone name index last bytes).length : Int)).toNat, by rw [hin]; omega⟩
              have hm2 : m ≤ 1024 := by omega
              have eb : innerB gen gone name index last bytes ++ List.replicate m 255 = encB ps gen gone name index last bytes := by unfold encB; rw [hm]; simp
              have hlen := enc_len (gen := gen) (gone := gone) (index := index) (last := last) (bytes := bytes) (name := name) (ps := ps) (by omega)
              have c3 : (innerB gen gone name index last bytes).length + (List.replicate m (255 : Int)).length ≤ LIM 1 := by rw [LIM1, List.length_replicate]; omega
              have c4 : ∀ r2 : Int, (encB ps gen gone name index last bytes).length + ([IntKind.u8.wrap (Int.fdiv r2 (2 ^ 8)), IntKind.u8.wrap r2, (165 : Int)] : List Int).length ≤ LIM 1 := fun r2 => by rw [LIM1]; simp; omega
              rw [wi (n := ps - 3) (by omega) (by omega), wi (n := ps - 3 - _) (by omega) (by omega), hm, f47_eq (by omega) (by omega)]
              simp only [c1, c2, c3, decide_true, cond_true, eb]
              rw [f50_eq _ (by omega) (by omega)]
              simp only [c4, decide_true, cond_true, encAll]
            have e0 : encErr ps gen gone name index last bytes = if gone = true ∧ (0 < bytes.length ∨ index ≠ 0 ∨ last = false) then 3 else 0 := by
              simp only [encErr, h1, h2, h3, h4, Bool.true_eq_false, if_false]; rw [if_neg h5]
            by_cases hg : gone = true
            · subst hg
              by_cases hb0 : 0 < bytes.length
              · have : decide ((bytes.length : Int) > 0) = true := by simp only [decide_eq_true_eq]; omega
                have e : encErr ps gen true name index last bytes = 3 := by rw [e0, if_pos ⟨rfl, .inl hb0⟩]
                rw [e]; simp [h5, this, hb0]
              · have hb0' : decide ((bytes.length : Int) > 0) = false := by simp only [decide_eq_false_iff_not]; omega
                by_cases hi0 : index = 0
                · cases last
                  · have e : encErr ps gen true name index false bytes = 3 := by rw [e0, if_pos ⟨rfl, .inr (.inr rfl)⟩]
                    rw [e]; simp [h5, hb0', hi0]
                  · have e : encErr ps gen true name index true bytes = 0 := by rw [e0, if_neg (by simp [hb0, hi0])]
                    rw [e]
                    simp only [h5, if_true, decide_false, cond_false, Bool.not_true, BEq.rfl, cond_true, hb0', bne_dec, hi0, decide_true, f18_1000013_def, f18_1000013d, f18_1000015_def, f18_1000015d]
                    simp only [hi0] at body
                    exact body 2 1 rfl rfl
                · have hi' : (index != 0) = true := by simpa using hi0
                  have e : encErr ps gen true name index last bytes = 3 := by rw [e0, if_pos ⟨rfl, .inr (.inl hi0)⟩]
                  rw [e]
                  simp only [h5, decide_false, cond_false, Bool.not_true, BEq.rfl, cond_true, hb0', hi', show (true == false) = false from rfl]
                  simp
            · have hg' : gone = false := by simpa using hg
              subst hg'
              have e : encErr ps gen false name index last bytes = 0 := by rw [e0, if_neg (by simp)]
              rw [e]
              simp only [h5, if_true, decide_false, cond_false, Bool.not_true, BEq.rfl, cond_true, f18_1000013_def, f18_1000013d, f18_1000015_def, f18_1000015d, show (false == true) = false from rfl]
              cases last
              · exact body 1 0 rfl rfl
              · exact body 1 1 rfl rfl
theorem f19_eq {k : Nat} (ps gen : Int) (gone : Bool) (name : ByteArray) (index : Int) (last : Bool) (bytes : List Int) (hk : name.size + 3000 < k) (hs : name.size < 4611686018427387904) (K : Int → List Int → Option R) :
    f19 k ps gen gone name index last bytes K = K (encErr ps gen gone name index last bytes) (if encErr ps gen gone name index last bytes = 0 then encAll ps gen gone name index last bytes else []) := by
  rw [f19_def]
  obtain ⟨k, rfl⟩ := succ_of (show 0 < k by omega)
  have h55 : ∀ K : Int → Option R, f55 k ps name K = K (IntKind.i64.wrap (IntKind.i64.wrap (ps - 15) - (name.size : Int))) := fun K => by
    rw [f55_def]
    obtain ⟨k, rfl⟩ := succ_of (show 0 < k by omega)
    rfl
  simp only [f19d, f41_eq (show 0 < k by omega), f54_eq name (show _ < k by omega) hs, h55]
  cases h1 : inB ps 64 1024
  · have e : encErr ps gen gone name index last bytes = 1 := by simp only [encErr, h1, if_true]
    rw [e]; simp
  · cases h2 : inB gen 1 4000000000
    · have e : encErr ps gen gone name index last bytes = 1 := by simp only [encErr, h1, h2, if_true, Bool.true_eq_false, if_false]
      rw [e]; simp
    · cases h3 : nameB name
      · have e : encErr ps gen gone name index last bytes = 5 := by simp only [encErr, h1, h2, h3, if_true, Bool.true_eq_false, if_false]
        rw [e]; simp
      · cases h4 : inB index 0 65535
        · have e : encErr ps gen gone name index last bytes = 1 := by simp only [encErr, h1, h2, h3, h4, if_true, Bool.true_eq_false, if_false]
          rw [e]; simp
        · obtain ⟨p1, p2⟩ := inB_iff.1 h1
          obtain ⟨n1, n2⟩ := nameB_size h3
          rw [wi (n := ps - 15) (by omega) (by omega), wi (n := ps - 15 - name.size) (by omega) (by omega)]
          by_cases h5 : (bytes.length : Int) > ps - 15 - name.size
          · have e : encErr ps gen gone name index last bytes = 2 := by simp only [encErr, h1, h2, h3, h4, Bool.true_eq_false, if_false]; rw [if_pos h5]
            rw [e]; simp [h5]
          · have body : ∀ (a b : Int), a = (if gone then 2 else 1) → b = (if last then 1 else 0) → (bif decide (([IntKind.u8.wrap (Int.fdiv gen (2 ^ 24)), IntKind.u8.wrap (Int.fdiv gen (2 ^ 16)), IntKind.u8.wrap (Int.fdiv gen (2 ^ 8)), IntKind.u8.wrap gen, a, IntKind.u8.wrap (name.size : Int), IntKind.u8.wrap (Int.fdiv index (2 ^ 8)), IntKind.u8.wrap index, IntKind.u8.wrap (Int.fdiv (bytes.length : Int) (2 ^ 8)), IntKind.u8.wrap (bytes.length : Int), b, (0 : Int)] : List Int).length + (bytesOf name).length ≤ LIM 1) then (bif decide ((([IntKind.u8.wrap (Int.fdiv gen (2 ^ 24)), IntKind.u8.wrap (Int.fdiv gen (2 ^ 16)), IntKind.u8.wrap (Int.fdiv gen (2 ^ 8)), IntKind.u8.wrap gen, a, IntKind.u8.wrap (name.size : Int), IntKind.u8.wrap (Int.fdiv index (2 ^ 8)), IntKind.u8.wrap index, IntKind.u8.wrap (Int.fdiv (bytes.length : Int) (2 ^ 8)), IntKind.u8.wrap (bytes.length : Int), b, (0 : Int)] : List Int) ++ (bytesOf name)).length + bytes.length ≤ LIM 1) then (f49 k (IntKind.i64.wrap ((IntKind.i64.wrap (ps - (3 : Int))) - (((([IntKind.u8.wrap (Int.fdiv gen (2 ^ 24)), IntKind.u8.wrap (Int.fdiv gen (2 ^ 16)), IntKind.u8.wrap (Int.fdiv gen (2 ^ 8)), IntKind.u8.wrap gen, a, IntKind.u8.wrap (name.size : Int), IntKind.u8.wrap (Int.fdiv index (2 ^ 8)), IntKind.u8.wrap index, IntKind.u8.wrap (Int.fdiv (bytes.length : Int) (2 ^ 8)), IntKind.u8.wrap (bytes.length : Int), b, (0 : Int)] : List Int) ++ (bytesOf name)) ++ bytes).length : Int))) (fun r1 => (bif decide (((([IntKind.u8.wrap (Int.fdiv gen (2 ^ 24)), IntKind.u8.wrap (Int.fdiv gen (2 ^ 16)), IntKind.u8.wrap (Int.fdiv gen (2 ^ 8)), IntKind.u8.wrap gen, a, IntKind.u8.wrap (name.size : Int), IntKind.u8.wrap (Int.fdiv index (2 ^ 8)), IntKind.u8.wrap index, IntKind.u8.wrap (Int.fdiv (bytes.length : Int) (2 ^ 8)), IntKind.u8.wrap (bytes.length : Int), b, (0 : Int)] : List Int) ++ (bytesOf name)) ++ bytes).length + r1.length ≤ LIM 1) then (f51 k (((([IntKind.u8.wrap (Int.fdiv gen (2 ^ 24)), IntKind.u8.wrap (Int.fdiv gen (2 ^ 16)), IntKind.u8.wrap (Int.fdiv gen (2 ^ 8)), IntKind.u8.wrap gen, a, IntKind.u8.wrap (name.size : Int), IntKind.u8.wrap (Int.fdiv index (2 ^ 8)), IntKind.u8.wrap index, IntKind.u8.wrap (Int.fdiv (bytes.length : Int) (2 ^ 8)), IntKind.u8.wrap (bytes.length : Int), b, (0 : Int)] : List Int) ++ (bytesOf name)) ++ bytes) ++ r1) (fun r2 => (bif decide ((((([IntKind.u8.wrap (Int.fdiv gen (2 ^ 24)), IntKind.u8.wrap (Int.fdiv gen (2 ^ 16)), IntKind.u8.wrap (Int.fdiv gen (2 ^ 8)), IntKind.u8.wrap gen, a, IntKind.u8.wrap (name.size : Int), IntKind.u8.wrap (Int.fdiv index (2 ^ 8)), IntKind.u8.wrap index, IntKind.u8.wrap (Int.fdiv (bytes.length : Int) (2 ^ 8)), IntKind.u8.wrap (bytes.length : Int), b, (0 : Int)] : List Int) ++ (bytesOf name)) ++ bytes) ++ r1).length + ([IntKind.u8.wrap (Int.fdiv r2 (2 ^ 8)), IntKind.u8.wrap r2, (165 : Int)] : List Int).length ≤ LIM 1) then (K (0 : Int) ((((([IntKind.u8.wrap (Int.fdiv gen (2 ^ 24)), IntKind.u8.wrap (Int.fdiv gen (2 ^ 16)), IntKind.u8.wrap (Int.fdiv gen (2 ^ 8)), IntKind.u8.wrap gen, a, IntKind.u8.wrap (name.size : Int), IntKind.u8.wrap (Int.fdiv index (2 ^ 8)), IntKind.u8.wrap index, IntKind.u8.wrap (Int.fdiv (bytes.length : Int) (2 ^ 8)), IntKind.u8.wrap (bytes.length : Int), b, (0 : Int)] : List Int) ++ (bytesOf name)) ++ bytes) ++ r1) ++ ([IntKind.u8.wrap (Int.fdiv r2 (2 ^ 8)), IntKind.u8.wrap r2, (165 : Int)] : List Int))) else none))) else none))) else none) else none)
                = K 0 (encAll ps gen gone name index last bytes) := by
              intro a b ha hb
              subst ha hb
              change (bif decide ((headB gen gone name index last (bytes.length : Int)).length + (bytesOf name).length ≤ LIM 1) then (bif decide ((headB gen gone name index last (bytes.length : Int) ++ bytesOf name).length + bytes.length ≤ LIM 1) then (f49 k (IntKind.i64.wrap ((IntKind.i64.wrap (ps - (3 : Int))) - ((innerB gen gone name index last bytes).length : Int))) (fun r1 => (bif decide ((innerB gen gone name index last bytes).length + r1.length ≤ LIM 1) then (f51 k (innerB gen gone name index last bytes ++ r1) (fun r2 => (bif decide ((innerB gen gone name index last bytes ++ r1).length + ([IntKind.u8.wrap (Int.fdiv r2 (2 ^ 8)), IntKind.u8.wrap r2, (165 : Int)] : List Int).length ≤ LIM 1) then (K (0 : Int) ((innerB gen gone name index last bytes ++ r1) ++ ([IntKind.u8.wrap (Int.fdiv r2 (2 ^ 8)), IntKind.u8.wrap r2, (165 : Int)] : List Int))) else none))) else none))) else none) else none) = _
              have hin := inner_len gen gone name index last bytes
              have c1 : (headB gen gone name index last (bytes.length : Int)).length + (bytesOf name).length ≤ LIM 1 := by rw [LIM1, bytesOf_len]; simp [headB]; omega
              have c2 : (headB gen gone name index last (bytes.length : Int) ++ bytesOf name).length + bytes.length ≤ LIM 1 := by rw [LIM1, List.length_append, bytesOf_len]; simp [headB]; omega
              obtain ⟨m, hm⟩ : ∃ m : Nat, ps - 3 - ((innerB gen gone name index last bytes).length : Int) = (m : Int) := ⟨(ps - 3 - ((innerB gen gone name index last bytes).length : Int)).toNat, by rw [hin]; omega⟩
              have hm2 : m ≤ 1024 := by omega
              have eb : innerB gen gone name index last bytes ++ List.replicate m 255 = encB ps gen gone name index last bytes := by unfold encB; rw [hm]; simp
              have hlen := enc_len (gen := gen) (gone := gone) (index := index) (last := last) (bytes := bytes) (name := name) (ps := ps) (by omega)
              have c3 : (innerB gen gone name index last bytes).length + (List.replicate m (255 : Int)).length ≤ LIM 1 := by rw [LIM1, List.length_replicate]; omega
              have c4 : ∀ r2 : Int, (encB ps gen gone name index last bytes).length + ([IntKind.u8.wrap (Int.fdiv r2 (2 ^ 8)), IntKind.u8.wrap r2, (165 : Int)] : List Int).length ≤ LIM 1 := fun r2 => by rw [LIM1]; simp; omega
              rw [wi (n := ps - 3) (by omega) (by omega), wi (n := ps - 3 - _) (by omega) (by omega), hm, f49_eq (by omega) (by omega)]
              simp only [c1, c2, c3, decide_true, cond_true, eb]
              rw [f51_eq _ (by omega) (by omega)]
              simp only [c4, decide_true, cond_true, encAll]
            have e0 : encErr ps gen gone name index last bytes = if gone = true ∧ (0 < bytes.length ∨ index ≠ 0 ∨ last = false) then 3 else 0 := by
              simp only [encErr, h1, h2, h3, h4, Bool.true_eq_false, if_false]; rw [if_neg h5]
            by_cases hg : gone = true
            · subst hg
              by_cases hb0 : 0 < bytes.length
              · have : decide ((bytes.length : Int) > 0) = true := by simp only [decide_eq_true_eq]; omega
                have e : encErr ps gen true name index last bytes = 3 := by rw [e0, if_pos ⟨rfl, .inl hb0⟩]
                rw [e]; simp [h5, this, hb0]
              · have hb0' : decide ((bytes.length : Int) > 0) = false := by simp only [decide_eq_false_iff_not]; omega
                by_cases hi0 : index = 0
                · cases last
                  · have e : encErr ps gen true name index false bytes = 3 := by rw [e0, if_pos ⟨rfl, .inr (.inr rfl)⟩]
                    rw [e]; simp [h5, hb0', hi0]
                  · have e : encErr ps gen true name index true bytes = 0 := by rw [e0, if_neg (by simp [hb0, hi0])]
                    rw [e]
                    simp only [h5, if_true, decide_false, cond_false, Bool.not_true, BEq.rfl, cond_true, hb0', bne_dec, hi0, decide_true, f19_1000013_def, f19_1000013d, f19_1000015_def, f19_1000015d]
                    simp only [hi0] at body
                    exact body 2 1 rfl rfl
                · have hi' : (index != 0) = true := by simpa using hi0
                  have e : encErr ps gen true name index last bytes = 3 := by rw [e0, if_pos ⟨rfl, .inr (.inl hi0)⟩]
                  rw [e]
                  simp only [h5, decide_false, cond_false, Bool.not_true, BEq.rfl, cond_true, hb0', hi', show (true == false) = false from rfl]
                  simp
            · have hg' : gone = false := by simpa using hg
              subst hg'
              have e : encErr ps gen false name index last bytes = 0 := by rw [e0, if_neg (by simp)]
              rw [e]
              simp only [h5, if_true, decide_false, cond_false, Bool.not_true, BEq.rfl, cond_true, f19_1000013_def, f19_1000013d, f19_1000015_def, f19_1000015d, show (false == true) = false from rfl]
              cases last
              · exact body 1 0 rfl rfl
              · exact body 1 1 rfl rfl

/-! reading -/
theorem enc_B (ps gen : Int) (gone : Bool) (name : ByteArray) (index : Int) (last : Bool) {bytes : List Int} (h : B bytes) : B (encAll ps gen gone name index last bytes) := by
  unfold encAll encB innerB
  refine B.app (B.app (B.app (B.app ?_ (B.bytesOf name)) h) ?_) ?_
  · unfold headB
    intro x hx
    simp only [List.mem_cons, List.not_mem_nil, or_false] at hx
    rcases hx with rfl | rfl | rfl | rfl | rfl | rfl | rfl | rfl | rfl | rfl | rfl | rfl <;> first
      | exact wrap_u8_bounds _
      | (split <;> decide)
      | decide
  · intro x hx
    rw [List.eq_of_mem_replicate hx]
    decide
  · intro x hx
    simp only [List.mem_cons, List.not_mem_nil, or_false] at hx
    rcases hx with rfl | rfl | rfl <;> first
      | exact wrap_u8_bounds _
      | decide
def all255 (l : List Int) : Bool := l.all fun c => decide (c = 255)
theorem free_loop (k : Nat) (hk : 0 < k) (K : Int → Option R) (x : Option R) (l : List Int) (hl : l.length < 4611686018427387904) (hK : ∀ n : Int, 0 ≤ n → K n = K 0) : ∀ (d f i : Nat), i + d = l.length → d < f →
    f108_0d k K x l (l.length : Int) f (i : Int) = if all255 (l.drop i) then x else K 0
  | d, 0, i, _, h => absurd h (Nat.not_lt_zero _)
  | 0, f + 1, i, hi, _ => by
    have h1 : decide ((i : Int) < (l.length : Int)) = false := by simp only [decide_eq_false_iff_not]; omega
    simp only [f108_0d, f108_0b, h1, cond_false]
    rw [List.drop_of_length_le (by omega)]
    rfl
  | d + 1, f + 1, i, hi, hf => by
    have h1 : decide ((i : Int) < (l.length : Int)) = true := by simp only [decide_eq_true_eq]; omega
    have h0 : decide ((0 : Int) ≤ (i : Int)) = true := by simp
    have hw : IntKind.i64.wrap ((i : Int) + 1) = ((i + 1 : Nat) : Int) := by rw [wi (by omega) (by omega)]; omega
    have hli : i < l.length := by omega
    have ih := free_loop k hk K x l hl hK d f (i + 1) (by omega) (by omega)
    simp only [f108_0d, f108_0b, h1, h0, cond_true, Bool.and_self, Int.toNat_natCast, hw, getD_in hli, f97_def]
    obtain ⟨k, rfl⟩ := succ_of hk
    simp only [f97d, bne_dec]
    rw [List.drop_eq_getElem_cons hli]
    by_cases e : l[i] = 255
    · have e' : all255 (l[i] :: l.drop (i + 1)) = all255 (l.drop (i + 1)) := by unfold all255; rw [List.all_cons, decide_eq_true e]; rfl
      rw [e']
      simp only [e, decide_true, Bool.not_true, cond_false]
      exact ih
    · have e' : all255 (l[i] :: l.drop (i + 1)) = false := by unfold all255; rw [List.all_cons, decide_eq_false e]; rfl
      rw [e']
      simp only [e, decide_false, Bool.not_false, cond_true, Bool.false_eq_true, if_false]
      exact hK _ (by omega)
theorem f74_eq {k : Nat} (l : List Int) (hk : l.length + 10 < k) (hl : l.length < 4611686018427387904) (K : Bool → Option R) : f74 k l K = K (all255 l) := by
  rw [f74_def]
  obtain ⟨k, rfl⟩ := succ_of (show 0 < k by omega)
  simp only [f74d, f96_def]
  obtain ⟨k, rfl⟩ := succ_of (show 0 < k by omega)
  simp only [f96d, f108_def]
  obtain ⟨k, rfl⟩ := succ_of (show 0 < k by omega)
  simp only [f108d, f108_0_def]
  refine (free_loop k (by omega) _ _ l hl (fun n hn => ?_) l.length k 0 (by omega) (by omega)).trans ?_
  · have : decide (n ≥ 0) = true := by simpa using hn
    simp [this]
  · rw [List.drop_zero]
    cases all255 l <;> simp
theorem set_loop (k : Nat) (K : Bool → Option R) (x : Option R) (l : List Int) (hl : l.length < 4611686018427387904) : ∀ (d f i : Nat), i + d = l.length → d < f →
    f77_0d k K x l f (i : Int) = if all255 (l.drop i) then x else K false
  | d, 0, i, _, h => absurd h (Nat.not_lt_zero _)
  | 0, f + 1, i, hi, _ => by
    have h1 : decide ((i : Int) < (l.length : Int)) = false := by simp only [decide_eq_false_iff_not]; omega
    simp only [f77_0d, f77_0b, h1, cond_false]
    rw [List.drop_of_length_le (by omega)]
    rfl
  | d + 1, f + 1, i, hi, hf => by
    have h1 : decide ((i : Int) < (l.length : Int)) = true := by simp only [decide_eq_true_eq]; omega
    have h0 : decide ((0 : Int) ≤ (i : Int)) = true := by simp
    have hw : IntKind.i64.wrap ((i : Int) + 1) = ((i + 1 : Nat) : Int) := by rw [wi (by omega) (by omega)]; omega
    have hli : i < l.length := by omega
    have ih := set_loop k K x l hl d f (i + 1) (by omega) (by omega)
    simp only [f77_0d, f77_0b, h1, h0, cond_true, Bool.and_self, Int.toNat_natCast, hw, getD_in hli, bne_dec]
    rw [List.drop_eq_getElem_cons hli]
    by_cases e : l[i] = 255
    · have e' : all255 (l[i] :: l.drop (i + 1)) = all255 (l.drop (i + 1)) := by unfold all255; rw [List.all_cons, decide_eq_true e]; rfl
      rw [e']
      simp only [e, decide_true, Bool.not_true, cond_false]
      exact ih
    · have e' : all255 (l[i] :: l.drop (i + 1)) = false := by unfold all255; rw [List.all_cons, decide_eq_false e]; rfl
      rw [e']
      simp [e]
theorem f77_eq {k : Nat} (l : List Int) (hk : l.length + 10 < k) (hl : l.length < 4611686018427387904) (K : Bool → Option R) : f77 k l K = K (all255 l) := by
  rw [f77_def]
  obtain ⟨k, rfl⟩ := succ_of (show 0 < k by omega)
  simp only [f77d, f77_0_def]
  refine (set_loop k K (K true) l hl l.length k 0 (by omega) (by omega)).trans ?_
  rw [List.drop_zero]
  cases all255 l <;> simp
theorem or_lo {a b : Int} (i : Nat) (ha : 0 ≤ a ∧ a < 4294967296) (hb : 0 ≤ b ∧ b < 2 ^ i) (hi : i ≤ 24) : bits .or .i64 (a * 2 ^ i) b = a * 2 ^ i + b := by
  obtain ⟨m, rfl⟩ : ∃ m : Nat, a = (m : Int) := ⟨a.toNat, by omega⟩
  obtain ⟨n, rfl⟩ : ∃ n : Nat, b = (n : Int) := ⟨b.toNat, by omega⟩
  have hn : n < 2 ^ i := by have := hb.2; exact_mod_cast this
  have hm : m < 4294967296 := by omega
  have hp : 2 ^ i ≤ 2 ^ 24 := Nat.pow_le_pow_right (by decide) hi
  have hmul : m * 2 ^ i < 2 ^ 63 := Nat.lt_of_le_of_lt (Nat.mul_le_mul (Nat.le_of_lt hm) hp) (by decide)
  have e : ((m : Int) * 2 ^ i) = ((m * 2 ^ i : Nat) : Int) := by push_cast; rfl
  rw [e, or_i64 _ _ hmul (Nat.lt_of_lt_of_le hn (Nat.le_trans hp (by decide)))]
  have : m * 2 ^ i ||| n = m * 2 ^ i + n := by
    rw [Nat.mul_comm, Nat.two_pow_add_eq_or_of_lt hn m]
  rw [this]
  push_cast
  rfl
def w2 (l : List Int) (i : Nat) : Int := l.getD i 0 * 256 + l.getD (i + 1) 0
theorem word_or {l : List Int} (h : B l) (i : Nat) : bits .or .i64 (IntKind.i64.wrap (IntKind.i64.wrap (l.getD i 0) * 2 ^ 8)) (IntKind.i64.wrap (l.getD (i + 1) 0)) = w2 l i := by
  have a := h.getD i
  have b := h.getD (i + 1)
  rw [wi (n := l.getD i 0) (by omega) (by omega), wi (n := l.getD (i + 1) 0) (by omega) (by omega), wi (n := l.getD i 0 * 2 ^ 8) (by omega) (by omega), or_lo 8 (by omega) (by omega) (by omega)]
  unfold w2; omega
theorem w2_bounds {l : List Int} (h : B l) (i : Nat) : 0 ≤ w2 l i ∧ w2 l i < 65536 := by
  have a := h.getD i
  have b := h.getD (i + 1)
  unfold w2; omega
def w4 (l : List Int) : Int := w2 l 0 * 65536 + w2 l 2
theorem f75_eq {k : Nat} (hk : 0 < k) {l : List Int} (h : B l) (hl : 64 ≤ l.length) (K : Int → Option R) : f75 k l K = K (w4 l) := by
  rw [f75_def]
  obtain ⟨k, rfl⟩ := succ_of hk
  have c0 : decide ((0 : Int) < (l.length : Int)) = true := by simp only [decide_eq_true_eq]; omega
  have c1 : decide ((1 : Int) < (l.length : Int)) = true := by simp only [decide_eq_true_eq]; omega
  have c2 : decide ((2 : Int) < (l.length : Int)) = true := by simp only [decide_eq_true_eq]; omega
  have c3 : decide ((3 : Int) < (l.length : Int)) = true := by simp only [decide_eq_true_eq]; omega
  have a := h.getD 0
  have b := h.getD 1
  have c := h.getD 2
  have d := h.getD 3
  simp only [f75d, c0, c1, c2, c3, cond_true]
  rw [wi (n := l.getD 0 0) (by omega) (by omega), wi (n := l.getD 1 0) (by omega) (by omega), wi (n := l.getD 2 0) (by omega) (by omega), wi (n := l.getD 3 0) (by omega) (by omega),
    wi (n := l.getD 0 0 * 2 ^ 24) (by omega) (by omega), wi (n := l.getD 1 0 * 2 ^ 16) (by omega) (by omega), wi (n := l.getD 2 0 * 2 ^ 8) (by omega) (by omega)]
  rw [or_lo 24 (by omega) (by omega) (by omega)]
  have e1 : l.getD 0 0 * 2 ^ 24 + l.getD 1 0 * 2 ^ 16 = (l.getD 0 0 * 256 + l.getD 1 0) * 2 ^ 16 := by omega
  rw [e1, or_lo 16 (by omega) (by omega) (by omega)]
  have e2 : (l.getD 0 0 * 256 + l.getD 1 0) * 2 ^ 16 + l.getD 2 0 * 2 ^ 8 = ((l.getD 0 0 * 256 + l.getD 1 0) * 256 + l.getD 2 0) * 2 ^ 8 := by omega
  rw [e2, or_lo 8 (by omega) (by omega) (by omega)]
  congr 1
  change _ = (l.getD 0 0 * 256 + l.getD 1 0) * 65536 + (l.getD 2 0 * 256 + l.getD 3 0)
  omega
theorem f78_eq {k : Nat} (hk : 0 < k) {l : List Int} (h : B l) (i : Nat) (hl : i + 1 < l.length) (h2 : l.length < 4611686018427387904) (K : Int → Option R) : f78 k l (i : Int) K = K (w2 l i) := by
  rw [f78_def]
  obtain ⟨k, rfl⟩ := succ_of hk
  have hw : IntKind.i64.wrap ((i : Int) + 1) = ((i + 1 : Nat) : Int) := by rw [wi (by omega) (by omega)]; omega
  have c0 : decide ((0 : Int) ≤ (i : Int)) = true := by simp
  have c1 : decide ((i : Int) < (l.length : Int)) = true := by simp only [decide_eq_true_eq]; omega
  have c2 : decide ((0 : Int) ≤ ((i + 1 : Nat) : Int)) = true := by simp only [decide_eq_true_eq]; omega
  have c3 : decide (((i + 1 : Nat) : Int) < (l.length : Int)) = true := by simp only [decide_eq_true_eq]; omega
  have a := h.getD i
  have b := h.getD (i + 1)
  simp only [f78d, hw, c0, c1, c2, c3, Bool.and_self, cond_true, Int.toNat_natCast]
  rw [wi (n := l.getD i 0) (by omega) (by omega), wi (n := l.getD (i + 1) 0) (by omega) (by omega), wi (n := l.getD i 0 * 256) (by omega) (by omega), wi (by omega) (by omega)]
  rfl
theorem equal_loop (k : Nat) (K : Bool → Option R) (l m : List Int) (hlm : l.length = m.length) (hl : l.length < 4611686018427387904) : ∀ (d f i : Nat), i + d = l.length → d < f →
    f76_0d k K (K true) l m (l.length : Int) f (i : Int) = K (decide (l.drop i = m.drop i))
  | d, 0, i, _, h => absurd h (Nat.not_lt_zero _)
  | 0, f + 1, i, hi, _ => by
    have h1 : decide ((i : Int) < (l.length : Int)) = false := by simp only [decide_eq_false_iff_not]; omega
    simp only [f76_0d, f76_0b, h1, cond_false]
    rw [List.drop_of_length_le (by omega), List.drop_of_length_le (by omega)]
    simp
  | d + 1, f + 1, i, hi, hf => by
    have h1 : decide ((i : Int) < (l.length : Int)) = true := by simp only [decide_eq_true_eq]; omega
    have h2 : decide ((i : Int) < (m.length : Int)) = true := by simp only [decide_eq_true_eq]; omega
    have h0 : decide ((0 : Int) ≤ (i : Int)) = true := by simp
    have hw : IntKind.i64.wrap ((i : Int) + 1) = ((i + 1 : Nat) : Int) := by rw [wi (by omega) (by omega)]; omega
    have hli : i < l.length := by omega
    have hmi : i < m.length := by omega
    simp only [f76_0d, f76_0b, h1, h0, h2, cond_true, Bool.and_self, Int.toNat_natCast, hw, getD_in hli, getD_in hmi]
    rw [List.drop_eq_getElem_cons hli, List.drop_eq_getElem_cons hmi, bne_dec]
    by_cases e : l[i] = m[i]
    · simp only [e, decide_true, Bool.not_true, cond_false, List.cons.injEq, true_and]
      exact equal_loop k K l m hlm hl d f (i + 1) (by omega) (by omega)
    · simp only [List.cons.injEq, e, false_and, decide_false, Bool.not_false, cond_true]
theorem f76_eq {k : Nat} {l : List Int} (m : List Int) (hk : l.length + 1 < k) (hl : l.length < 4611686018427387904) (K : Bool → Option R) : f76 k l m K = K (decide (l = m)) := by
  rw [f76_def]
  obtain ⟨k, rfl⟩ := succ_of (show 0 < k by omega)
  simp only [f76d, bne_dec, f76_0_def]
  by_cases h : l.length = m.length
  · have : decide ((l.length : Int) = (m.length : Int)) = true := by simp only [decide_eq_true_eq]; omega
    simp only [this, Bool.not_true, cond_false]
    exact (equal_loop k K l m h hl l.length k 0 (by omega) (by omega)).trans (by simp)
  · have : decide ((l.length : Int) = (m.length : Int)) = false := by simp only [decide_eq_false_iff_not]; omega
    have h' : ¬ l = m := fun e => h (by rw [e])
    simp [this, h']
theorem strOf_inj {a b : List Int} (ha : B a) (hb : B b) : ((strOf a).toList == (strOf b).toList) = decide (b = a) := by
  have inj : ∀ {a b : List Int}, B a → B b → a.map (fun n => UInt8.ofNat n.toNat) = b.map (fun n => UInt8.ofNat n.toNat) → a = b := by
    intro a
    induction a with
    | nil => intro b _ _ h; cases b with
      | nil => rfl
      | cons y b => simp at h
    | cons x a ih =>
      intro b ha hb h
      cases b with
      | nil => simp at h
      | cons y b =>
        simp only [List.map_cons, List.cons.injEq] at h
        have hx := ha x (by simp)
        have hy := hb y (by simp)
        have e : x = y := by
          have := congrArg UInt8.toNat h.1
          simp only [UInt8.toNat_ofNat'] at this
          omega
        rw [e, ih (fun z hz => ha z (by simp [hz])) (fun z hz => hb z (by simp [hz])) h.2]
  have e : (strOf a).toList = (strOf b).toList ↔ b = a := by
    rw [ByteArray.toList_eq, ByteArray.toList_eq]
    unfold strOf
    simp only [List.toList_toArray]
    exact ⟨fun h => (inj ha hb h).symm, fun h => by rw [h]⟩
  by_cases h : b = a
  · rw [beq_iff_eq.2 (e.2 h), decide_eq_true h]
  · have : ¬ (strOf a).toList = (strOf b).toList := fun h' => h (e.1 h')
    rw [decide_eq_false h]
    simpa using this
abbrev Pg := Int × Int × Bool × ByteArray × Int × Bool × List Int
noncomputable def pgZ (s : Int) : Pg := (s, 0, false, ⟨#[]⟩, 0, false, [])
noncomputable def nameOf (l : List Int) : ByteArray := strOf ((l.take (12 + l.getD 5 0).toNat).drop 12)
noncomputable def bytesAt (l : List Int) : List Int := (l.take (12 + l.getD 5 0 + w2 l 8).toNat).drop (12 + l.getD 5 0).toNat
noncomputable def decErr (l : List Int) : Int := encErr (l.length : Int) (w4 l) (l.getD 4 0 == 2) (nameOf l) (w2 l 6) (l.getD 10 0 == 1) (bytesAt l)
noncomputable def decAll (l : List Int) : List Int := encAll (l.length : Int) (w4 l) (l.getD 4 0 == 2) (nameOf l) (w2 l 6) (l.getD 10 0 == 1) (bytesAt l)
noncomputable def decF (l : List Int) : Pg :=
  if all255 l then pgZ 1 else if l.getD (l.length - 1) 0 ≠ 165 then pgZ 2 else if 12 + l.getD 5 0 + w2 l 8 > (l.length : Int) - 3 then pgZ 3
  else if decErr l = 0 ∧ l = decAll l then (4, w4 l, l.getD 4 0 == 2, nameOf l, w2 l 6, l.getD 10 0 == 1, bytesAt l) else pgZ 3
def apP (K : Int → Int → Bool → ByteArray → Int → Bool → List Int → Option R) (x : Pg) : Option R := K x.1 x.2.1 x.2.2.1 x.2.2.2.1 x.2.2.2.2.1 x.2.2.2.2.2.1 x.2.2.2.2.2.2
theorem strOf_size (l : List Int) : (strOf l).size = l.length := by
  show (strOf l).data.size = l.length
  unfold strOf; simp
theorem f56_eq {k : Nat} {l : List Int} (h : B l) (h0 : 64 ≤ l.length) (h1 : l.length ≤ 1024) (hk : 6000 < k) (K : Int → Int → Bool → ByteArray → Int → Bool → List Int → Option R) : f56 k l K = apP K (decF l) := by
  rw [f56_def]
  obtain ⟨k, rfl⟩ := succ_of (show 0 < k by omega)
  simp only [f56d, f74_eq l (show _ < k by omega) (by omega), bne_dec]
  have e1 : IntKind.i64.wrap ((l.length : Int) - 1) = ((l.length - 1 : Nat) : Int) := by rw [wi (by omega) (by omega)]; omega
  have e3 : IntKind.i64.wrap ((l.length : Int) - 3) = (l.length : Int) - 3 := wi (by omega) (by omega)
  have b5 := h.getD 5
  have b8 := w2_bounds h 8
  have hw5 : IntKind.i64.wrap (12 + IntKind.i64.wrap (l.getD 5 0)) = 12 + l.getD 5 0 := by rw [wi (n := l.getD 5 0) (by omega) (by omega), wi (by omega) (by omega)]
  have hwn : IntKind.i64.wrap (12 + l.getD 5 0 + w2 l 8) = 12 + l.getD 5 0 + w2 l 8 := wi (by omega) (by omega)
  rw [word_or h 8, word_or h 6, e1, e3, hw5, hwn]
  have c0 : decide ((0 : Int) ≤ ((l.length - 1 : Nat) : Int)) = true := by simp
  have c1 : decide (((l.length - 1 : Nat) : Int) < (l.length : Int)) = true := by simp only [decide_eq_true_eq]; omega
  have d5 : decide ((5 : Int) < (l.length : Int)) = true := by simp only [decide_eq_true_eq]; omega
  have d8 : decide ((8 : Int) < (l.length : Int)) = true := by simp only [decide_eq_true_eq]; omega
  have d9 : decide ((9 : Int) < (l.length : Int)) = true := by simp only [decide_eq_true_eq]; omega
  have d4 : decide ((4 : Int) < (l.length : Int)) = true := by simp only [decide_eq_true_eq]; omega
  have d6 : decide ((6 : Int) < (l.length : Int)) = true := by simp only [decide_eq_true_eq]; omega
  have d7 : decide ((7 : Int) < (l.length : Int)) = true := by simp only [decide_eq_true_eq]; omega
  have d10 : decide ((10 : Int) < (l.length : Int)) = true := by simp only [decide_eq_true_eq]; omega
  simp only [c0, c1, d5, d8, d9, Bool.and_self, cond_true, Int.toNat_natCast]
  unfold decF
  by_cases ha : all255 l = true
  · simp [ha, apP, pgZ]
  · have ha' : all255 l = false := by simpa using ha
    rw [if_neg ha]
    simp only [ha', cond_false]
    by_cases hm : l.getD (l.length - 1) 0 = 165
    · rw [if_neg (by simpa using hm)]
      simp only [hm, decide_true, Bool.not_true, cond_false]
      by_cases hn : 12 + l.getD 5 0 + w2 l 8 > (l.length : Int) - 3
      · rw [if_pos hn]
        simp only [hn, decide_true, cond_true]
        rfl
      · rw [if_neg hn]
        have x1 : decide ((12 : Int) ≤ 12 + l.getD 5 0) = true := by simp only [decide_eq_true_eq]; omega
        have x2 : decide (12 + l.getD 5 0 ≤ (l.length : Int)) = true := by simp only [decide_eq_true_eq]; omega
        have x3 : decide ((0 : Int) ≤ 12 + l.getD 5 0) = true := by simp only [decide_eq_true_eq]; omega
        have x4 : decide (12 + l.getD 5 0 ≤ 12 + l.getD 5 0 + w2 l 8) = true := by simp only [decide_eq_true_eq]; omega
        have x5 : decide (12 + l.getD 5 0 + w2 l 8 ≤ (l.length : Int)) = true := by simp only [decide_eq_true_eq]; omega
        simp only [hn, decide_false, cond_false, f75_eq (show 0 < k by omega) h h0, d4, d6, d7, d10, x1, x2, x3, x4, x5, Bool.and_self, cond_true]
        change f72 k (bytesAt l) (fun r20513_0 => f18 k (l.length : Int) (w4 l) (l.getD 4 0 == 2) (nameOf l) (w2 l 6) (l.getD 10 0 == 1) r20513_0 (fun r22531_0 r22531_1 => (bif ((!decide (r22531_0 = 0)) == false) then (f76 k l r22531_1 (fun r24581_0 => (bif (!r24581_0) then (K (3 : Int) (0 : Int) false (⟨#[]⟩ : ByteArray) (0 : Int) false ([] : List Int)) else (K (4 : Int) (w4 l) (l.getD 4 0 == 2) (nameOf l) (w2 l 6) (l.getD 10 0 == 1) r20513_0)))) else (K (3 : Int) (0 : Int) false (⟨#[]⟩ : ByteArray) (0 : Int) false ([] : List Int))))) = _
        have lb : (bytesAt l).length ≤ 1024 := by unfold bytesAt; simp; omega
        have ln : (nameOf l).size ≤ 1024 := by unfold nameOf; rw [strOf_size]; simp; omega
        rw [f72_eq (by omega) _ (by omega), f18_eq _ _ _ _ _ _ _ (by omega) (by omega)]
        change (bif ((!decide (decErr l = 0)) == false) then (f76 k l (if decErr l = 0 then decAll l else []) (fun r24581_0 => (bif (!r24581_0) then (K (3 : Int) (0 : Int) false (⟨#[]⟩ : ByteArray) (0 : Int) false ([] : List Int)) else (K (4 : Int) (w4 l) (l.getD 4 0 == 2) (nameOf l) (w2 l 6) (l.getD 10 0 == 1) (bytesAt l))))) else (K (3 : Int) (0 : Int) false (⟨#[]⟩ : ByteArray) (0 : Int) false ([] : List Int))) = _
        by_cases hd : decErr l = 0
        · rw [if_pos hd, f76_eq _ (by omega) (by omega)]
          simp only [hd, decide_true, Bool.not_true, BEq.rfl, cond_true, true_and]
          by_cases hq : l = decAll l
          · rw [if_pos hq, decide_eq_true hq]; rfl
          · rw [if_neg hq, decide_eq_false hq]; rfl
        · have e : ¬ (decErr l = 0 ∧ l = decAll l) := fun x => hd x.1
          rw [if_neg hd, if_neg e, decide_eq_false hd]
          rfl
    · rw [if_pos (by simpa using hm)]
      simp only [hm, decide_false, Bool.not_false, cond_true]
      rfl
theorem f57_eq {k : Nat} {l : List Int} (h : B l) (h0 : 64 ≤ l.length) (h1 : l.length ≤ 1024) (hk : 6000 < k) (K : Int → Int → Bool → ByteArray → Int → Bool → List Int → Option R) : f57 k l K = apP K (decF l) := by
  rw [f57_def]
  obtain ⟨k, rfl⟩ := succ_of (show 0 < k by omega)
  have f78' : ∀ (i : Nat), i + 1 < 64 → ∀ K : Int → Option R, f78 k l (i : Int) K = K (w2 l i) := fun i hi K => f78_eq (by omega) h i (by omega) (by omega) K
  have e1 : IntKind.i64.wrap ((l.length : Int) - 1) = ((l.length - 1 : Nat) : Int) := by rw [wi (by omega) (by omega)]; omega
  have e3 : IntKind.i64.wrap ((l.length : Int) - 3) = (l.length : Int) - 3 := wi (by omega) (by omega)
  have b5 := h.getD 5
  have b8 := w2_bounds h 8
  have b0 := w2_bounds h 0
  have b2 := w2_bounds h 2
  have hw5 : IntKind.i64.wrap (12 + IntKind.i64.wrap (l.getD 5 0)) = 12 + l.getD 5 0 := by rw [wi (n := l.getD 5 0) (by omega) (by omega), wi (by omega) (by omega)]
  have hwn : IntKind.i64.wrap (12 + l.getD 5 0 + w2 l 8) = 12 + l.getD 5 0 + w2 l 8 := wi (by omega) (by omega)
  have hw4 : IntKind.i64.wrap (IntKind.i64.wrap (w2 l 0 * 65536) + w2 l 2) = w4 l := by rw [wi (n := w2 l 0 * 65536) (by omega) (by omega), wi (by omega) (by omega)]; rfl
  simp only [f57d, f77_eq l (show _ < k by omega) (by omega), bne_dec]
  have q8 := fun K : Int → Option R => f78' 8 (by omega) K
  have q0 := fun K : Int → Option R => f78' 0 (by omega) K
  have q2 := fun K : Int → Option R => f78' 2 (by omega) K
  have q6 := fun K : Int → Option R => f78' 6 (by omega) K
  rw [show (((8 : Nat) : Int)) = 8 from rfl] at q8
  rw [show (((0 : Nat) : Int)) = 0 from rfl] at q0
  rw [show (((2 : Nat) : Int)) = 2 from rfl] at q2
  rw [show (((6 : Nat) : Int)) = 6 from rfl] at q6
  have c0 : decide ((0 : Int) ≤ ((l.length - 1 : Nat) : Int)) = true := by simp
  have c1 : decide (((l.length - 1 : Nat) : Int) < (l.length : Int)) = true := by simp only [decide_eq_true_eq]; omega
  have d5 : decide ((5 : Int) < (l.length : Int)) = true := by simp only [decide_eq_true_eq]; omega
  have d4 : decide ((4 : Int) < (l.length : Int)) = true := by simp only [decide_eq_true_eq]; omega
  have d10 : decide ((10 : Int) < (l.length : Int)) = true := by simp only [decide_eq_true_eq]; omega
  simp only [e1, e3, hw5, c0, c1, d5, Bool.and_self, cond_true, Int.toNat_natCast, q8, hwn]
  unfold decF
  by_cases ha : all255 l = true
  · simp [ha, apP, pgZ]
  · have ha' : all255 l = false := by simpa using ha
    rw [if_neg ha]
    simp only [ha', cond_false]
    by_cases hm : l.getD (l.length - 1) 0 = 165
    · rw [if_neg (by simpa using hm)]
      simp only [hm, decide_true, Bool.not_true, cond_false]
      by_cases hn : 12 + l.getD 5 0 + w2 l 8 > (l.length : Int) - 3
      · rw [if_pos hn]
        simp only [hn, decide_true, cond_true]
        rfl
      · rw [if_neg hn]
        have x1 : decide ((12 : Int) ≤ 12 + l.getD 5 0) = true := by simp only [decide_eq_true_eq]; omega
        have x2 : decide (12 + l.getD 5 0 ≤ (l.length : Int)) = true := by simp only [decide_eq_true_eq]; omega
        have x3 : decide ((0 : Int) ≤ 12 + l.getD 5 0) = true := by simp only [decide_eq_true_eq]; omega
        have x4 : decide (12 + l.getD 5 0 ≤ 12 + l.getD 5 0 + w2 l 8) = true := by simp only [decide_eq_true_eq]; omega
        have x5 : decide (12 + l.getD 5 0 + w2 l 8 ≤ (l.length : Int)) = true := by simp only [decide_eq_true_eq]; omega
        have lb : (bytesAt l).length ≤ 1024 := by unfold bytesAt; simp; omega
        have ln : (nameOf l).size ≤ 1024 := by unfold nameOf; rw [strOf_size]; simp; omega
        have x6 : decide (((l.take (12 + l.getD 5 0 + w2 l 8).toNat).drop (12 + l.getD 5 0).toNat).length ≤ LIM 1) = true := by
          have : ((l.take (12 + l.getD 5 0 + w2 l 8).toNat).drop (12 + l.getD 5 0).toNat).length ≤ 1024 := lb
          rw [LIM1]; simp only [decide_eq_true_eq]; omega
        simp only [hn, decide_false, cond_false, q0, q2, q6, hw4, d4, d10, x1, x2, x3, x4, x5, x6, Bool.and_self, cond_true]
        change f19 k (l.length : Int) (w4 l) (l.getD 4 0 == 2) (nameOf l) (w2 l 6) (l.getD 10 0 == 1) (bytesAt l) (fun r22531_0 r22531_1 => (bif ((!decide (r22531_0 = 0)) == false) then (f22 k r22531_1 l (fun r24581_0 => (bif (!r24581_0) then (K (3 : Int) (0 : Int) false (⟨#[]⟩ : ByteArray) (0 : Int) false ([] : List Int)) else (K (4 : Int) (w4 l) (l.getD 4 0 == 2) (nameOf l) (w2 l 6) (l.getD 10 0 == 1) (bytesAt l))))) else (K (3 : Int) (0 : Int) false (⟨#[]⟩ : ByteArray) (0 : Int) false ([] : List Int)))) = _
        rw [f19_eq _ _ _ _ _ _ _ (by omega) (by omega)]
        change (bif ((!decide (decErr l = 0)) == false) then (f22 k (if decErr l = 0 then decAll l else []) l (fun r24581_0 => (bif (!r24581_0) then (K (3 : Int) (0 : Int) false (⟨#[]⟩ : ByteArray) (0 : Int) false ([] : List Int)) else (K (4 : Int) (w4 l) (l.getD 4 0 == 2) (nameOf l) (w2 l 6) (l.getD 10 0 == 1) (bytesAt l))))) else (K (3 : Int) (0 : Int) false (⟨#[]⟩ : ByteArray) (0 : Int) false ([] : List Int))) = _
        by_cases hd : decErr l = 0
        · have hB : B (decAll l) := enc_B _ _ _ _ _ _ (fun x hx => h x (List.mem_of_mem_take (List.mem_of_mem_drop hx)))
          rw [if_pos hd, f22_eq (by omega), strOf_inj hB h]
          simp only [hd, decide_true, Bool.not_true, BEq.rfl, cond_true, true_and]
          by_cases hq : l = decAll l
          · rw [if_pos hq, decide_eq_true hq]; rfl
          · rw [if_neg hq, decide_eq_false hq]; rfl
        · have e : ¬ (decErr l = 0 ∧ l = decAll l) := fun x => hd x.1
          rw [if_neg hd, if_neg e, decide_eq_false hd]
          rfl
    · rw [if_pos (by simpa using hm)]
      simp only [hm, decide_false, Bool.not_false, cond_true]
      rfl
theorem f23_same {k : Nat} (hk : 1 < k) (a : Int) (b : Bool) (c : ByteArray) (d : Int) (e : Bool) (l : List Int) (K : Bool → Option R) : f23 k a b c d e l a b c d e l K = K true := by
  rw [f23_def]
  obtain ⟨k, rfl⟩ := succ_of (show 0 < k by omega)
  simp only [f23d, BEq.rfl, cond_true, f22_eq (show 0 < k by omega)]
theorem f20_eq {k : Nat} {l : List Int} (h : B l) (hk : 6100 < k) (K : Int → Int → Bool → ByteArray → Int → Bool → Int → List Int → Option R) :
    f20 k l K = if inB (l.length : Int) 64 1024 then apP (fun a b c d e f g => K a b c d e f 0 g) (decF l) else K 0 0 false ⟨#[]⟩ 0 false 3 [] := by
  rw [f20_def]
  obtain ⟨k, rfl⟩ := succ_of (show 0 < k by omega)
  simp only [f20d, f52_eq (show 0 < k by omega)]
  cases hi : inB (l.length : Int) 64 1024
  · simp
  · have := inB_iff.1 hi
    simp only [Bool.not_true, cond_false, if_true]
    rw [f56_eq h (by omega) (by omega) (by omega)]
theorem f21_eq {k : Nat} {l : List Int} (h : B l) (hk : 6100 < k) (K : Int → Int → Bool → ByteArray → Int → Bool → Int → List Int → Option R) :
    f21 k l K = if inB (l.length : Int) 64 1024 then apP (fun a b c d e f g => K a b c d e f 0 g) (decF l) else K 0 0 false ⟨#[]⟩ 0 false 3 [] := by
  rw [f21_def]
  obtain ⟨k, rfl⟩ := succ_of (show 0 < k by omega)
  simp only [f21d, f41_eq (show 0 < k by omega)]
  cases hi : inB (l.length : Int) 64 1024
  · simp
  · have := inB_iff.1 hi
    simp only [Bool.not_true, cond_false, if_true]
    rw [f57_eq h (by omega) (by omega) (by omega)]
theorem f5_eq {k : Nat} (ps gen : Int) (gone : Bool) (name : ByteArray) (index : Int) (last : Bool) (bytes l : List Int) (hk : name.size + 9000 < k) (hs : name.size < 4611686018427387904) (h : B l) (K : Bool → Option R) : f5 k ps gen gone name index last bytes l K = K true := by
  rw [f5_def]
  obtain ⟨k, rfl⟩ := succ_of (show 0 < k by omega)
  simp only [f5d, f18_eq ps gen gone name index last bytes (show _ < k by omega) hs, f19_eq ps gen gone name index last bytes (show _ < k by omega) hs, f22_eq (show 0 < k by omega), BEq.rfl, cond_true]
  rw [f20_eq h (by omega)]
  split
  · rename_i hi
    simp only [apP]
    rw [f21_eq h (by omega), if_pos hi]
    simp only [apP, BEq.rfl, cond_true, f23_same (show 1 < k by omega), f13_eq (show 30 < k by omega)]
  · rename_i hi
    rw [f21_eq h (by omega), if_neg hi]
    simp only [BEq.rfl, cond_true, f23_same (show 1 < k by omega), f13_eq (show 30 < k by omega)]
end Go.Proofs.Ytecnlienmpdlaaa.PM
