/- Pages come back: the law. -/
import Derived.Test.YtecnlienmpdlaaaPlBackS
set_option linter.unusedSimpArgs false
set_option linter.unusedVariables false
namespace Go.Proofs.Ytecnlienmpdlaaa.PM
open Go Go.Proofs.Ytecnlienmpdlaaa.Bt Go.Proofs.Ytecnlienmpdlaaa.Crc
variable {R : Type}

theorem strOf_bytesOf (s : ByteArray) : strOf (bytesOf s) = s := by
  unfold strOf bytesOf
  rw [List.map_map]
  have : (s.data.toList.map ((fun n : Int => UInt8.ofNat n.toNat) ∘ fun b : UInt8 => (b.toNat : Int))) = s.data.toList := by
    conv => rhs; rw [← List.map_id s.data.toList]
    refine List.map_congr_left fun b _ => ?_
    show UInt8.ofNat ((b.toNat : Int)).toNat = b
    rw [Int.toNat_natCast]
    exact UInt8.ofNat_toNat
  rw [this]
theorem enc_ok {ps gen : Int} {gone : Bool} {name : ByteArray} {index : Int} {last : Bool} {bytes : List Int} (h : encErr ps gen gone name index last bytes = 0) :
    (64 ≤ ps ∧ ps ≤ 1024) ∧ (1 ≤ gen ∧ gen ≤ 4000000000) ∧ (1 ≤ name.size ∧ name.size ≤ 32) ∧ (0 ≤ index ∧ index ≤ 65535) ∧ (bytes.length : Int) ≤ ps - 15 - name.size := by
  unfold encErr at h
  by_cases h1 : inB ps 64 1024 = false
  · rw [if_pos h1] at h; cases h
  · rw [if_neg h1] at h
    by_cases h2 : inB gen 1 4000000000 = false
    · rw [if_pos h2] at h; cases h
    · rw [if_neg h2] at h
      by_cases h3 : nameB name = false
      · rw [if_pos h3] at h; cases h
      · rw [if_neg h3] at h
        by_cases h4 : inB index 0 65535 = false
        · rw [if_pos h4] at h; cases h
        · rw [if_neg h4] at h
          by_cases h5 : (bytes.length : Int) > ps - 15 - name.size
          · rw [if_pos h5] at h; cases h
          · exact ⟨inB_iff.1 (by simpa using h1), inB_iff.1 (by simpa using h2), nameB_size (by simpa using h3), inB_iff.1 (by simpa using h4), by omega⟩
theorem fdiv_pow {n : Int} (d : Int) (h : 0 ≤ d) : Int.fdiv n d = n / d := Int.fdiv_eq_ediv_of_nonneg _ h
theorem dec_enc {ps gen : Int} {gone : Bool} {name : ByteArray} {index : Int} {last : Bool} {bytes : List Int} (h : encErr ps gen gone name index last bytes = 0) (hb : B bytes) :
    decF (encAll ps gen gone name index last bytes) = (4, gen, gone, name, index, last, bytes) := by
  obtain ⟨p1, p2, p3, p4, p5⟩ := enc_ok h
  have hlen : ((encAll ps gen gone name index last bytes).length : Int) = ps := by
    rw [encAll_eq, List.length_append]
    have := enc_len (gen := gen) (gone := gone) (index := index) (last := last) p5
    simp only [tl, List.length_cons, List.length_nil]
    omega
  have hE : ∃ Z : List Int, encAll ps gen gone name index last bytes = IntKind.u8.wrap (Int.fdiv gen (2 ^ 24)) :: IntKind.u8.wrap (Int.fdiv gen (2 ^ 16)) :: IntKind.u8.wrap (Int.fdiv gen (2 ^ 8)) :: IntKind.u8.wrap gen :: (if gone then 2 else 1) :: IntKind.u8.wrap (name.size : Int) :: IntKind.u8.wrap (Int.fdiv index (2 ^ 8)) :: IntKind.u8.wrap index :: IntKind.u8.wrap (Int.fdiv (bytes.length : Int) (2 ^ 8)) :: IntKind.u8.wrap (bytes.length : Int) :: (if last then 1 else 0) :: 0 :: (bytesOf name ++ (bytes ++ Z)) := by
    refine ⟨List.replicate (ps - 3 - ((innerB gen gone name index last bytes).length : Int)).toNat 255 ++ tl (encB ps gen gone name index last bytes), ?_⟩
    rw [encAll_eq]
    show (headB gen gone name index last (bytes.length : Int) ++ bytesOf name ++ bytes ++ List.replicate _ 255) ++ tl _ = _
    simp only [headB, List.append_assoc, List.cons_append, List.nil_append]
  have hlast : (encAll ps gen gone name index last bytes).getD ((encAll ps gen gone name index last bytes).length - 1) 0 = 165 := by
    have hl : (encAll ps gen gone name index last bytes).length = (encB ps gen gone name index last bytes).length + 3 := by rw [encAll_eq, List.length_append]; rfl
    rw [List.getD_eq_getElem?_getD, hl, encAll_eq, List.getElem?_append_right (by omega), show (encB ps gen gone name index last bytes).length + 3 - 1 - (encB ps gen gone name index last bytes).length = 2 by omega]
    rfl
  have hnot : all255 (encAll ps gen gone name index last bytes) = false := by
    obtain ⟨Z, e⟩ := hE
    rw [e]
    unfold all255
    simp only [List.all_cons]
    cases gone <;> simp
  have g5 : (encAll ps gen gone name index last bytes).getD 5 0 = name.size := by
    obtain ⟨Z, e⟩ := hE
    rw [e]
    show IntKind.u8.wrap (name.size : Int) = _
    rw [wrap_u8_eq]; omega
  have g8 : w2 (encAll ps gen gone name index last bytes) 8 = bytes.length := by
    obtain ⟨Z, e⟩ := hE
    rw [e]
    show IntKind.u8.wrap (Int.fdiv (bytes.length : Int) (2 ^ 8)) * 256 + IntKind.u8.wrap (bytes.length : Int) = _
    rw [wrap_u8_eq, wrap_u8_eq, fdiv_pow _ (by decide)]; omega
  have g6 : w2 (encAll ps gen gone name index last bytes) 6 = index := by
    obtain ⟨Z, e⟩ := hE
    rw [e]
    show IntKind.u8.wrap (Int.fdiv index (2 ^ 8)) * 256 + IntKind.u8.wrap index = _
    rw [wrap_u8_eq, wrap_u8_eq, fdiv_pow _ (by decide)]; omega
  have g0 : w4 (encAll ps gen gone name index last bytes) = gen := by
    obtain ⟨Z, e⟩ := hE
    rw [e]
    show (IntKind.u8.wrap (Int.fdiv gen (2 ^ 24)) * 256 + IntKind.u8.wrap (Int.fdiv gen (2 ^ 16))) * 65536 + (IntKind.u8.wrap (Int.fdiv gen (2 ^ 8)) * 256 + IntKind.u8.wrap gen) = _
    rw [wrap_u8_eq, wrap_u8_eq, wrap_u8_eq, wrap_u8_eq, fdiv_pow _ (by decide), fdiv_pow _ (by decide), fdiv_pow _ (by decide)]; omega
  have g4 : ((encAll ps gen gone name index last bytes).getD 4 0 == 2) = gone := by
    obtain ⟨Z, e⟩ := hE
    rw [e]
    show ((if gone then 2 else 1 : Int) == 2) = gone
    cases gone <;> rfl
  have g10 : ((encAll ps gen gone name index last bytes).getD 10 0 == 1) = last := by
    obtain ⟨Z, e⟩ := hE
    rw [e]
    show ((if last then 1 else 0 : Int) == 1) = last
    cases last <;> rfl
  have gn : nameOf (encAll ps gen gone name index last bytes) = name := by
    unfold nameOf
    rw [g5, List.drop_take, show (12 + (name.size : Int)).toNat - 12 = name.size by omega]
    obtain ⟨Z, e⟩ := hE
    rw [e]
    show strOf ((bytesOf name ++ (bytes ++ Z)).take name.size) = name
    rw [List.take_append_of_le_length (by rw [bytesOf_len]; omega), List.take_of_length_le (by rw [bytesOf_len]; omega), strOf_bytesOf]
  have gb : bytesAt (encAll ps gen gone name index last bytes) = bytes := by
    unfold bytesAt
    rw [g5, g8, List.drop_take, show (12 + (name.size : Int) + (bytes.length : Int)).toNat - (12 + (name.size : Int)).toNat = bytes.length by omega, show (12 + (name.size : Int)).toNat = 12 + name.size by omega, ← List.drop_drop]
    obtain ⟨Z, e⟩ := hE
    rw [e]
    show ((bytesOf name ++ (bytes ++ Z)).drop name.size).take bytes.length = bytes
    rw [← bytesOf_len name, List.drop_left, List.take_left]
  have gd : decErr (encAll ps gen gone name index last bytes) = 0 := by
    unfold decErr
    rw [hlen, g0, g4, gn, g6, g10, gb]; exact h
  have ga : decAll (encAll ps gen gone name index last bytes) = encAll ps gen gone name index last bytes := by
    unfold decAll
    rw [hlen, g0, g4, gn, g6, g10, gb]
  unfold decF
  rw [hnot, if_neg (by simp), if_neg (not_not_intro hlast), g5, g8, if_neg (by omega), if_pos ⟨gd, ga.symm⟩, g0, g4, gn, g6, g10, gb]
theorem flips : ∀ x : Nat, x < 256 → ∀ j : Nat, j < 8 → 0 ≤ bits .xor .u8 (x : Int) (Int.fdiv 128 (2 ^ min j 8)) ∧ bits .xor .u8 (x : Int) (Int.fdiv 128 (2 ^ min j 8)) < 256 ∧ bits .xor .u8 (x : Int) (Int.fdiv 128 (2 ^ min j 8)) ≠ (x : Int) := by decide +kernel
theorem no_free {ps gen : Int} {gone : Bool} {name : ByteArray} {index : Int} {last : Bool} {bytes : List Int} (h : encErr ps gen gone name index last bytes = 0) {i : Nat} (x : Int) : all255 ((encAll ps gen gone name index last bytes).set i x) = false := by
  obtain ⟨p1, p2, p3, p4, p5⟩ := enc_ok h
  have hl : (encAll ps gen gone name index last bytes).length = (encB ps gen gone name index last bytes).length + 3 := by rw [encAll_eq, List.length_append]; rfl
  have hl2 := enc_len (gen := gen) (gone := gone) (index := index) (last := last) p5
  have key : ∀ j (y : Int), (encAll ps gen gone name index last bytes)[j]? = some y → y ≠ 255 → i ≠ j → all255 ((encAll ps gen gone name index last bytes).set i x) = false := by
    intro j y hj hy hij
    unfold all255
    rw [List.all_eq_false]
    refine ⟨y, ?_, by simpa using hy⟩
    have : ((encAll ps gen gone name index last bytes).set i x)[j]? = some y := by rw [List.getElem?_set_ne hij]; exact hj
    exact List.mem_of_getElem? this
  by_cases c : i = 4
  · refine key ((encB ps gen gone name index last bytes).length + 2) 165 ?_ (by decide) (by omega)
    rw [encAll_eq, List.getElem?_append_right (by omega), show (encB ps gen gone name index last bytes).length + 2 - (encB ps gen gone name index last bytes).length = 2 by omega]
    rfl
  · refine key 4 (if gone then 2 else 1) ?_ (by cases gone <;> decide) c
    unfold encAll encB innerB headB
    simp
theorem f6_eq {k : Nat} (ps gen : Int) (gone : Bool) (name : ByteArray) (index : Int) (last : Bool) (bytes : List Int) (bit : Int) (hk : name.size + 9000 < k) (hs : name.size < 4611686018427387904) (hb : B bytes) (K : Bool → Option R) :
    f6 k ps gen gone name index last bytes bit K = K true := by
  rw [f6_def]
  obtain ⟨k, rfl⟩ := succ_of (show 0 < k by omega)
  simp only [f6d, f18_eq ps gen gone name index last bytes (show name.size + 3000 < k by omega) hs]
  by_cases e : encErr ps gen gone name index last bytes = 0
  · obtain ⟨p1, p2, p3, p4, p5⟩ := enc_ok e
    have hE := enc_B ps gen gone name index last hb
    have hlen : ((encAll ps gen gone name index last bytes).length : Int) = ps := by
      rw [encAll_eq, List.length_append]
      have := enc_len (gen := gen) (gone := gone) (index := index) (last := last) p5
      simp only [tl, List.length_cons, List.length_nil]
      omega
    have hin : inB ((encAll ps gen gone name index last bytes).length : Int) 64 1024 = true := inB_iff.2 (by omega)
    have hde := dec_enc e hb
    simp only [e, if_true, bne_self_eq_false, cond_false]
    rw [f20_eq hE (show 6100 < k by omega), if_pos hin, hde]
    simp only [apP, bne_self_eq_false, beq_self_eq_true, cond_true, f23_same (show 1 < k by omega), Bool.not_true, cond_false]
    by_cases b0 : bit < 0
    · have d : (decide (bit < 0) == false) = false := by simp [b0]
      simp only [d, cond_false, f13_eq (show 30 < k by omega)]
    · have d : (decide (bit < 0) == false) = true := by simp [b0]
      have w8 : IntKind.i64.wrap (8 * ((encAll ps gen gone name index last bytes).length : Int)) = 8 * ps := by rw [hlen, wi (by omega) (by omega)]
      simp only [d, cond_true, w8]
      by_cases b1 : bit ≥ 8 * ps
      · simp only [b1, decide_true, cond_true, f13_eq (show 30 < k by omega)]
      · have e1 : Int.tdiv bit 8 = bit / 8 := tdiv_nn (by omega)
        have e2 : Int.tmod bit 8 = bit % 8 := tmod_nn (by omega)
        obtain ⟨i, hi⟩ : ∃ i : Nat, bit / 8 = (i : Int) := ⟨(bit / 8).toNat, by omega⟩
        obtain ⟨j, hj⟩ : ∃ j : Nat, bit % 8 = (j : Int) := ⟨(bit % 8).toNat, by omega⟩
        have hil : i < (encAll ps gen gone name index last bytes).length := by omega
        have hi' : IntKind.i64.wrap (i : Int) = (i : Int) := wi (by omega) (by omega)
        have hj' : IntKind.u64.wrap (j : Int) = (j : Int) := wraps_u64 _ (by omega) (by omega)
        have q1 : decide ((0 : Int) ≤ (i : Int)) = true := by simp
        have q2 : decide ((i : Int) < ((encAll ps gen gone name index last bytes).length : Int)) = true := by simp only [decide_eq_true_eq]; omega
        have q3 : decide ((0 : Int) ≤ (j : Int)) = true := by simp
        have f24e : ∀ (l : List Int) (hl : l.length ≤ 140737488355328) (K : List Int → Option R), f24 k l K = K l := fun l hl K => by
          rw [f24_def]
          obtain ⟨k, rfl⟩ := succ_of (show 0 < k by omega)
          have : decide (l.length ≤ LIM 1) = true := by rw [LIM1]; simp only [decide_eq_true_eq]; omega
          simp only [f24d, this, cond_true]
        have gi := B.getD hE i
        obtain ⟨y, hy⟩ : ∃ y : Nat, (encAll ps gen gone name index last bytes).getD i 0 = (y : Int) := ⟨((encAll ps gen gone name index last bytes).getD i 0).toNat, by omega⟩
        obtain ⟨x0, x1, x2⟩ := flips y (by omega) j (by omega)
        simp only [b1, decide_false, cond_false, e1, e2, hi, hj, hi', hj', f24e _ (show (encAll ps gen gone name index last bytes).length ≤ 140737488355328 by omega), q1, q2, q3, Bool.and_self, cond_true, Int.toNat_natCast, hy]
        have hnp := no_page (encB_B ps gen gone name index last hb) (Y := encB (((encAll ps gen gone name index last bytes).set i (bits .xor .u8 (y : Int) (Int.fdiv 128 (2 ^ min j 8)))).length : Int) (w4 ((encAll ps gen gone name index last bytes).set i (bits .xor .u8 (y : Int) (Int.fdiv 128 (2 ^ min j 8))))) (((encAll ps gen gone name index last bytes).set i (bits .xor .u8 (y : Int) (Int.fdiv 128 (2 ^ min j 8)))).getD 4 0 == 2) (nameOf ((encAll ps gen gone name index last bytes).set i (bits .xor .u8 (y : Int) (Int.fdiv 128 (2 ^ min j 8))))) (w2 ((encAll ps gen gone name index last bytes).set i (bits .xor .u8 (y : Int) (Int.fdiv 128 (2 ^ min j 8)))) 6) (((encAll ps gen gone name index last bytes).set i (bits .xor .u8 (y : Int) (Int.fdiv 128 (2 ^ min j 8)))).getD 10 0 == 1) (bytesAt ((encAll ps gen gone name index last bytes).set i (bits .xor .u8 (y : Int) (Int.fdiv 128 (2 ^ min j 8))))))
          (encB_B _ _ _ _ _ _ (((hE.set i x0 x1).take _).drop _)) (i := i) (by rw [encAll_eq, List.length_append] at hil; exact hil) x0 x1 (by rw [← encAll_eq, hy]; exact x2)
        rw [← encAll_eq, ← encAll_eq] at hnp
        have hnf := no_free e (i := i) (bits .xor .u8 (y : Int) (Int.fdiv 128 (2 ^ min j 8)))
        have hsl : ((encAll ps gen gone name index last bytes).set i (bits .xor .u8 (y : Int) (Int.fdiv 128 (2 ^ min j 8)))).length = (encAll ps gen gone name index last bytes).length := List.length_set
        have hBs := hE.set i x0 x1
        generalize (encAll ps gen gone name index last bytes).set i (bits .xor .u8 (y : Int) (Int.fdiv 128 (2 ^ min j 8))) = c at *
        have n4 : (decF c).1 ≠ 4 := fun h4 => hnp (decF_whole h4)
        have n1 : (decF c).1 ≠ 1 := fun h1 => by rw [decF_free h1] at hnf; cases hnf
        have n4' : ((decF c).1 != 4) = true := by simp [n4]
        have n1' : ((decF c).1 != 1) = true := by simp [n1]
        rw [f20_eq hBs (show 6100 < k by omega), if_pos (by rw [hsl]; exact hin)]
        simp only [apP, beq_self_eq_true, cond_true, n4', n1', f13_eq (show 30 < k by omega)]
  · have e' : (encErr ps gen gone name index last bytes != 0) = true := by simp [e]
    simp only [e', cond_true, e, if_false, f13_eq (show 30 < k by omega)]
    simp
end Go.Proofs.Ytecnlienmpdlaaa.PM
