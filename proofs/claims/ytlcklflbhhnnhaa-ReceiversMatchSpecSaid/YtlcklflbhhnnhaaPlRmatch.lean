/- Plain laws of receivers: Waiting, CheckReceiving and Take are as specified. -/
import Derived.Test.YtlcklflbhhnnhaaPlB
set_option linter.unusedSimpArgs false
set_option linter.unusedVariables false
namespace Go.Proofs.Ytlcklflbhhnnhaa.PM
open Go Go.Proofs.Ytlcklflbhhnnhaa.Bt
variable {R : Type}
theorem endR_len (wait kind : Int) (r : Rv) (h : r.hv.length ≤ 2000) : (endR wait kind r).1.1.hv.length ≤ 2000 ∧ (∀ x ∈ (endR wait kind r).1.2, x.2.2.2.2.2.2.2.1.length ≤ 3000) ∧ (endR wait kind r).1.2.length ≤ 1 := by
  unfold endR
  split
  · exact ⟨h, by simp [doneL], by simp⟩
  · split
    · exact ⟨h, by simp, by simp⟩
    · split
      · exact ⟨by simp [zR], by simp, by simp⟩
      · refine ⟨h, ?_, by simp⟩
        intro x hx
        rw [List.mem_singleton] at hx
        subst hx
        have := lackF_len r
        show (lackF r).length ≤ 3000
        omega
theorem tkR_len (wait : Int) (r : Rv) (kind id : Int) (nm : ByteArray) (size sum : Int) (fr : Nat) (b : List Int) (h : r.hv.length ≤ 2000) :
    (tkR wait r kind id nm size sum fr b).1.1.hv.length ≤ 2000 ∧ (∀ x ∈ (tkR wait r kind id nm size sum fr b).1.2, x.2.2.2.2.2.2.2.1.length ≤ 3000) ∧ (tkR wait r kind id nm size sum fr b).1.2.length ≤ 1 := by
  unfold tkR
  split
  · exact ⟨h, by simp, by simp⟩
  split
  · refine ⟨h, ?_, ?_⟩
    · intro x hx
      simp only at hx
      split at hx
      · simp at hx; subst hx; simp [doneL]
      · cases hx
    · simp only; split <;> simp
  split
  · exact ⟨h, by simp, by simp⟩
  split
  · exact ⟨h, by simp [stopR], by simp⟩
  split
  · split
    · exact ⟨by simp [zR], by simp, by simp⟩
    · rename_i h2
      exact endR_len wait kind (busy (putR r fr b)) (by show (putH r.hv fr b.length).length ≤ 2000; omega)
  · exact endR_len wait kind (busy (sizeR r kind nm size sum)) h
theorem takeR_len (a b c d e : Int) (r : Rv) (kind id : Int) (nm : ByteArray) (size sum fr : Int) (bs : List Int) (hs : List Rg) (good : Bool) :
    (takeR a b c d e r kind id nm size sum fr bs hs good).1.1.hv.length ≤ 2000 ∧ (∀ x ∈ (takeR a b c d e r kind id nm size sum fr bs hs good).1.2, x.2.2.2.2.2.2.2.1.length ≤ 3000) ∧ (takeR a b c d e r kind id nm size sum fr bs hs good).1.2.length ≤ 1 := by
  unfold takeR
  split
  · exact ⟨by simp [zR], by simp, by simp⟩
  split
  · exact ⟨by simp [zR], by simp, by simp⟩
  rename_i h2
  split
  · exact ⟨by simp [zR], by simp, by simp⟩
  exact tkR_len _ _ _ _ _ _ _ _ _ (((chkRecv_full r).1 (Classical.not_not.1 h2)).hv.len)
def waitR (id : Int) : Rv × Int := if inB id 0 65535 = true then (⟨0, id, ⟨#[]⟩, [], [], -1, 0, 0, 0⟩, 0) else (zR, 1)
theorem waitR_dat (id : Int) : (waitR id).1.dat = [] ∧ (waitR id).1.hv = [] := by unfold waitR; split <;> exact ⟨rfl, rfl⟩
theorem f53_eq {k : Nat} (hk : 1 < k) (id : Int) (K : Int → Int → ByteArray → Int → Int → Int → Int → Int → Option R) : f53 k id K = K (waitR id).1.st (waitR id).1.id (waitR id).1.nm (waitR id).1.sz (waitR id).1.sum (waitR id).1.wt (waitR id).1.tr (waitR id).2 := by
  rw [f53_def]
  obtain ⟨k, rfl⟩ := succ_of hk
  simp only [f53d, f66_eq (show 0 < k by omega), waitR]
  cases inB id 0 65535 <;> rfl
theorem f54_eq {k : Nat} (hk : 1 < k) (id : Int) (K : Int → Int → ByteArray → Int → Int → Int → Int → Int → Option R) : f54 k id K = K (waitR id).1.st (waitR id).1.id (waitR id).1.nm (waitR id).1.sz (waitR id).1.sum (waitR id).1.wt (waitR id).1.tr (waitR id).2 := by
  rw [f54_def]
  obtain ⟨k, rfl⟩ := succ_of hk
  simp only [f54d, f72_eq (show 0 < k by omega), waitR]
  cases inB id 0 65535 <;> rfl
theorem f12_eq {k : Nat} (i a b c d e : Int) (r : Rv) (kind id : Int) (nm : ByteArray) (size sum fr : Int) (bs : List Int) (hs : List Rg) (good : Bool) (hu : U8 r.dat) (hub : U8 bs) (hn : r.nm.size < 4611686018427387904) (hn2 : nm.size < 4611686018427387904)
    (hk : r.nm.size + r.hv.length + nm.size + hs.length + 120000 < k) (K : Bool → Option R) :
    f12 k i a b c d e r.st r.id r.nm r.dat r.hv r.sz r.sum r.wt r.tr kind id nm size sum fr bs hs good K = K true := by
  obtain ⟨j, rfl⟩ := succ_of (show 0 < k by omega)
  rw [f12_def]
  simp only [f12d]
  rw [f53_eq (by omega), f54_eq (by omega), f52_eq a b c d e r kind id nm size sum fr bs hs good hu hub hn hn2 (by omega)]
  unfold apRF
  dsimp only
  rw [f55_eq a b c d e r kind id nm size sum fr bs hs good hu hub hn hn2 (by omega)]
  unfold apRF
  dsimp only
  have hw := waitR_dat i
  have e1 := f38_refl (R := R) (k := j) (waitR i).1 (by rw [hw.2]; simp; omega) (by rw [hw.2]; simp)
  rw [hw.1, hw.2] at e1
  rw [e1]
  simp only [BEq.rfl, cond_true]
  rw [f56_eq r hn (by omega), f57_eq r hn (by omega)]
  simp only [BEq.rfl, cond_true]
  obtain ⟨g1, g2, g3⟩ := takeR_len a b c d e r kind id nm size sum fr bs hs good
  generalize takeR a b c d e r kind id nm size sum fr bs hs good = x at g1 g2 g3
  rw [f38_refl x.1.1 (by omega) (by omega)]
  simp only [BEq.rfl, cond_true]
  rw [f32_refl' (by omega) (by omega) g2]
  simp only [BEq.rfl, cond_true]
  rw [f24_eq (by omega)]
end Go.Proofs.Ytlcklflbhhnnhaa.PM
