/- Plain laws of commands: what the ground does. -/
import Derived.Test.YtadkplikobhckaaPlTakes
set_option linter.unusedSimpArgs false
set_option linter.unusedVariables false
namespace Go.Proofs.Ytadkplikobhckaa.PM
open Go Go.Proofs.Ytadkplikobhckaa.Bt
variable {R : Type}

structure Gd where
  a : Int
  s : Int
  q : List (List Int)
  w : Int
  st : Bool
def zG : Gd := ⟨0, 0, [], 0, false⟩
theorem f74_eq {k : Nat} (hk : 1 < k) (a lo hi : Int) (K : Int → Option R) : f74 k a lo hi K = K (if inB a lo hi then 0 else 1) := by
  rw [f74_def]
  obtain ⟨k, rfl⟩ := succ_of hk
  simp only [f74d, f62_eq (show 0 < k by omega)]
  cases inB a lo hi <;> rfl
def firstBad : List (List Int) → Int
  | [] => 0
  | b :: l => if chkBody b.length = 0 then firstBad l else chkBody b.length
def mn (g : Gd) : Int := if (g.q.length : Int) < g.w then (g.q.length : Int) else g.w
def chkGround (g : Gd) : Int :=
  if inB g.a 0 255 = false then 1 else if inB g.w 1 127 = false then 1 else if 500 < g.q.length then 2 else if firstBad g.q ≠ 0 then firstBad g.q
  else if inB g.s 0 (mn g) then 0 else 1
theorem firstBad_ok : ∀ {l : List (List Int)}, firstBad l = 0 → ∀ b ∈ l, 1 ≤ b.length ∧ b.length ≤ 200
  | [], _, _, h => by cases h
  | c :: l, h, b, hb => by
    simp only [firstBad] at h
    split at h
    · rename_i hc
      rcases List.mem_cons.1 hb with rfl | hb
      · unfold chkBody at hc
        split at hc
        · cases hc
        · split at hc
          · cases hc
          · omega
      · exact firstBad_ok h b hb
    · rename_i hc; exact absurd h hc
structure GOk (g : Gd) : Prop where
  a : 0 ≤ g.a ∧ g.a ≤ 255
  w : 1 ≤ g.w ∧ g.w ≤ 127
  q : g.q.length ≤ 500
  b : ∀ b ∈ g.q, 1 ≤ b.length ∧ b.length ≤ 200
  s : 0 ≤ g.s ∧ g.s ≤ (g.q.length : Int) ∧ g.s ≤ g.w
theorem chkGround_ok {g : Gd} (h : chkGround g = 0) : GOk g := by
  unfold chkGround at h
  cases ha : inB g.a 0 255
  · simp [ha] at h
  · cases hw : inB g.w 1 127
    · simp [ha, hw] at h
    · by_cases h5 : 500 < g.q.length
      · simp [ha, hw, h5] at h
      · by_cases hb : firstBad g.q = 0
        · cases hs : inB g.s 0 (mn g)
          · simp [ha, hw, h5, hb, hs] at h
          · have := inB_iff.1 hs
            refine ⟨inB_iff.1 ha, inB_iff.1 hw, by omega, firstBad_ok hb, ?_⟩
            unfold mn at this
            split at this <;> omega
        · simp [ha, hw, h5, hb] at h

theorem LIM24 : LIM 24 = 5864062014805 := by simp [LIM]
theorem bodies_loop (k : Nat) (K : Bool → Option R) (l : List (List Int)) (hl : l.length ≤ 100000) (hb : ∀ b ∈ l, b.length + 1 < k ∧ b.length ≤ 100000) (m : List (List Int)) (hlm : l.length = m.length) : ∀ (d f i : Nat), i + d = l.length → d < f →
    f46_0d k K (K true) l m (l.length : Int) f (i : Int) = K (decide (l.drop i = m.drop i))
  | d, 0, i, _, h => absurd h (Nat.not_lt_zero _)
  | 0, f + 1, i, hi, _ => by
    have h1 : decide ((i : Int) < (l.length : Int)) = false := by simp only [decide_eq_false_iff_not]; omega
    simp only [f46_0d, f46_0b, h1, cond_false]
    rw [List.drop_of_length_le (by omega), List.drop_of_length_le (by omega)]
    simp
  | d + 1, f + 1, i, hi, hf => by
    have h1 : decide ((i : Int) < (l.length : Int)) = true := by simp only [decide_eq_true_eq]; omega
    have h2 : decide ((i : Int) < (m.length : Int)) = true := by simp only [decide_eq_true_eq]; omega
    have h0 : decide ((0 : Int) ≤ (i : Int)) = true := by simp
    have hw : IntKind.i64.wrap ((i : Int) + 1) = ((i + 1 : Nat) : Int) := by rw [wraps_i64 _ (by omega) (by omega)]; omega
    have hli : i < l.length := by omega
    have hmi : i < m.length := by omega
    have g1 : l.getD i [] = l[i] := by rw [List.getD_eq_getElem?_getD, List.getElem?_eq_getElem hli]; rfl
    have g2 : m.getD i [] = m[i] := by rw [List.getD_eq_getElem?_getD, List.getElem?_eq_getElem hmi]; rfl
    obtain ⟨b1, b2⟩ := hb _ (List.getElem_mem hli)
    simp only [f46_0d, f46_0b, h1, h0, h2, cond_true, Bool.and_self, Int.toNat_natCast, hw, g1, g2]
    rw [f24_eq _ b1 (by omega), List.drop_eq_getElem_cons hli, List.drop_eq_getElem_cons hmi]
    by_cases e : l[i] = m[i]
    · simp only [e, decide_true, Bool.not_true, cond_false, List.cons.injEq, true_and]
      exact bodies_loop k K l hl hb m hlm d f (i + 1) (by omega) (by omega)
    · simp only [List.cons.injEq, e, false_and, decide_false, Bool.not_false, cond_true]
theorem f46_eq {k : Nat} {l : List (List Int)} (m : List (List Int)) (hk : l.length + 5 < k) (hl : l.length ≤ 100000) (hb : ∀ b ∈ l, b.length + 5 < k ∧ b.length ≤ 100000) (K : Bool → Option R) : f46 k l m K = K (decide (l = m)) := by
  rw [f46_def]
  obtain ⟨k, rfl⟩ := succ_of (show 0 < k by omega)
  simp only [f46d, f46_0_def, bne_dec]
  by_cases h : l.length = m.length
  · have : decide ((l.length : Int) = (m.length : Int)) = true := by simp only [decide_eq_true_eq]; omega
    simp only [this, Bool.not_true, cond_false]
    exact (bodies_loop k K l hl (fun b h => ⟨by have := (hb b h).1; omega, (hb b h).2⟩) m h l.length k 0 (by omega) (by omega)).trans (by simp)
  · have : decide ((l.length : Int) = (m.length : Int)) = false := by simp only [decide_eq_false_iff_not]; omega
    have h' : ¬ l = m := fun e => h (by rw [e])
    simp [this, h']
/-! Queue -/
def queueF (g : Gd) (body : List Int) : Gd × Int :=
  if chkGround g ≠ 0 then (zG, chkGround g) else if g.q.length = 500 then (zG, 16) else if chkBody body.length ≠ 0 then (zG, chkBody body.length) else ({ g with q := g.q ++ [body] }, 0)
theorem chkBody_ok {n : Nat} (h : chkBody n = 0) : 1 ≤ n ∧ n ≤ 200 := by
  unfold chkBody at h
  split at h
  · cases h
  · split at h
    · cases h
    · omega
/-! Next -/
def nextS (g : Gd) : Gd × Int × Int × Bool × List Int :=
  if g.st = false ∧ g.s < mn g then ({ g with s := g.s + 1 }, 1, (g.a + g.s) % 256, true, g.q.getD g.s.toNat []) else (g, 0, 0, false, [])
def ap9 (K : Int → Int → List (List Int) → Int → Bool → Int → Int → Bool → List Int → Option R) (x : Gd × Int × Int × Bool × List Int) : Option R := K x.1.a x.1.s x.1.q x.1.w x.1.st x.2.1 x.2.2.1 x.2.2.2.1 x.2.2.2.2
theorem getD_mem {l : List (List Int)} {i : Nat} (h : i < l.length) : l.getD i [] ∈ l := by
  rw [List.getD_eq_getElem?_getD, List.getElem?_eq_getElem h]; exact List.getElem_mem h
def nextF (g : Gd) : (Gd × Int × Int × Bool × List Int) × Int := if chkGround g ≠ 0 then ((zG, 0, 0, false, []), chkGround g) else (nextS g, 0)
def ap10 (K : Int → Int → List (List Int) → Int → Bool → Int → Int → Bool → Int → List Int → Option R) (x : Gd × Int × Int × Bool × List Int) (f : Int) : Option R := K x.1.a x.1.s x.1.q x.1.w x.1.st x.2.1 x.2.2.1 x.2.2.2.1 f x.2.2.2.2
/-! Heard -/
def heardS (g : Gd) (n : Int) (L Rt : Bool) : Gd :=
  if L then { g with st := true } else
  if (n - g.a) % 256 ≤ g.s then { g with a := n, s := if Rt then 0 else g.s - (n - g.a) % 256, q := g.q.drop ((n - g.a) % 256).toNat }
  else { g with st := true, s := if Rt then 0 else g.s }
def ap5 (K : Int → Int → List (List Int) → Int → Bool → Option R) (x : Gd) : Option R := K x.a x.s x.q x.w x.st
theorem heardS_ok {g : Gd} (G : GOk g) {n : Int} (hn : 0 ≤ n ∧ n ≤ 255) (L Rt : Bool) : GOk (heardS g n L Rt) := by
  obtain ⟨s1, s2, s3⟩ := G.s
  have ha := G.a
  unfold heardS
  split
  · exact ⟨G.a, G.w, G.q, G.b, G.s⟩
  · split
    · refine ⟨hn, G.w, by simp only [List.length_drop]; have := G.q; omega, fun b hb => G.b b (List.mem_of_mem_drop hb), ?_⟩
      simp only [List.length_drop]
      have := G.w
      split <;> omega
    · refine ⟨G.a, G.w, G.q, G.b, ?_⟩
      have := G.w
      simp only
      split <;> omega
def heardF (g : Gd) (n : Int) (L Rt : Bool) : Gd × Int := if chkGround g ≠ 0 then (zG, chkGround g) else if inB n 0 255 = false then (zG, 1) else (heardS g n L Rt, 0)
/-! what they give is not too long -/
def Small (g : Gd) : Prop := g.q.length ≤ 501 ∧ ∀ b ∈ g.q, b.length ≤ 200
theorem GOk.small {g : Gd} (G : GOk g) : Small g := ⟨by have := G.q; omega, fun b h => (G.b b h).2⟩
theorem zG_small : Small zG := ⟨by simp [zG], fun b h => by simp [zG] at h⟩
theorem queueF_small (g : Gd) (body : List Int) : Small (queueF g body).1 := by
  unfold queueF
  split
  · exact zG_small
  · rename_i hg
    split
    · exact zG_small
    · split
      · exact zG_small
      · rename_i hb
        have G := chkGround_ok (Decidable.not_not.1 hg)
        have hbb := chkBody_ok (Decidable.not_not.1 hb)
        refine ⟨by simp; have := G.q; omega, fun b h => ?_⟩
        simp only [List.mem_append, List.mem_singleton] at h
        rcases h with h | rfl
        · exact (G.b b h).2
        · exact hbb.2
theorem nextF_small (g : Gd) : Small (nextF g).1.1 ∧ (nextF g).1.2.2.2.2.length ≤ 200 := by
  unfold nextF
  split
  · exact ⟨zG_small, by simp⟩
  · rename_i hg
    have G := chkGround_ok (Decidable.not_not.1 hg)
    unfold nextS
    split
    · rename_i h
      refine ⟨⟨by have := G.q; simp only; omega, fun b h => (G.b b h).2⟩, ?_⟩
      refine (G.b _ (getD_mem ?_)).2
      have hm := h.2
      have hs := G.s
      unfold mn at hm
      split at hm <;> omega
    · exact ⟨G.small, by simp⟩
theorem heardF_small (g : Gd) (n : Int) (L Rt : Bool) : Small (heardF g n L Rt).1 := by
  unfold heardF
  split
  · exact zG_small
  · rename_i hg
    split
    · exact zG_small
    · rename_i hi
      exact (heardS_ok (chkGround_ok (Decidable.not_not.1 hg)) (inB_iff.1 (by simpa using hi)) L Rt).small
end Go.Proofs.Ytadkplikobhckaa.PM
